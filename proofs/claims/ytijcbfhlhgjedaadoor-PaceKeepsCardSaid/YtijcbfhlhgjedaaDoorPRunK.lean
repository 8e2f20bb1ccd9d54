/- A run that is built place by place in a list of zeros. -/
import Derived.Test.YtijcbfhlhgjedaaDoorPHeardP
import Derived.Test.YtijcbfhlhgjedaaDoorPKnown3
namespace Go.Proofs.YtijcbfhlhgjedaaDoor
open Go.RowKit Go.Shelf Go.Sort Go.Proofs

/-- The block of a list of numbers. -/
def blkI (l : List Int) : Array Value := (l.map fun i => Value.int .i64 i).toArray
theorem blkI_at {l : List Int} {j : Nat} {x : Int} (h : l[j]? = some x) : (blkI l)[j]? = some (.int .i64 x) := by
  unfold blkI
  rw [List.getElem?_toArray, List.getElem?_map, h]
  rfl
theorem blkI_set (l : List Int) (j : Nat) (x : Int) : (blkI l).setIfInBounds j (.int .i64 x) = blkI (l.set j x) := by
  unfold blkI
  rw [List.setIfInBounds_toArray, List.map_set]
theorem infoI4 : (Tryd.prog.info? 3).map (fun i => (i.zero, i.size, i.bytes)) = some (some (.int .i64 0), 1, 8) := by kernel_rfl
theorem made_ints (n : Nat) : madeCells #[.int .i64 0] n = blkI (List.replicate n 0) := by
  unfold madeCells blkI
  apply Array.ext'
  rw [Array.toList_map, Array.toList_range, List.map_replicate]
  refine List.ext_getElem? fun j => ?_
  rw [List.getElem?_map, List.getElem?_replicate]
  rcases Nat.lt_or_ge j n with hj | hj
  · rw [List.getElem?_range hj, if_pos hj]
    simp [Nat.mod_one]
  · rw [List.getElem?_eq_none (by simpa using hj), if_neg (by omega)]
    rfl
theorem make_ints (N : Nat) (hN : N ≤ 100000) (w : World) : (Instr.makeSlice 28 (.int .i64 ((N : Int) + 1)) (.int .i64 ((N : Int) + 1))).run Tryd.prog w =
    .ok (.slice (some ⟨w.heap.size, 0, none⟩) (N + 1) (N + 1)) (w.alloc (.cells (blkI (List.replicate (N + 1) 0)) 3)) := by
  obtain ⟨ie, hie, hiz, his, hib⟩ := info_parts infoI4
  have hr := run_makeSlice (P := Tryd.prog) w 28 3 ie (.int .i64 0) Tryd.underlying28 hie hiz .i64 .i64 ((N : Int) + 1) ((N : Int) + 1) (by omega) (by omega) (by rw [his]; omega) (by rw [hib]; omega) (by omega)
  rw [hr, his, ← made_ints]
  have e1 : ((N : Int) + 1).toNat = N + 1 := by omega
  have e2 : (N + 1) * 1 = N + 1 := by omega
  rw [e1, e2]
  rfl
end Go.Proofs.YtijcbfhlhgjedaaDoor
