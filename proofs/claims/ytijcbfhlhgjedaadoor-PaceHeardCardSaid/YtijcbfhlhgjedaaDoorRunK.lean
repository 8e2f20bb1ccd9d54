/- A run that is built place by place in a list of zeros. -/
import Derived.Test.YtijcbfhlhgjedaaDoorHeardP
import Derived.Test.YtijcbfhlhgjedaaDoorKnown3
namespace Go.Proofs.YtijcbfhlhgjedaaDoor
open Go.RowKit Go.Shelf Go.Sort Go.Proofs

def runK (N : Nat) (v : Nat → Int) (k : Nat) : List Int := (List.range' 0 (N + 1)).map fun j => if j ≤ k then v j else 0
theorem runK_len (N : Nat) (v : Nat → Int) (k : Nat) : (runK N v k).length = N + 1 := by simp [runK]
theorem runK_at {N : Nat} {v : Nat → Int} {k j : Nat} (h : j ≤ N) : (runK N v k)[j]? = some (if j ≤ k then v j else 0) := by
  simp [runK, Nat.lt_succ_of_le h]
theorem runK_0 {N : Nat} {v : Nat → Int} (h : v 0 = 0) : runK N v 0 = List.replicate (N + 1) 0 := by
  refine List.ext_getElem? fun j => ?_
  rcases Nat.lt_or_ge N j with hj | hj
  · rw [List.getElem?_eq_none (by rw [runK_len]; omega), List.getElem?_eq_none (by rw [List.length_replicate]; omega)]
  · rw [runK_at hj, show (List.replicate (N + 1) (0 : Int))[j]? = some 0 by rw [List.getElem?_replicate, if_pos (by omega)]]
    by_cases h0 : j ≤ 0
    · rw [if_pos h0, show j = 0 by omega, h]
    · rw [if_neg h0]
theorem runK_set {N : Nat} {v : Nat → Int} {k : Nat} (h : k + 1 ≤ N) : (runK N v k).set (k + 1) (v (k + 1)) = runK N v (k + 1) := by
  refine List.ext_getElem? fun j => ?_
  rcases Nat.lt_or_ge N j with hj | hj
  · rw [List.getElem?_eq_none (by rw [List.length_set, runK_len]; omega), List.getElem?_eq_none (by rw [runK_len]; omega)]
  · rw [runK_at hj, List.getElem?_set, runK_at hj]
    by_cases he : k + 1 = j
    · subst he
      rw [if_pos rfl, if_pos (by rw [runK_len]; omega), if_pos (Nat.le_refl _)]
    · rw [if_neg he]
      by_cases h1 : j ≤ k
      · rw [if_pos h1, if_pos (by omega)]
      · rw [if_neg h1, if_neg (by omega)]
theorem runK_N (N : Nat) (v : Nat → Int) : runK N v N = runL N v := by
  refine List.ext_getElem? fun j => ?_
  rcases Nat.lt_or_ge N j with hj | hj
  · rw [List.getElem?_eq_none (by rw [runK_len]; omega), List.getElem?_eq_none (by rw [runL_len]; omega)]
  · rw [runK_at hj, runL_at hj, if_pos hj]
/-- The block of a list of numbers. -/
def blkI (l : List Int) : Array Value := (l.map fun i => Value.int .i64 i).toArray
theorem blkI_at {l : List Int} {j : Nat} {x : Int} (h : l[j]? = some x) : (blkI l)[j]? = some (.int .i64 x) := by
  unfold blkI
  rw [List.getElem?_toArray, List.getElem?_map, h]
  rfl
theorem blkI_set (l : List Int) (j : Nat) (x : Int) : (blkI l).setIfInBounds j (.int .i64 x) = blkI (l.set j x) := by
  unfold blkI
  rw [List.setIfInBounds_toArray, List.map_set]
theorem infoI4 : (Tryd.prog.info? 3).map (fun i => (i.zero, i.size, i.bytes)) = some (some (.int .i64 0), 1, 8) := by kernel_rfl
theorem made_ints (n : Nat) : madeCells #[.int .i64 0] n = blkI (List.replicate n 0) := by
  unfold madeCells blkI
  apply Array.ext'
  rw [Array.toList_map, Array.toList_range, List.map_replicate]
  refine List.ext_getElem? fun j => ?_
  rw [List.getElem?_map, List.getElem?_replicate]
  rcases Nat.lt_or_ge j n with hj | hj
  · rw [List.getElem?_range hj, if_pos hj]
    simp [Nat.mod_one]
  · rw [List.getElem?_eq_none (by simpa using hj), if_neg (by omega)]
    rfl
theorem make_ints (N : Nat) (hN : N ≤ 100000) (w : World) : (Instr.makeSlice 28 (.int .i64 ((N : Int) + 1)) (.int .i64 ((N : Int) + 1))).run Tryd.prog w =
    .ok (.slice (some ⟨w.heap.size, 0, none⟩) (N + 1) (N + 1)) (w.alloc (.cells (blkI (List.replicate (N + 1) 0)) 3)) := by
  obtain ⟨ie, hie, hiz, his, hib⟩ := info_parts infoI4
  have hr := run_makeSlice (P := Tryd.prog) w 28 3 ie (.int .i64 0) Tryd.underlying28 hie hiz .i64 .i64 ((N : Int) + 1) ((N : Int) + 1) (by omega) (by omega) (by rw [his]; omega) (by rw [hib]; omega) (by omega)
  rw [hr, his, ← made_ints]
  have e1 : ((N : Int) + 1).toNat = N + 1 := by omega
  have e2 : (N + 1) * 1 = N + 1 := by omega
  rw [e1, e2]
  rfl
end Go.Proofs.YtijcbfhlhgjedaaDoor
