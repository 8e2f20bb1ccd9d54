/- Package score: at; slices.Contains of a car among all; a fresh row that is filled from the front. Printed by gensci.py. -/
import Derived.Test.YtafclpmnpamipaaGreatQScF
namespace Go.Proofs.YtafclpmnpamipaaGreat
open Go.RowKit Go.Shelf Go.Sort Go.Proofs

/-- A row of n values, the first k of which are f's. -/
def fillA (n : Nat) (f : Nat → Value) (z : Value) (k : Nat) : Array Value := ((List.range n).map fun j => if j < k then f j else z).toArray
theorem fill_at {n : Nat} (f : Nat → Value) (z : Value) (k : Nat) {j : Nat} (h : j < n) : (fillA n f z k)[j]? = some (if j < k then f j else z) := by
  unfold fillA
  rw [List.getElem?_toArray, List.getElem?_map, List.getElem?_range h]
  rfl
theorem fill_set {n : Nat} (f : Nat → Value) (z : Value) {k : Nat} : (fillA n f z k).setIfInBounds k (f k) = fillA n f z (k + 1) := by
  refine Array.ext (by simp [fillA]) fun j h1 h2 => ?_
  have hj : j < n := by simpa [fillA] using h2
  have e2 := fill_at f z (k + 1) hj
  rw [Array.getElem?_eq_getElem h2] at e2
  have e1 := fill_at f z k hj
  rw [Array.getElem?_eq_getElem (by simpa using h1)] at e1
  rw [Array.getElem_setIfInBounds (by simpa using h1)]
  split
  · rename_i hkj
    subst hkj
    have := Option.some.inj e2
    rw [if_pos (Nat.lt_succ_self _)] at this
    exact this.symm
  · rename_i hkj
    have q1 := Option.some.inj e1
    have q2 := Option.some.inj e2
    rw [q1, q2]
    by_cases h : j < k
    · rw [if_pos h, if_pos (by omega)]
    · rw [if_neg h, if_neg (by omega)]
theorem fill_all (n : Nat) (f : Nat → Value) (z : Value) : (fillA n f z n).toList = (List.range n).map f := by
  unfold fillA
  refine List.map_congr_left fun j hj => ?_
  rw [if_pos (List.mem_range.1 hj)]
theorem fill_none (n : Nat) (f : Nat → Value) (z : Value) : fillA n f z 0 = Array.replicate n z := by
  unfold fillA
  refine Array.ext (by simp) fun j h1 h2 => ?_
  simp
theorem mkS_ints (N : Nat) (hN : N ≤ 1000) (w : World) : (Instr.makeSlice 28 (.int .i64 (N : Int)) (.int .i64 (N : Int))).run Tryz.prog w =
    .ok (.slice (some ⟨w.heap.size, 0, none⟩) N N) (w.alloc (.cells (Array.replicate N (.int .i64 0)) 3)) := by
  obtain ⟨ie, hie, hiz, his, hib⟩ := info_parts infoEI
  have hr := run_makeSlice (P := Tryz.prog) w 28 3 ie (.int .i64 0) Tryz.underlying28 hie hiz .i64 .i64 (N : Int) (N : Int) (by omega) (by omega) (by rw [his]; omega) (by rw [hib]; omega) (by omega)
  rw [hr, his]
  have e1 : ((N : Int)).toNat = N := by omega
  rw [e1, Nat.mul_one]
  have e2 : madeCells (Value.int .i64 0).cells N = Array.replicate N (.int .i64 0) := by
    refine Array.ext (by simp [madeCells, Value.cells]) fun j h1 h2 => ?_
    simp [madeCells, Value.cells, Nat.mod_one]
  rw [e2]
theorem infoRI : (Tryz.prog.info? 28).map (fun i => (i.zero, i.size, i.bytes)) = some (some (.slice none 0 0), 1, 24) := by kernel_rfl
theorem mkS_rows (N : Nat) (hN : N ≤ 1000) (w : World) : (Instr.makeSlice 114 (.int .i64 (N : Int)) (.int .i64 (N : Int))).run Tryz.prog w =
    .ok (.slice (some ⟨w.heap.size, 0, none⟩) N N) (w.alloc (.cells (Array.replicate N (.slice none 0 0)) 28)) := by
  obtain ⟨ie, hie, hiz, his, hib⟩ := info_parts infoRI
  have hr := run_makeSlice (P := Tryz.prog) w 114 28 ie (.slice none 0 0) Tryz.underlying114 hie hiz .i64 .i64 (N : Int) (N : Int) (by omega) (by omega) (by rw [his]; omega) (by rw [hib]; omega) (by omega)
  rw [hr, his]
  have e1 : ((N : Int)).toNat = N := by omega
  rw [e1, Nat.mul_one]
  have e2 : madeCells (Value.slice none 0 0).cells N = Array.replicate N (.slice none 0 0) := by
    refine Array.ext (by simp [madeCells, Value.cells]) fun j h1 h2 => ?_
    simp [madeCells, Value.cells, Nat.mod_one]
  rw [e2]
theorem scAt (A : Option Addr) (n c : Nat) (xs : List Int) (k : Nat) (w : World) (h : SL iC 1 w w.heap.size A n xs) :
    Calls Tryz.prog 55 #[.slice A n c, .int .i64 k] w fun e w' => e = .returned (.int .i64 (xs.getD k 0)) ∧ w = w' := by
  by_cases hk : k < n
  · have hkl : k < xs.length := by rw [← h.1]; exact hk
    obtain ⟨b, off, hA, hb, hc⟩ := IS.at_ h hkl
    have e : xs.getD k 0 = xs[k]'hkl := by rw [List.getD_eq_getElem?_getD, List.getElem?_eq_getElem hkl]; rfl
    rw [e]
    generalize xs[k]'hkl = x at *
    have h1 : decide ((n : Int) ≤ (k : Int)) = false := by simp; omega
    have h2 : decide (n ≤ k) = false := by simp; omega
    have h3 : (0 : Int) ≤ (k : Int) := by omega
    have h4 : (k : Int) < (n : Int) := by omega
    clear h e
    subst hA
    go_enter Tryz.func55, Tryz.ntmps55
    go_wp2_with fail
    go_ret
    exact ⟨rfl, rfl⟩
  · have e : xs.getD k 0 = 0 := by rw [List.getD_eq_getElem?_getD, List.getElem?_eq_none (by rw [← h.1]; omega)]; rfl
    rw [e]
    have h1 : decide ((n : Int) ≤ (k : Int)) = true := by simp; omega
    have h2 : decide (n ≤ k) = true := by simp; omega
    clear h e
    go_enter Tryz.func55, Tryz.ntmps55
    go_wp2_with fail
    go_ret
    exact ⟨rfl, rfl⟩
set_option maxRecDepth 100000 in
theorem rngIndex (A : Option Addr) (n c k : Nat) (hk : k < n) (w : World) (h : SL iC 1 w w.heap.size A n (rng n)) (hn : n ≤ 200) :
    Calls Tryz.prog 99 #[.slice A n c, .int .i64 k] w fun e w' => e = .returned (.int .i64 k) ∧ w = w' := by
  have HS := Lib.hid h
  clear h
  go_enter Tryz.func99, Tryz.ntmps99
  go_wp2_with fail
  go_loopw [8] (fun i wr => ∃ j : Nat, j ≤ k ∧ i = .int .i64 j ∧ w = wr) (fun i _ => n - (intOf i).toNat)
  case atStart => exact ⟨0, Nat.zero_le _, rfl, rfl⟩
  case round =>
    obtain ⟨j, hj, rfl, rfl⟩ := hrel
    have hjl : j < (rng n).length := by rw [rng_len]; omega
    obtain ⟨b, off, hA, hbB, c0⟩ := IS.at_ HS.out (k := j) hjl
    rw [rng_at] at c0
    have hk1 : (0 : Int) ≤ (j : Int) := by omega
    have hk2 : (j : Int) < (n : Int) := by omega
    subst hA
    by_cases hjk : j = k
    · subst hjk
      have hd : ((j : Int) == (j : Int)) = true := by simp
      go_wp2_with fail
      go_ret
      exact ⟨rfl, rfl⟩
    · have hd : ((k : Int) == (j : Int)) = false := by simp; omega
      have hdn : (k == j) = false := by simp; omega
      go_wp2_with fail
      go_roundw
      case rel => exact ⟨j + 1, by omega, by go_num, by trivial⟩
      case measure => simp [intOf]; omega
theorem rngContains (A : Option Addr) (n c k : Nat) (hk : k < n) (w : World) (h : SL iC 1 w w.heap.size A n (rng n)) (hn : n ≤ 200) :
    Calls Tryz.prog 42 #[.slice A n c, .int .i64 k] w fun e w' => e = .returned (.bool true) ∧ w = w' := by
  have HI := Lib.hid (rngIndex A n c k hk w h hn)
  have hk1 : (0 : Int) ≤ (k : Int) := by omega
  clear h
  go_enter Tryz.func42, Tryz.ntmps42
  go_wp2_with (go_at_call 99; refine HI.out.mono ?_; rintro e w' ⟨rfl, rfl⟩)
  go_ret
  exact ⟨rfl, rfl⟩
end Go.Proofs.YtafclpmnpamipaaGreat
