/- The law's small: a road with few pieces, crests and junctions. -/
import Derived.Test.YtnmipejpjeakbaaGreatDoorPAll
namespace Go.Proofs.YtnmipejpjeakbaaGreatDoor
open Go.RowKit Go.Shelf Go.Sort Go.Proofs

set_option maxRecDepth 100000 in
set_option maxHeartbeats 4000000 in
theorem sml2_any (pa : Option Addr) (pn pc : Nat) (ca : Option Addr) (cn cc : Nat) (ja : Option Addr) (jn jc : Nat) (R : Road) (w : World)
    (h : RD w w.heap.size pa pn ca cn ja jn R) :
    Calls Tryz.prog 31 #[.agg #[.slice pa pn pc, .slice ca cn cc, .slice ja jn jc]] w fun e w' => ∃ m, e = .returned (.bool m) ∧ (m = true → R.ps.length ≤ 20 ∧ R.cs.length ≤ 20 ∧ R.js.length ≤ 20) ∧ Below w.heap.size w w' := by
  obtain ⟨hP, hC, hJ⟩ := h
  have hlp := Lib.hid hP.1
  have hlc := Lib.hid hC.1
  have hlj := Lib.hid hJ.1
  have hW0 : Below w.heap.size w (w.alloc (.cells #[.slice pa pn pc, .slice ca cn cc, .slice ja jn jc] 63)) := (Below.refl w.heap.size w).alloc (Nat.le_refl _) _
  have hw := hP.grow hW0 (B' := w.heap.size + 1) (by omega)
  by_cases g1 : 20 < pn
  · have k1 : decide ((20 : Int) < (pn : Int)) = true := by simp; omega
    go_enter Tryz.func31, Tryz.ntmps31
    go_wp2_with fail
    go_ret
    exact ⟨false, rfl, fun q => (by cases q), hW0⟩
  have k1 : decide ((20 : Int) < (pn : Int)) = false := by simp; omega
  by_cases g2 : 20 < cn
  · have k2 : decide ((20 : Int) < (cn : Int)) = true := by simp; omega
    go_enter Tryz.func31, Tryz.ntmps31
    go_wp2_with fail
    go_ret
    exact ⟨false, rfl, fun q => (by cases q), hW0⟩
  have k2 : decide ((20 : Int) < (cn : Int)) = false := by simp; omega
  by_cases g3 : 20 < jn
  · have k3 : decide ((20 : Int) < (jn : Int)) = true := by simp; omega
    go_enter Tryz.func31, Tryz.ntmps31
    go_wp2_with fail
    go_ret
    exact ⟨false, rfl, fun q => (by cases q), hW0⟩
  have k3 : decide ((20 : Int) < (jn : Int)) = false := by simp; omega
  have hpn : pn ≤ 20 := by omega
  have HQ : Hid (R.ps.length ≤ 20 ∧ R.cs.length ≤ 20 ∧ R.js.length ≤ 20) := ⟨by rw [← hlp.out]; omega, by rw [← hlc.out]; omega, by rw [← hlj.out]; omega⟩
  clear g1 g2 g3
  go_enter Tryz.func31, Tryz.ntmps31
  go_wp2_with fail
  obtain ⟨wr, hwr⟩ : ∃ wr, wr = w.alloc (.cells #[.slice pa pn pc, .slice ca cn cc, .slice ja jn jc] 63) := ⟨_, rfl⟩
  have d0 : wr.cell? ⟨w.heap.size, 0, none⟩ = some (.slice pa pn pc) := by rw [hwr]; simp
  rw [← hwr] at hW0 hw ⊢
  clear hwr k1 k2 k3
  go_loop [3] (fun i => ∃ k : Nat, k ≤ pn ∧ i = .int .i64 k)
    (fun i => pn - (intOf i).toNat)
  case atStart => exact ⟨0, Nat.zero_le _, rfl⟩
  case round =>
    obtain ⟨k, hkn, rfl⟩ := hrel
    by_cases hlt : k < pn
    · have hkl : k < R.ps.length := by rw [← hlp.out]; exact hlt
      obtain ⟨b, off, hA, hbB, c0, c1, c2, c3, c4⟩ := PS.at_ hw (k := k) hkl
      generalize R.ps[k]'hkl = p at c0 c1 c2 c3 c4
      clear hw hkl c1 c2 c3 c4
      subst hA
      by_cases hp1 : 400 < p.len
      · have k1 : decide (400 < p.len) = true := decide_eq_true hp1
        by_cases hp2 : p.len ≤ 5000
        · have k2 : decide (p.len ≤ 5000) = true := decide_eq_true hp2
          go_wp2_with fail
          go_ret
          exact .inl ⟨rfl, hW0⟩
        · have k2 : decide (p.len ≤ 5000) = false := decide_eq_false hp2
          go_wp2_with fail
          go_round
          case rel => exact ⟨k + 1, by omega, by go_num⟩
          case measure => simp [intOf]; omega
      · have k1 : decide (400 < p.len) = false := decide_eq_false hp1
        go_wp2_with fail
        go_round
        case rel => exact ⟨k + 1, by omega, by go_num⟩
        case measure => simp [intOf]; omega
    · obtain rfl : k = pn := by omega
      go_wp2_with fail
      go_ret
      exact .inr ⟨rfl, HQ.out, hW0⟩
end Go.Proofs.YtnmipejpjeakbaaGreatDoor
