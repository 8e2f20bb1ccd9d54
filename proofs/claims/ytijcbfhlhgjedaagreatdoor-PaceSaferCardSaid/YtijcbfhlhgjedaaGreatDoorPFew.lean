/- The pace laws' small tests: few, quick, fine. -/
import Derived.Test.YtijcbfhlhgjedaaGreatDoorPCBBase
import Derived.Test.YtijcbfhlhgjedaaGreatDoorPCBRoad
import Derived.Test.YtijcbfhlhgjedaaGreatDoorPCBLeaf
import Derived.Test.YtijcbfhlhgjedaaGreatDoorPCBCheck
import Derived.Test.YtijcbfhlhgjedaaGreatDoorPCBValid
import Derived.Test.YtijcbfhlhgjedaaGreatDoorPCBFind
import Derived.Test.YtijcbfhlhgjedaaGreatDoorPCBReg
import Derived.Test.YtijcbfhlhgjedaaGreatDoorPCBGrouped
import Derived.Test.YtijcbfhlhgjedaaGreatDoorPCBPG
import Derived.Test.YtijcbfhlhgjedaaGreatDoorPCBStr
import Derived.Test.YtijcbfhlhgjedaaGreatDoorPCBCmp
import Derived.Test.YtijcbfhlhgjedaaGreatDoorPCBOpen
import Derived.Test.YtijcbfhlhgjedaaGreatDoorPCBReg7
import Derived.Test.YtijcbfhlhgjedaaGreatDoorPCPRow
import Derived.Test.YtijcbfhlhgjedaaGreatDoorPCMtr
import Derived.Test.YtijcbfhlhgjedaaGreatDoorPCReg8
import Derived.Test.YtijcbfhlhgjedaaGreatDoorPCSpCk
import Derived.Test.YtijcbfhlhgjedaaGreatDoorPCPlanM
import Derived.Test.YtijcbfhlhgjedaaGreatDoorPCLast
import Derived.Test.YtijcbfhlhgjedaaGreatDoorPCBeg
import Derived.Test.YtijcbfhlhgjedaaGreatDoorPCRoom
import Derived.Test.YtijcbfhlhgjedaaGreatDoorPCCallsB
import Derived.Test.YtijcbfhlhgjedaaGreatDoorPCPlan
import Derived.Test.YtijcbfhlhgjedaaGreatDoorPCBetw
import Derived.Test.YtijcbfhlhgjedaaGreatDoorPCKn03P
import Derived.Test.YtijcbfhlhgjedaaGreatDoorPCRef3
namespace Go.Proofs.YtijcbfhlhgjedaaGreatDoor
open Go.RowKit Go.Shelf Go.Sort Go.Proofs

set_option maxRecDepth 100000 in
set_option maxHeartbeats 4000000 in
theorem few_any (pa : Option Addr) (pn pc : Nat) (ca : Option Addr) (cn cc : Nat) (ja : Option Addr) (jn jc : Nat) (R : Road) (w : World) (h : RD w w.heap.size pa pn ca cn ja jn R) (hmx : pn ≤ 9223372036854775807) :
    Calls Tryz.prog 5 #[.agg #[.slice pa pn pc, .slice ca cn cc, .slice ja jn jc]] w fun e w' => e = .returned (.bool (fewB R)) ∧ Below w.heap.size w w' := by
  have HR := Lib.hid h
  have HLP := Lib.hid h.p.1
  have HLC := Lib.hid h.c.1
  have HLJ := Lib.hid h.j.1
  clear h
  obtain ⟨w0, hw0⟩ : ∃ w0, w0 = w.alloc (.cells #[.slice pa pn pc, .slice ca cn cc, .slice ja jn jc] 26) := ⟨_, rfl⟩
  have hB0 : Below w.heap.size w w0 := by rw [hw0]; exact (Below.refl w.heap.size w).alloc (Nat.le_refl _) _
  have hX0 : BK w0 w.heap.size 26 #[.slice pa pn pc, .slice ca cn cc, .slice ja jn jc] := by rw [hw0]; exact BK.new w _ _
  go_enter Tryz.func5, Tryz.ntmps5
  go_wp2_with fail
  rw [← hw0]
  clear hw0
  have hz0 := hB0.size
  have hlX := hX0.lt
  go_loopw [3, 4] (fun n i wr => ∃ (k : Nat) (v : Int), k ≤ pn ∧ i = .int .i64 k ∧ n = .int .i64 v ∧ Hid (pn ≤ 60 → v = fLen (R.ps.take k)) ∧ Below w0.heap.size w0 wr)
    (fun _ i _ => pn - (intOf i).toNat)
  case atStart => exact ⟨0, 0, Nat.zero_le _, rfl, rfl, fun _ => rfl, Below.refl _ _⟩
  case round =>
    obtain ⟨k, v, hk, rfl, rfl, hv, hbr⟩ := hrel
    have hBr := hB0.trans (hbr.mono hz0)
    have hXr := hX0.below hbr hX0.lt
    have x0 := hXr.cell 0
    have x1 := hXr.cell 1
    have x2 := hXr.cell 2
    simp only [List.getElem?_toArray, List.getElem?_cons_zero, List.getElem?_cons_succ] at x0 x1 x2
    by_cases hlt : k < pn
    · have hkl : k < R.ps.length := by rw [← HLP.out]; exact hlt
      obtain ⟨b, off, hA, hbB, c0, c1, c2, c3, c4⟩ := PS.at_ (HR.out.p.grow hBr hBr.size) (k := k) hkl
      have hst := Lib.hid (show fLen (R.ps.take (k + 1)) = fLen (R.ps.take k) + if 0 < (R.ps[k]'hkl).len ∧ (R.ps[k]'hkl).len ≤ 5000 then (R.ps[k]'hkl).len else 0 by rw [List.take_succ_eq_append_getElem hkl, fLen_snoc])
      have hbd := fLen_bd (R.ps.take k)
      have htl : (R.ps.take k).length ≤ k := List.length_take_le ..
      generalize R.ps[k]'hkl = p at c0 hst
      clear hkl c1 c2 c3 c4
      have hi1 : (0 : Int) ≤ (k : Int) := by omega
      have hi2 : (k : Int) < (pn : Int) := by omega
      subst hA
      by_cases h1 : 0 < p.len
      case neg =>
        have g1 : decide (0 < p.len) = false := by simpa using h1
        have hn : Hid (pn ≤ 60 → v = fLen (R.ps.take (k + 1))) := fun h60 => by rw [hst.out, if_neg (fun q => h1 q.1), Int.add_zero]; exact hv.out h60
        clear h1 hbd htl
        go_wp2_with fail
        go_roundw
        case rel => exact ⟨k + 1, v, by omega, by go_num, rfl, hn, hbr⟩
        case measure => simp [intOf]; omega
      have g1 : decide (0 < p.len) = true := by simpa using h1
      by_cases h2 : p.len ≤ 5000
      case neg =>
        have g2 : decide (p.len ≤ 5000) = false := by simpa using h2
        have hn : Hid (pn ≤ 60 → v = fLen (R.ps.take (k + 1))) := fun h60 => by rw [hst.out, if_neg (fun q => h2 q.2), Int.add_zero]; exact hv.out h60
        clear h1 h2 hbd htl
        go_wp2_with fail
        go_roundw
        case rel => exact ⟨k + 1, v, by omega, by go_num, rfl, hn, hbr⟩
        case measure => simp [intOf]; omega
      have g2 : decide (p.len ≤ 5000) = true := by simpa using h2
      have hn : Hid (pn ≤ 60 → IntKind.i64.wrap (v + p.len) = fLen (R.ps.take (k + 1))) := fun h60 => by
        have e := hv.out h60
        rw [hst.out, if_pos ⟨h1, h2⟩, ← e]
        exact IntWalk.i64_in _ (by omega)
      obtain ⟨v', hv'⟩ : ∃ v', v' = IntKind.i64.wrap (v + p.len) := ⟨_, rfl⟩
      rw [← hv'] at hn
      have hsum : IntKind.i64.wrap (v + p.len) = v' := hv'.symm
      clear h1 h2 hbd htl hv'
      go_wp2_with fail
      go_roundw
      case rel => exact ⟨k + 1, v', by omega, by go_num, rfl, hn, hbr⟩
      case measure => simp [intOf]; omega
    · obtain rfl : pn = k := by omega
      by_cases h60 : pn ≤ 60
      case neg =>
        have hc : Hid (fewB R = false) := by show _ = _; unfold fewB; rw [← HLP.out]; simp [h60]
        have g2 : decide ((pn : Int) ≤ 60) = false := decide_eq_false (by omega)
        by_cases h1 : v ≤ 120
        · have g1 : decide (v ≤ 120) = true := by simpa using h1
          clear h1 h60
          go_wp2_with fail
          go_ret
          exact ⟨ret_bool hc.out.symm, hB0.trans (hbr.mono hz0)⟩
        · have g1 : decide (v ≤ 120) = false := by simpa using h1
          clear h1 h60
          go_wp2_with fail
          go_ret
          exact ⟨ret_bool hc.out.symm, hB0.trans (hbr.mono hz0)⟩
      have hve : v = fLen R.ps := by have := hv.out h60; rwa [HLP.out, List.take_length] at this
      have g2 : decide ((pn : Int) ≤ 60) = true := decide_eq_true (by omega)
      by_cases h1 : v ≤ 120
      case neg =>
        have hc : Hid (fewB R = false) := by show _ = _; unfold fewB; rw [← hve]; simp [h1]
        have g1 : decide (v ≤ 120) = false := by simpa using h1
        clear h1 h60 hve
        go_wp2_with fail
        go_ret
        exact ⟨ret_bool hc.out.symm, hB0.trans (hbr.mono hz0)⟩
      have g1 : decide (v ≤ 120) = true := by simpa using h1
      have hc : Hid (fewB R = (decide ((cn : Int) ≤ 40) && decide ((jn : Int) ≤ 40))) := by
        show _ = _
        rw [show decide ((cn : Int) ≤ 40) = decide (cn ≤ 40) from decide_eq_decide.2 (by omega), show decide ((jn : Int) ≤ 40) = decide (jn ≤ 40) from decide_eq_decide.2 (by omega)]
        unfold fewB; rw [← hve, ← HLP.out, ← HLC.out, ← HLJ.out]; simp [h1, h60]
      clear h1 h60 hve
      by_cases h2 : cn ≤ 40
      case neg =>
        have g3 : decide ((cn : Int) ≤ 40) = false := decide_eq_false (by omega)
        rw [g3, Bool.false_and] at hc
        clear h2
        go_wp2_with fail
        go_ret
        exact ⟨ret_bool hc.out.symm, hB0.trans (hbr.mono hz0)⟩
      have g3 : decide ((cn : Int) ≤ 40) = true := decide_eq_true (by omega)
      rw [g3, Bool.true_and] at hc
      clear h2
      go_wp2_with fail
      go_ret
      exact ⟨ret_bool hc.out.symm, hB0.trans (hbr.mono hz0)⟩
theorem quick_any3 (ra : Option Addr) (rn rc : Nat) (sa : Option Addr) (sn sc : Nat) (S : Spd) (w : World) (h : SD w w.heap.size ra rn sa sn S) :
    Calls Tryz.prog 6 #[.agg #[.int .i64 S.least, .int .i64 S.most, .slice ra rn rc, .slice sa sn sc]] w fun e w' => e = .returned (.bool (quickB S)) ∧ Below w.heap.size w w' := by
  have HLR := Lib.hid h.r.1
  have HLS := Lib.hid h.s.1
  have hB0 : Below w.heap.size w (w.alloc (.cells #[.int .i64 S.least, .int .i64 S.most, .slice ra rn rc, .slice sa sn sc] 30)) := (Below.refl w.heap.size w).alloc (Nat.le_refl _) _
  clear h
  by_cases h1 : rn ≤ 40
  case neg =>
    have hc : Hid (quickB S = false) := by show _ = _; unfold quickB; rw [← HLR.out, decide_eq_false h1]; rfl
    have g1 : decide ((rn : Int) ≤ 40) = false := decide_eq_false (by omega)
    clear h1
    go_enter Tryz.func6, Tryz.ntmps6
    go_wp2_with fail
    go_ret
    exact ⟨ret_bool hc.out.symm, hB0⟩
  have g1 : decide ((rn : Int) ≤ 40) = true := decide_eq_true (by omega)
  have hc : Hid (quickB S = decide ((sn : Int) ≤ 20)) := by show _ = _; rw [show decide ((sn : Int) ≤ 20) = decide (sn ≤ 20) from decide_eq_decide.2 (by omega)]; unfold quickB; rw [← HLR.out, ← HLS.out, decide_eq_true h1]; rfl
  go_enter Tryz.func6, Tryz.ntmps6
  go_wp2_with fail
  go_ret
  exact ⟨ret_bool hc.out.symm, hB0⟩
set_option maxRecDepth 100000 in
theorem fine_any (pa : Option Addr) (pn pc : Nat) (ca : Option Addr) (cn cc : Nat) (ja : Option Addr) (jn jc : Nat) (R : Road) (ra : Option Addr) (rn rc : Nat) (sa : Option Addr) (sn sc : Nat) (S : Spd) (w : World)
    (h : RD w w.heap.size pa pn ca cn ja jn R) (hD : SD w w.heap.size ra rn sa sn S) :
    Calls Tryz.prog 7 #[.agg #[.slice pa pn pc, .slice ca cn cc, .slice ja jn jc], .agg #[.int .i64 S.least, .int .i64 S.most, .slice ra rn rc, .slice sa sn sc]] w fun e w' => e = .returned (.bool (val R && spB S)) ∧ Below w.heap.size w w' := by
  have HR := Lib.hid h
  have HD := Lib.hid hD
  clear h hD
  obtain ⟨w0, hw0⟩ : ∃ w0, w0 = (w.alloc (.cells #[.slice pa pn pc, .slice ca cn cc, .slice ja jn jc] 26)).alloc (.cells #[.int .i64 S.least, .int .i64 S.most, .slice ra rn rc, .slice sa sn sc] 30) := ⟨_, rfl⟩
  have hB0 : Below w.heap.size w w0 := by rw [hw0]; exact ((Below.refl w.heap.size w).alloc (Nat.le_refl _) _).alloc (by simp) _
  have hX0 : BK w0 w.heap.size 26 #[.slice pa pn pc, .slice ca cn cc, .slice ja jn jc] := by rw [hw0]; exact (BK.new w _ _).alloc _
  have hY0 : BK w0 (w.heap.size + 1) 30 #[.int .i64 S.least, .int .i64 S.most, .slice ra rn rc, .slice sa sn sc] := by
    rw [hw0]; have := BK.new (w.alloc (.cells #[.slice pa pn pc, .slice ca cn cc, .slice ja jn jc] 26)) 30 #[.int .i64 S.least, .int .i64 S.most, .slice ra rn rc, .slice sa sn sc]; rw [World.size_alloc] at this; exact this
  go_enter Tryz.func7, Tryz.ntmps7
  go_wp2_with fail
  rw [← hw0]
  clear hw0
  have x0 := hX0.cell 0
  have x1 := hX0.cell 1
  have x2 := hX0.cell 2
  simp only [List.getElem?_toArray, List.getElem?_cons_zero, List.getElem?_cons_succ] at x0 x1 x2
  go_wp2_with fail
  clear x0 x1 x2
  refine (Valid_any _ _ _ _ _ _ _ _ _ R _ (HR.out.grow hB0 hB0.size)).mono ?_
  rintro e w1 ⟨rfl, hk0⟩
  have hB1 := hB0.trans (hk0.mono hB0.size)
  have hY1 := hY0.below hk0 hY0.lt
  cases hv : val R
  · have HV := Lib.hid hv
    clear hv
    go_wp2_with fail
    go_ret
    exact ⟨ret_bool (by rw [HV.out]; rfl), hB1⟩
  have HV := Lib.hid hv
  clear hv
  have y0 := hY1.cell 0
  have y1 := hY1.cell 1
  have y2 := hY1.cell 2
  have y3 := hY1.cell 3
  simp only [List.getElem?_toArray, List.getElem?_cons_zero, List.getElem?_cons_succ] at y0 y1 y2 y3
  go_wp2_with fail
  clear y0 y1 y2 y3
  refine (RSpeeds_any ra rn rc sa sn sc S w1 (HD.out.grow hB1 hB1.size)).mono ?_
  rintro e w2 ⟨rfl, hk1⟩
  have hB2 := hB1.trans (hk1.mono hB1.size)
  go_wp2_with fail
  go_ret
  exact ⟨ret_bool (by rw [HV.out]; rfl), hB2⟩
end Go.Proofs.YtijcbfhlhgjedaaGreatDoor
