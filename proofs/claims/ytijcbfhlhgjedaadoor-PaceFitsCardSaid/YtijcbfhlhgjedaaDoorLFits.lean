/- The law function PaceFits, walked: it returns true. -/
import Derived.Test.YtijcbfhlhgjedaaDoorKnown3
import Derived.Test.YtijcbfhlhgjedaaDoorSome
import Derived.Test.YtijcbfhlhgjedaaDoorRFits
namespace Go.Proofs.YtijcbfhlhgjedaaDoor
open Go.RowKit Go.Shelf Go.Sort Go.Proofs

set_option maxRecDepth 100000 in
set_option maxHeartbeats 8000000 in
theorem LFits_walk (pa : Option Addr) (pn pc : Nat) (ca : Option Addr) (cn cc : Nat) (ja : Option Addr) (jn jc : Nat) (R : Road) (ra : Option Addr) (rn rc : Nat) (sa : Option Addr) (sn sc : Nat) (S : Spd) (la : Option Addr) (ln lc : Nat) (ls : List PassR) (ua : Option Addr) (un uc : Nat) (us : List Int) (w : World)
    (h : RD w w.heap.size pa pn ca cn ja jn R) (hD : SD w w.heap.size ra rn sa sn S) (hL : SL paC 3 w w.heap.size la ln ls) (hU : SL iC 1 w w.heap.size ua un us) (hmx : pn ≤ 9223372036854775807) (hrg : ∀ x ∈ us, -9223372036854775808 ≤ x ∧ x ≤ 9223372036854775807) :
    Calls Tryd.prog 6 #[.agg #[.slice pa pn pc, .slice ca cn cc, .slice ja jn jc], .agg #[.int .i64 S.least, .int .i64 S.most, .slice ra rn rc, .slice sa sn sc], .slice la ln lc, .slice ua un uc] w fun e w' => e = .returned (.bool true) ∧ Below w.heap.size w w' := by
  have HRG := Lib.hid hrg
  clear hrg
  have HR := Lib.hid h
  have HD := Lib.hid hD
  have HL := Lib.hid hL
  have HU := Lib.hid hU
  clear h hD hL hU
  obtain ⟨w0, hw0⟩ : ∃ w0, w0 = (w.alloc (.cells #[.slice pa pn pc, .slice ca cn cc, .slice ja jn jc] 26)).alloc (.cells #[.int .i64 S.least, .int .i64 S.most, .slice ra rn rc, .slice sa sn sc] 30) := ⟨_, rfl⟩
  have hB0 : Below w.heap.size w w0 := by rw [hw0]; exact ((Below.refl w.heap.size w).alloc (Nat.le_refl _) _).alloc (by simp) _
  have hX0 : BK w0 (w.heap.size) 26 #[.slice pa pn pc, .slice ca cn cc, .slice ja jn jc] := by rw [hw0]; exact ((BK.new w 26 #[.slice pa pn pc, .slice ca cn cc, .slice ja jn jc])).alloc _
  have hY0 : BK w0 (w.heap.size + 1) 30 #[.int .i64 S.least, .int .i64 S.most, .slice ra rn rc, .slice sa sn sc] := by rw [hw0]; have := BK.new (w.alloc (.cells #[.slice pa pn pc, .slice ca cn cc, .slice ja jn jc] 26)) 30 #[.int .i64 S.least, .int .i64 S.most, .slice ra rn rc, .slice sa sn sc]; rw [World.size_alloc] at this; exact this
  go_enter Tryd.func6, Tryd.ntmps6
  go_wp2_with fail
  rw [← hw0]
  clear hw0
  have x0 := hX0.cell 0
  have x1 := hX0.cell 1
  have x2 := hX0.cell 2
  have y0 := hY0.cell 0
  have y1 := hY0.cell 1
  have y2 := hY0.cell 2
  have y3 := hY0.cell 3
  simp only [List.getElem?_toArray, List.getElem?_cons_zero, List.getElem?_cons_succ] at x0 x1 x2 y0 y1 y2 y3
  go_wp2_with fail
  clear x0 x1 x2 y0 y1 y2 y3
  refine (few_any pa pn pc ca cn cc ja jn jc R w0 (HR.out.grow hB0 hB0.size) hmx).mono ?_
  rintro e w1 ⟨rfl, hk⟩
  have hB1 := hB0.trans (hk.mono hB0.size)
  have hX1 := hX0.below hk hX0.lt
  have hY1 := hY0.below hk hY0.lt
  clear hX0 hY0 hB0 hk
  cases hfew : fewB R
  case false =>
    go_wp2_with fail
    have hBX := hB1
    refine (known_any _).mono ?_
    rintro e w9 ⟨rfl, hk⟩
    go_wp2_with fail
    go_ret
    exact ⟨rfl, hBX.trans (hk.mono hBX.size)⟩
  have x0 := hX1.cell 0
  have x1 := hX1.cell 1
  have x2 := hX1.cell 2
  have y0 := hY1.cell 0
  have y1 := hY1.cell 1
  have y2 := hY1.cell 2
  have y3 := hY1.cell 3
  simp only [List.getElem?_toArray, List.getElem?_cons_zero, List.getElem?_cons_succ] at x0 x1 x2 y0 y1 y2 y3
  go_wp2_with fail
  clear x0 x1 x2 y0 y1 y2 y3
  refine (quick_any3 ra rn rc sa sn sc S w1 (HD.out.grow hB1 hB1.size)).mono ?_
  rintro e w2 ⟨rfl, hk⟩
  have hB2 := hB1.trans (hk.mono hB1.size)
  have hX2 := hX1.below hk hX1.lt
  have hY2 := hY1.below hk hY1.lt
  clear hX1 hY1 hB1 hk
  cases hqu : quickB S
  case false =>
    go_wp2_with fail
    have hBX := hB2
    refine (known_any _).mono ?_
    rintro e w9 ⟨rfl, hk⟩
    go_wp2_with fail
    go_ret
    exact ⟨rfl, hBX.trans (hk.mono hBX.size)⟩
  by_cases gl0 : ln ≤ 220
  case neg =>
    have gl : decide ((220 : Int) < (ln : Int)) = true := decide_eq_true (by omega)
    have x0 := hX2.cell 0
    have x1 := hX2.cell 1
    have x2 := hX2.cell 2
    have y0 := hY2.cell 0
    have y1 := hY2.cell 1
    have y2 := hY2.cell 2
    have y3 := hY2.cell 3
    simp only [List.getElem?_toArray, List.getElem?_cons_zero, List.getElem?_cons_succ] at x0 x1 x2 y0 y1 y2 y3
    go_wp2_with fail
    have hBX := hB2
    refine (known_any _).mono ?_
    rintro e w9 ⟨rfl, hk⟩
    go_wp2_with fail
    go_ret
    exact ⟨rfl, hBX.trans (hk.mono hBX.size)⟩
  have gl : decide ((220 : Int) < (ln : Int)) = false := decide_eq_false (by omega)
  by_cases gm0 : un ≤ 200
  case neg =>
    have gm : decide ((200 : Int) < (un : Int)) = true := decide_eq_true (by omega)
    have x0 := hX2.cell 0
    have x1 := hX2.cell 1
    have x2 := hX2.cell 2
    have y0 := hY2.cell 0
    have y1 := hY2.cell 1
    have y2 := hY2.cell 2
    have y3 := hY2.cell 3
    simp only [List.getElem?_toArray, List.getElem?_cons_zero, List.getElem?_cons_succ] at x0 x1 x2 y0 y1 y2 y3
    go_wp2_with fail
    have hBX := hB2
    refine (known_any _).mono ?_
    rintro e w9 ⟨rfl, hk⟩
    go_wp2_with fail
    go_ret
    exact ⟨rfl, hBX.trans (hk.mono hBX.size)⟩
  have gm : decide ((200 : Int) < (un : Int)) = false := decide_eq_false (by omega)
  clear hfew hqu
  have HLU := Lib.hid HU.out.1
  have x0 := hX2.cell 0
  have x1 := hX2.cell 1
  have x2 := hX2.cell 2
  have y0 := hY2.cell 0
  have y1 := hY2.cell 1
  have y2 := hY2.cell 2
  have y3 := hY2.cell 3
  simp only [List.getElem?_toArray, List.getElem?_cons_zero, List.getElem?_cons_succ] at x0 x1 x2 y0 y1 y2 y3
  go_wp2_with fail
  clear x0 x1 x2 y0 y1 y2 y3
  refine (Fits_all pa pn pc ca cn cc ja jn jc R ra rn rc sa sn sc S la ln lc ls ua un uc us w2 (HR.out.grow hB2 hB2.size) (HD.out.grow hB2 hB2.size) (HL.out.grow hB2 hB2.size) (HU.out.grow hB2 hB2.size) (by omega) (by omega) HRG.out).mono ?_
  rintro e w3 ⟨rfl, hk⟩
  have hB3 := hB2.trans (hk.mono hB2.size)
  have hX3 := hX2.below hk hX2.lt
  have hY3 := hY2.below hk hY2.lt
  clear hX2 hY2 hB2 hk
  cases hvs : val R && spB S
  case false =>
    have HVS := Lib.hid hvs
    clear hvs
    rw [fitAll_bad (by unfold fitOkB; rw [HVS.out]; rfl)]
    dsimp only
    have x0 := hX3.cell 0
    have x1 := hX3.cell 1
    have x2 := hX3.cell 2
    have y0 := hY3.cell 0
    have y1 := hY3.cell 1
    have y2 := hY3.cell 2
    have y3 := hY3.cell 3
    simp only [List.getElem?_toArray, List.getElem?_cons_zero, List.getElem?_cons_succ] at x0 x1 x2 y0 y1 y2 y3
    go_wp2_with fail
    clear x0 x1 x2 y0 y1 y2 y3
    refine (fine_any pa pn pc ca cn cc ja jn jc R ra rn rc sa sn sc S w3 (HR.out.grow hB3 hB3.size) (HD.out.grow hB3 hB3.size)).mono ?_
    rintro e w4 ⟨rfl, hk⟩
    have hB4 := hB3.trans (hk.mono hB3.size)
    have hX4 := hX3.below hk hX3.lt
    have hY4 := hY3.below hk hY3.lt
    clear hX3 hY3 hB3 hk
    rw [HVS.out]
    go_wp2_with fail
    have hBX := hB4
    refine (known_any _).mono ?_
    rintro e w9 ⟨rfl, hk⟩
    go_wp2_with fail
    go_ret
    exact ⟨rfl, hBX.trans (hk.mono hBX.size)⟩
  have HVS := Lib.hid hvs
  have HV : Hid (OK R) := by have := hvs; rw [Bool.and_eq_true] at this; exact (val_iff R).1 this.1
  have HS : Hid (SOK S) := by have := hvs; rw [Bool.and_eq_true] at this; exact (spB_iff S).1 this.2
  clear hvs
  cases hpb : pB (sumL R.ps) ls
  case false =>
    have HPB := Lib.hid hpb
    clear hpb
    rw [fitAll_bad (by unfold fitOkB; rw [HVS.out, HPB.out]; rfl)]
    dsimp only
    have x0 := hX3.cell 0
    have x1 := hX3.cell 1
    have x2 := hX3.cell 2
    have y0 := hY3.cell 0
    have y1 := hY3.cell 1
    have y2 := hY3.cell 2
    have y3 := hY3.cell 3
    simp only [List.getElem?_toArray, List.getElem?_cons_zero, List.getElem?_cons_succ] at x0 x1 x2 y0 y1 y2 y3
    go_wp2_with fail
    clear x0 x1 x2 y0 y1 y2 y3
    refine (fine_any pa pn pc ca cn cc ja jn jc R ra rn rc sa sn sc S w3 (HR.out.grow hB3 hB3.size) (HD.out.grow hB3 hB3.size)).mono ?_
    rintro e w4 ⟨rfl, hk⟩
    have hB4 := hB3.trans (hk.mono hB3.size)
    have hX4 := hX3.below hk hX3.lt
    have hY4 := hY3.below hk hY3.lt
    clear hX3 hY3 hB3 hk
    rw [HVS.out]
    have x0 := hX4.cell 0
    have x1 := hX4.cell 1
    have x2 := hX4.cell 2
    have y0 := hY4.cell 0
    have y1 := hY4.cell 1
    have y2 := hY4.cell 2
    have y3 := hY4.cell 3
    simp only [List.getElem?_toArray, List.getElem?_cons_zero, List.getElem?_cons_succ] at x0 x1 x2 y0 y1 y2 y3
    go_wp2_with fail
    clear x0 x1 x2 y0 y1 y2 y3
    refine (RPassings_any la ln lc ls pa pn pc ca cn cc ja jn jc R w4 (HR.out.grow hB4 hB4.size) HV.out (HL.out.grow hB4 hB4.size) (by omega)).mono ?_
    rintro e w5 ⟨rfl, hk⟩
    have hB5 := hB4.trans (hk.mono hB4.size)
    have hX5 := hX4.below hk hX4.lt
    have hY5 := hY4.below hk hY4.lt
    clear hX4 hY4 hB4 hk
    rw [HPB.out]
    go_wp2_with fail
    have hBX := hB5
    refine (known_any _).mono ?_
    rintro e w9 ⟨rfl, hk⟩
    go_wp2_with fail
    go_ret
    exact ⟨rfl, hBX.trans (hk.mono hBX.size)⟩
  have HPB := Lib.hid hpb
  have HPO := Lib.hid ((pB_iff _ _).1 hpb)
  clear hpb
  obtain ⟨N, hN⟩ : ∃ N : Nat, sumL R.ps = (N : Int) := ⟨(sumL R.ps).toNat, by have := (sumL_bd R.ps HV.out.pk).1; omega⟩
  have hN1 : N ≤ 100000 := by have := HV.out.n1; omega
  have HN := Lib.hid hN
  clear hN
  by_cases hnu : un = N + 1
  case neg =>
    have g0 : ((un : Int) == (N : Int) + 1) = false := by simp; omega
    have g0' : ((un : Int) != (N : Int) + 1) = true := by simp; omega
    rw [fitAll_bad (by unfold fitOkB; rw [HVS.out, HPB.out, HN.out, Int.toNat_natCast, decide_eq_false (by rw [← HLU.out]; exact hnu)]; rfl)]
    dsimp only
    have x0 := hX3.cell 0
    have x1 := hX3.cell 1
    have x2 := hX3.cell 2
    have y0 := hY3.cell 0
    have y1 := hY3.cell 1
    have y2 := hY3.cell 2
    have y3 := hY3.cell 3
    simp only [List.getElem?_toArray, List.getElem?_cons_zero, List.getElem?_cons_succ] at x0 x1 x2 y0 y1 y2 y3
    go_wp2_with fail
    clear x0 x1 x2 y0 y1 y2 y3
    refine (fine_any pa pn pc ca cn cc ja jn jc R ra rn rc sa sn sc S w3 (HR.out.grow hB3 hB3.size) (HD.out.grow hB3 hB3.size)).mono ?_
    rintro e w4 ⟨rfl, hk⟩
    have hB4 := hB3.trans (hk.mono hB3.size)
    have hX4 := hX3.below hk hX3.lt
    have hY4 := hY3.below hk hY3.lt
    clear hX3 hY3 hB3 hk
    rw [HVS.out]
    have x0 := hX4.cell 0
    have x1 := hX4.cell 1
    have x2 := hX4.cell 2
    have y0 := hY4.cell 0
    have y1 := hY4.cell 1
    have y2 := hY4.cell 2
    have y3 := hY4.cell 3
    simp only [List.getElem?_toArray, List.getElem?_cons_zero, List.getElem?_cons_succ] at x0 x1 x2 y0 y1 y2 y3
    go_wp2_with fail
    clear x0 x1 x2 y0 y1 y2 y3
    refine (RPassings_any la ln lc ls pa pn pc ca cn cc ja jn jc R w4 (HR.out.grow hB4 hB4.size) HV.out (HL.out.grow hB4 hB4.size) (by omega)).mono ?_
    rintro e w5 ⟨rfl, hk⟩
    have hB5 := hB4.trans (hk.mono hB4.size)
    have hX5 := hX4.below hk hX4.lt
    have hY5 := hY4.below hk hY4.lt
    clear hX4 hY4 hB4 hk
    rw [HPB.out]
    have x0 := hX5.cell 0
    have x1 := hX5.cell 1
    have x2 := hX5.cell 2
    have y0 := hY5.cell 0
    have y1 := hY5.cell 1
    have y2 := hY5.cell 2
    have y3 := hY5.cell 3
    simp only [List.getElem?_toArray, List.getElem?_cons_zero, List.getElem?_cons_succ] at x0 x1 x2 y0 y1 y2 y3
    go_wp2_with fail
    clear x0 x1 x2 y0 y1 y2 y3
    refine (R3Length_any pa pn pc ca cn cc ja jn jc R w5 (HR.out.grow hB5 hB5.size) HV.out).mono ?_
    rintro e w6 ⟨rfl, hk⟩
    have hB6 := hB5.trans (hk.mono hB5.size)
    have hX6 := hX5.below hk hX5.lt
    have hY6 := hY5.below hk hY5.lt
    clear hX5 hY5 hB5 hk
    rw [HN.out]
    go_wp2_with fail
    have hBX := hB6
    refine (known_any _).mono ?_
    rintro e w9 ⟨rfl, hk⟩
    go_wp2_with fail
    go_ret
    exact ⟨rfl, hBX.trans (hk.mono hBX.size)⟩
  have g0 : ((un : Int) == (N : Int) + 1) = true := by simp; omega
  have g0' : ((un : Int) != (N : Int) + 1) = false := by simp; omega
  have HNU := Lib.hid hnu
  rw [fitAll_ok (by unfold fitOkB; rw [HVS.out, HPB.out, HN.out, Int.toNat_natCast, decide_eq_true (by rw [← HLU.out]; exact hnu)]; rfl)]
  clear hnu
  dsimp only
  obtain ⟨gd, hgd⟩ : ∃ gd, gd = fitM S R ls us := ⟨_, rfl⟩
  rw [← hgd]
  have HGD := Lib.hid hgd
  clear hgd
  have x0 := hX3.cell 0
  have x1 := hX3.cell 1
  have x2 := hX3.cell 2
  have y0 := hY3.cell 0
  have y1 := hY3.cell 1
  have y2 := hY3.cell 2
  have y3 := hY3.cell 3
  simp only [List.getElem?_toArray, List.getElem?_cons_zero, List.getElem?_cons_succ] at x0 x1 x2 y0 y1 y2 y3
  go_wp2_with fail
  clear x0 x1 x2 y0 y1 y2 y3
  refine (fine_any pa pn pc ca cn cc ja jn jc R ra rn rc sa sn sc S w3 (HR.out.grow hB3 hB3.size) (HD.out.grow hB3 hB3.size)).mono ?_
  rintro e w4 ⟨rfl, hk⟩
  have hB4 := hB3.trans (hk.mono hB3.size)
  have hX4 := hX3.below hk hX3.lt
  have hY4 := hY3.below hk hY3.lt
  clear hX3 hY3 hB3 hk
  rw [HVS.out]
  have x0 := hX4.cell 0
  have x1 := hX4.cell 1
  have x2 := hX4.cell 2
  have y0 := hY4.cell 0
  have y1 := hY4.cell 1
  have y2 := hY4.cell 2
  have y3 := hY4.cell 3
  simp only [List.getElem?_toArray, List.getElem?_cons_zero, List.getElem?_cons_succ] at x0 x1 x2 y0 y1 y2 y3
  go_wp2_with fail
  clear x0 x1 x2 y0 y1 y2 y3
  refine (RPassings_any la ln lc ls pa pn pc ca cn cc ja jn jc R w4 (HR.out.grow hB4 hB4.size) HV.out (HL.out.grow hB4 hB4.size) (by omega)).mono ?_
  rintro e w5 ⟨rfl, hk⟩
  have hB5 := hB4.trans (hk.mono hB4.size)
  have hX5 := hX4.below hk hX4.lt
  have hY5 := hY4.below hk hY4.lt
  clear hX4 hY4 hB4 hk
  rw [HPB.out]
  have x0 := hX5.cell 0
  have x1 := hX5.cell 1
  have x2 := hX5.cell 2
  have y0 := hY5.cell 0
  have y1 := hY5.cell 1
  have y2 := hY5.cell 2
  have y3 := hY5.cell 3
  simp only [List.getElem?_toArray, List.getElem?_cons_zero, List.getElem?_cons_succ] at x0 x1 x2 y0 y1 y2 y3
  go_wp2_with fail
  clear x0 x1 x2 y0 y1 y2 y3
  refine (R3Length_any pa pn pc ca cn cc ja jn jc R w5 (HR.out.grow hB5 hB5.size) HV.out).mono ?_
  rintro e w6 ⟨rfl, hk⟩
  have hB6 := hB5.trans (hk.mono hB5.size)
  have hX6 := hX5.below hk hX5.lt
  have hY6 := hY5.below hk hY5.lt
  clear hX5 hY5 hB5 hk
  rw [HN.out]
  have x0 := hX6.cell 0
  have x1 := hX6.cell 1
  have x2 := hX6.cell 2
  have y0 := hY6.cell 0
  have y1 := hY6.cell 1
  have y2 := hY6.cell 2
  have y3 := hY6.cell 3
  simp only [List.getElem?_toArray, List.getElem?_cons_zero, List.getElem?_cons_succ] at x0 x1 x2 y0 y1 y2 y3
  go_wp2_with fail
  clear x0 x1 x2 y0 y1 y2 y3
  refine (RFits_any pa pn pc ca cn cc ja jn jc R ra rn rc sa sn sc S la ln lc ls ua un uc us N w6 (HR.out.grow hB6 hB6.size) (HD.out.grow hB6 hB6.size) (HL.out.grow hB6 hB6.size) (HU.out.grow hB6 hB6.size) HV.out HS.out (by rw [← HN.out]; exact HPO.out) HN.out HNU.out HRG.out).mono ?_
  rintro e w7 ⟨rfl, hk⟩
  have hB7 := hB6.trans (hk.mono hB6.size)
  have hX7 := hX6.below hk hX6.lt
  have hY7 := hY6.below hk hY6.lt
  clear hX6 hY6 hB6 hk
  rw [← HGD.out]
  go_wp2_with fail
  have hBX := hB7
  refine (known_any _).mono ?_
  rintro e w9 ⟨rfl, hk⟩
  go_wp2_with fail
  go_ret
  exact ⟨rfl, hBX.trans (hk.mono hBX.size)⟩
end Go.Proofs.YtijcbfhlhgjedaaDoor
