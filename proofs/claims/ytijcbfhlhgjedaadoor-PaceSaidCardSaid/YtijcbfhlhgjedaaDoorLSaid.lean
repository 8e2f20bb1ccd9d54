/- The law function PaceSaid, walked: it returns true. -/
import Derived.Test.YtijcbfhlhgjedaaDoorKnown3
import Derived.Test.YtijcbfhlhgjedaaDoorSome
import Derived.Test.YtijcbfhlhgjedaaDoorRTrig
import Derived.Test.YtijcbfhlhgjedaaDoorRSaid
namespace Go.Proofs.YtijcbfhlhgjedaaDoor
open Go.RowKit Go.Shelf Go.Sort Go.Proofs

set_option maxRecDepth 100000 in
set_option maxHeartbeats 8000000 in
theorem LSaid_walk (pa : Option Addr) (pn pc : Nat) (ca : Option Addr) (cn cc : Nat) (ja : Option Addr) (jn jc : Nat) (R : Road) (ka : Option Addr) (kn kc : Nat) (cs : List CallR) (la : Option Addr) (ln lc : Nat) (ls : List Int) (ua : Option Addr) (un uc : Nat) (us : List Int) (w : World)
    (h : RD w w.heap.size pa pn ca cn ja jn R) (hK : SL caC 5 w w.heap.size ka kn cs) (hL : SL iC 1 w w.heap.size la ln ls) (hU : SL iC 1 w w.heap.size ua un us) (hmx : pn ≤ 9223372036854775807) :
    Calls Tryd.prog 9 #[.agg #[.slice pa pn pc, .slice ca cn cc, .slice ja jn jc], .slice ka kn kc, .slice la ln lc, .slice ua un uc] w fun e w' => e = .returned (.bool true) ∧ Below w.heap.size w w' := by
  have HR := Lib.hid h
  have HK := Lib.hid hK
  have HL := Lib.hid hL
  have HU := Lib.hid hU
  clear h hK hL hU
  obtain ⟨w0, hw0⟩ : ∃ w0, w0 = w.alloc (.cells #[.slice pa pn pc, .slice ca cn cc, .slice ja jn jc] 26) := ⟨_, rfl⟩
  have hB0 : Below w.heap.size w w0 := by rw [hw0]; exact (Below.refl w.heap.size w).alloc (Nat.le_refl _) _
  have hX0 : BK w0 (w.heap.size) 26 #[.slice pa pn pc, .slice ca cn cc, .slice ja jn jc] := by rw [hw0]; exact (BK.new w 26 #[.slice pa pn pc, .slice ca cn cc, .slice ja jn jc])
  go_enter Tryd.func9, Tryd.ntmps9
  go_wp2_with fail
  rw [← hw0]
  clear hw0
  have x0 := hX0.cell 0
  have x1 := hX0.cell 1
  have x2 := hX0.cell 2
  simp only [List.getElem?_toArray, List.getElem?_cons_zero, List.getElem?_cons_succ] at x0 x1 x2
  go_wp2_with fail
  clear x0 x1 x2
  refine (few_any pa pn pc ca cn cc ja jn jc R w0 (HR.out.grow hB0 hB0.size) hmx).mono ?_
  rintro e w1 ⟨rfl, hk⟩
  have hB1 := hB0.trans (hk.mono hB0.size)
  have hX1 := hX0.below hk hX0.lt
  clear hX0 hB0 hk
  cases hfew : fewB R
  case false =>
    go_wp2_with fail
    have hBX := hB1
    refine (known_any _).mono ?_
    rintro e w9 ⟨rfl, hk⟩
    go_wp2_with fail
    go_ret
    exact ⟨rfl, hBX.trans (hk.mono hBX.size)⟩
  have x0 := hX1.cell 0
  have x1 := hX1.cell 1
  have x2 := hX1.cell 2
  simp only [List.getElem?_toArray, List.getElem?_cons_zero, List.getElem?_cons_succ] at x0 x1 x2
  go_wp2_with fail
  clear x0 x1 x2
  refine (some_any ka kn kc w1).mono ?_
  rintro e w' ⟨rfl, rfl⟩
  cases hso : decide (kn ≤ 8)
  case false =>
    go_wp2_with fail
    have hBX := hB1
    refine (known_any _).mono ?_
    rintro e w9 ⟨rfl, hk⟩
    go_wp2_with fail
    go_ret
    exact ⟨rfl, hBX.trans (hk.mono hBX.size)⟩
  have hkn : kn ≤ 8 := by simpa using hso
  by_cases gl0 : ln ≤ 20
  case neg =>
    have gl : decide ((20 : Int) < (ln : Int)) = true := decide_eq_true (by omega)
    have x0 := hX1.cell 0
    have x1 := hX1.cell 1
    have x2 := hX1.cell 2
    simp only [List.getElem?_toArray, List.getElem?_cons_zero, List.getElem?_cons_succ] at x0 x1 x2
    go_wp2_with fail
    have hBX := hB1
    refine (known_any _).mono ?_
    rintro e w9 ⟨rfl, hk⟩
    go_wp2_with fail
    go_ret
    exact ⟨rfl, hBX.trans (hk.mono hBX.size)⟩
  have gl : decide ((20 : Int) < (ln : Int)) = false := decide_eq_false (by omega)
  by_cases gm0 : un ≤ 200
  case neg =>
    have gm : decide ((200 : Int) < (un : Int)) = true := decide_eq_true (by omega)
    have x0 := hX1.cell 0
    have x1 := hX1.cell 1
    have x2 := hX1.cell 2
    simp only [List.getElem?_toArray, List.getElem?_cons_zero, List.getElem?_cons_succ] at x0 x1 x2
    go_wp2_with fail
    have hBX := hB1
    refine (known_any _).mono ?_
    rintro e w9 ⟨rfl, hk⟩
    go_wp2_with fail
    go_ret
    exact ⟨rfl, hBX.trans (hk.mono hBX.size)⟩
  have gm : decide ((200 : Int) < (un : Int)) = false := decide_eq_false (by omega)
  clear hfew hso
  have HLK := Lib.hid HK.out.1
  have x0 := hX1.cell 0
  have x1 := hX1.cell 1
  have x2 := hX1.cell 2
  simp only [List.getElem?_toArray, List.getElem?_cons_zero, List.getElem?_cons_succ] at x0 x1 x2
  go_wp2_with fail
  clear x0 x1 x2
  refine (Said_all pa pn pc ca cn cc ja jn jc R ka kn kc cs la ln lc ls ua un uc us w1 (HR.out.grow hB1 hB1.size) (HK.out.grow hB1 hB1.size) (HL.out.grow hB1 hB1.size) (HU.out.grow hB1 hB1.size) (by omega) (by omega) (by omega)).mono ?_
  rintro e w2 ⟨A, n, c, rfl, hP, hk⟩
  have hP2 := hP
  clear hP
  have hB2 := hB1.trans (hk.mono hB1.size)
  have hX2 := hX1.below hk hX1.lt
  clear hX1 hB1 hk
  cases hvb : val R
  case false =>
    have HVB := Lib.hid hvb
    clear hvb
    rw [saidAll_bad (by unfold saidOkB; rw [HVB.out]; rfl)] at hP2 ⊢
    dsimp only at hP2 ⊢
    have hn0 : n = 0 := hP2.1
    subst hn0
    have x0 := hX2.cell 0
    have x1 := hX2.cell 1
    have x2 := hX2.cell 2
    simp only [List.getElem?_toArray, List.getElem?_cons_zero, List.getElem?_cons_succ] at x0 x1 x2
    go_wp2_with fail
    clear x0 x1 x2
    refine (Valid_any pa pn pc ca cn cc ja jn jc R w2 (HR.out.grow hB2 hB2.size)).mono ?_
    rintro e w3 ⟨rfl, hk⟩
    have hP3 := hP2.grow hk hk.size
    clear hP2
    have hB3 := hB2.trans (hk.mono hB2.size)
    have hX3 := hX2.below hk hX2.lt
    clear hX2 hB2 hk
    rw [HVB.out]
    go_wp2_with fail
    have hBX := hB3
    refine (known_any _).mono ?_
    rintro e w9 ⟨rfl, hk⟩
    go_wp2_with fail
    go_ret
    exact ⟨rfl, hBX.trans (hk.mono hBX.size)⟩
  have HVB := Lib.hid hvb
  have HV := Lib.hid ((val_iff R).1 hvb)
  clear hvb
  cases hcb : cB (sumL R.ps) cs
  case false =>
    have HCB := Lib.hid hcb
    clear hcb
    rw [saidAll_bad (by unfold saidOkB; rw [HVB.out, HCB.out]; rfl)] at hP2 ⊢
    dsimp only at hP2 ⊢
    have hn0 : n = 0 := hP2.1
    subst hn0
    have x0 := hX2.cell 0
    have x1 := hX2.cell 1
    have x2 := hX2.cell 2
    simp only [List.getElem?_toArray, List.getElem?_cons_zero, List.getElem?_cons_succ] at x0 x1 x2
    go_wp2_with fail
    clear x0 x1 x2
    refine (Valid_any pa pn pc ca cn cc ja jn jc R w2 (HR.out.grow hB2 hB2.size)).mono ?_
    rintro e w3 ⟨rfl, hk⟩
    have hP3 := hP2.grow hk hk.size
    clear hP2
    have hB3 := hB2.trans (hk.mono hB2.size)
    have hX3 := hX2.below hk hX2.lt
    clear hX2 hB2 hk
    rw [HVB.out]
    have x0 := hX3.cell 0
    have x1 := hX3.cell 1
    have x2 := hX3.cell 2
    simp only [List.getElem?_toArray, List.getElem?_cons_zero, List.getElem?_cons_succ] at x0 x1 x2
    go_wp2_with fail
    clear x0 x1 x2
    refine (RCalls_any ka kn kc cs pa pn pc ca cn cc ja jn jc R w3 (HR.out.grow hB3 hB3.size) HV.out (HK.out.grow hB3 hB3.size) (by omega)).mono ?_
    rintro e w4 ⟨rfl, hk⟩
    have hP4 := hP3.grow hk hk.size
    clear hP3
    have hB4 := hB3.trans (hk.mono hB3.size)
    have hX4 := hX3.below hk hX3.lt
    clear hX3 hB3 hk
    rw [HCB.out]
    go_wp2_with fail
    have hBX := hB4
    refine (known_any _).mono ?_
    rintro e w9 ⟨rfl, hk⟩
    go_wp2_with fail
    go_ret
    exact ⟨rfl, hBX.trans (hk.mono hBX.size)⟩
  have HCB := Lib.hid hcb
  have HC := Lib.hid ((cB_iff _ _).1 hcb)
  clear hcb
  cases htb : trB (sumL R.ps) kn ls
  case false =>
    have HTB := Lib.hid htb
    clear htb
    rw [saidAll_bad (by unfold saidOkB; rw [HVB.out, HCB.out, ← HLK.out, HTB.out]; rfl)] at hP2 ⊢
    dsimp only at hP2 ⊢
    have hn0 : n = 0 := hP2.1
    subst hn0
    have x0 := hX2.cell 0
    have x1 := hX2.cell 1
    have x2 := hX2.cell 2
    simp only [List.getElem?_toArray, List.getElem?_cons_zero, List.getElem?_cons_succ] at x0 x1 x2
    go_wp2_with fail
    clear x0 x1 x2
    refine (Valid_any pa pn pc ca cn cc ja jn jc R w2 (HR.out.grow hB2 hB2.size)).mono ?_
    rintro e w3 ⟨rfl, hk⟩
    have hP3 := hP2.grow hk hk.size
    clear hP2
    have hB3 := hB2.trans (hk.mono hB2.size)
    have hX3 := hX2.below hk hX2.lt
    clear hX2 hB2 hk
    rw [HVB.out]
    have x0 := hX3.cell 0
    have x1 := hX3.cell 1
    have x2 := hX3.cell 2
    simp only [List.getElem?_toArray, List.getElem?_cons_zero, List.getElem?_cons_succ] at x0 x1 x2
    go_wp2_with fail
    clear x0 x1 x2
    refine (RCalls_any ka kn kc cs pa pn pc ca cn cc ja jn jc R w3 (HR.out.grow hB3 hB3.size) HV.out (HK.out.grow hB3 hB3.size) (by omega)).mono ?_
    rintro e w4 ⟨rfl, hk⟩
    have hP4 := hP3.grow hk hk.size
    clear hP3
    have hB4 := hB3.trans (hk.mono hB3.size)
    have hX4 := hX3.below hk hX3.lt
    clear hX3 hB3 hk
    rw [HCB.out]
    have x0 := hX4.cell 0
    have x1 := hX4.cell 1
    have x2 := hX4.cell 2
    simp only [List.getElem?_toArray, List.getElem?_cons_zero, List.getElem?_cons_succ] at x0 x1 x2
    go_wp2_with fail
    clear x0 x1 x2
    refine (R3Trig_any ka kn kc la ln lc ls pa pn pc ca cn cc ja jn jc R w4 (HR.out.grow hB4 hB4.size) HV.out (HL.out.grow hB4 hB4.size) (by omega)).mono ?_
    rintro e w5 ⟨rfl, hk⟩
    have hP5 := hP4.grow hk hk.size
    clear hP4
    have hB5 := hB4.trans (hk.mono hB4.size)
    have hX5 := hX4.below hk hX4.lt
    clear hX4 hB4 hk
    rw [HTB.out]
    go_wp2_with fail
    have hBX := hB5
    refine (known_any _).mono ?_
    rintro e w9 ⟨rfl, hk⟩
    go_wp2_with fail
    go_ret
    exact ⟨rfl, hBX.trans (hk.mono hBX.size)⟩
  have HTB := Lib.hid htb
  have HT : Hid (TOK (sumL R.ps) cs.length ls) := by have := (trB_iff _ _ _).1 htb; rw [HLK.out] at this; exact this
  clear htb
  obtain ⟨N, hN⟩ : ∃ N : Nat, sumL R.ps = (N : Int) := ⟨(sumL R.ps).toNat, by have := (sumL_bd R.ps HV.out.pk).1; omega⟩
  have HN := Lib.hid hN
  clear hN
  cases hub : trB maxR (N + 1) us
  case false =>
    have HUB := Lib.hid hub
    clear hub
    rw [saidAll_bad (by unfold saidOkB; rw [HVB.out, HCB.out, ← HLK.out, HTB.out, HN.out, Int.toNat_natCast, HUB.out]; rfl)] at hP2 ⊢
    dsimp only at hP2 ⊢
    have hn0 : n = 0 := hP2.1
    subst hn0
    have x0 := hX2.cell 0
    have x1 := hX2.cell 1
    have x2 := hX2.cell 2
    simp only [List.getElem?_toArray, List.getElem?_cons_zero, List.getElem?_cons_succ] at x0 x1 x2
    go_wp2_with fail
    clear x0 x1 x2
    refine (Valid_any pa pn pc ca cn cc ja jn jc R w2 (HR.out.grow hB2 hB2.size)).mono ?_
    rintro e w3 ⟨rfl, hk⟩
    have hP3 := hP2.grow hk hk.size
    clear hP2
    have hB3 := hB2.trans (hk.mono hB2.size)
    have hX3 := hX2.below hk hX2.lt
    clear hX2 hB2 hk
    rw [HVB.out]
    have x0 := hX3.cell 0
    have x1 := hX3.cell 1
    have x2 := hX3.cell 2
    simp only [List.getElem?_toArray, List.getElem?_cons_zero, List.getElem?_cons_succ] at x0 x1 x2
    go_wp2_with fail
    clear x0 x1 x2
    refine (RCalls_any ka kn kc cs pa pn pc ca cn cc ja jn jc R w3 (HR.out.grow hB3 hB3.size) HV.out (HK.out.grow hB3 hB3.size) (by omega)).mono ?_
    rintro e w4 ⟨rfl, hk⟩
    have hP4 := hP3.grow hk hk.size
    clear hP3
    have hB4 := hB3.trans (hk.mono hB3.size)
    have hX4 := hX3.below hk hX3.lt
    clear hX3 hB3 hk
    rw [HCB.out]
    have x0 := hX4.cell 0
    have x1 := hX4.cell 1
    have x2 := hX4.cell 2
    simp only [List.getElem?_toArray, List.getElem?_cons_zero, List.getElem?_cons_succ] at x0 x1 x2
    go_wp2_with fail
    clear x0 x1 x2
    refine (R3Trig_any ka kn kc la ln lc ls pa pn pc ca cn cc ja jn jc R w4 (HR.out.grow hB4 hB4.size) HV.out (HL.out.grow hB4 hB4.size) (by omega)).mono ?_
    rintro e w5 ⟨rfl, hk⟩
    have hP5 := hP4.grow hk hk.size
    clear hP4
    have hB5 := hB4.trans (hk.mono hB4.size)
    have hX5 := hX4.below hk hX4.lt
    clear hX4 hB4 hk
    rw [HTB.out]
    have x0 := hX5.cell 0
    have x1 := hX5.cell 1
    have x2 := hX5.cell 2
    simp only [List.getElem?_toArray, List.getElem?_cons_zero, List.getElem?_cons_succ] at x0 x1 x2
    go_wp2_with fail
    clear x0 x1 x2
    refine (R3Run_any pa pn pc ca cn cc ja jn jc R _ ua un uc us w5 (HR.out.grow hB5 hB5.size) HV.out HN.out (HU.out.grow hB5 hB5.size) (by omega)).mono ?_
    rintro e w6 ⟨rfl, hk⟩
    have hP6 := hP5.grow hk hk.size
    clear hP5
    have hB6 := hB5.trans (hk.mono hB5.size)
    have hX6 := hX5.below hk hX5.lt
    clear hX5 hB5 hk
    rw [HUB.out]
    go_wp2_with fail
    have hBX := hB6
    refine (known_any _).mono ?_
    rintro e w9 ⟨rfl, hk⟩
    go_wp2_with fail
    go_ret
    exact ⟨rfl, hBX.trans (hk.mono hBX.size)⟩
  have HUB := Lib.hid hub
  have HUK := Lib.hid ((trB_iff _ _ _).1 hub)
  clear hub
  rw [saidAll_ok (by unfold saidOkB; rw [HVB.out, HCB.out, ← HLK.out, HTB.out, HN.out, Int.toNat_natCast, HUB.out]; rfl)] at hP2 ⊢
  dsimp only at hP2 ⊢
  have x0 := hX2.cell 0
  have x1 := hX2.cell 1
  have x2 := hX2.cell 2
  simp only [List.getElem?_toArray, List.getElem?_cons_zero, List.getElem?_cons_succ] at x0 x1 x2
  go_wp2_with fail
  clear x0 x1 x2
  refine (Valid_any pa pn pc ca cn cc ja jn jc R w2 (HR.out.grow hB2 hB2.size)).mono ?_
  rintro e w3 ⟨rfl, hk⟩
  have hP3 := hP2.grow hk hk.size
  clear hP2
  have hB3 := hB2.trans (hk.mono hB2.size)
  have hX3 := hX2.below hk hX2.lt
  clear hX2 hB2 hk
  rw [HVB.out]
  have x0 := hX3.cell 0
  have x1 := hX3.cell 1
  have x2 := hX3.cell 2
  simp only [List.getElem?_toArray, List.getElem?_cons_zero, List.getElem?_cons_succ] at x0 x1 x2
  go_wp2_with fail
  clear x0 x1 x2
  refine (RCalls_any ka kn kc cs pa pn pc ca cn cc ja jn jc R w3 (HR.out.grow hB3 hB3.size) HV.out (HK.out.grow hB3 hB3.size) (by omega)).mono ?_
  rintro e w4 ⟨rfl, hk⟩
  have hP4 := hP3.grow hk hk.size
  clear hP3
  have hB4 := hB3.trans (hk.mono hB3.size)
  have hX4 := hX3.below hk hX3.lt
  clear hX3 hB3 hk
  rw [HCB.out]
  have x0 := hX4.cell 0
  have x1 := hX4.cell 1
  have x2 := hX4.cell 2
  simp only [List.getElem?_toArray, List.getElem?_cons_zero, List.getElem?_cons_succ] at x0 x1 x2
  go_wp2_with fail
  clear x0 x1 x2
  refine (R3Trig_any ka kn kc la ln lc ls pa pn pc ca cn cc ja jn jc R w4 (HR.out.grow hB4 hB4.size) HV.out (HL.out.grow hB4 hB4.size) (by omega)).mono ?_
  rintro e w5 ⟨rfl, hk⟩
  have hP5 := hP4.grow hk hk.size
  clear hP4
  have hB5 := hB4.trans (hk.mono hB4.size)
  have hX5 := hX4.below hk hX4.lt
  clear hX4 hB4 hk
  rw [HTB.out]
  have x0 := hX5.cell 0
  have x1 := hX5.cell 1
  have x2 := hX5.cell 2
  simp only [List.getElem?_toArray, List.getElem?_cons_zero, List.getElem?_cons_succ] at x0 x1 x2
  go_wp2_with fail
  clear x0 x1 x2
  refine (R3Run_any pa pn pc ca cn cc ja jn jc R _ ua un uc us w5 (HR.out.grow hB5 hB5.size) HV.out HN.out (HU.out.grow hB5 hB5.size) (by omega)).mono ?_
  rintro e w6 ⟨rfl, hk⟩
  have hP6 := hP5.grow hk hk.size
  clear hP5
  have hB6 := hB5.trans (hk.mono hB5.size)
  have hX6 := hX5.below hk hX5.lt
  clear hX5 hB5 hk
  rw [HUB.out]
  have x0 := hX6.cell 0
  have x1 := hX6.cell 1
  have x2 := hX6.cell 2
  simp only [List.getElem?_toArray, List.getElem?_cons_zero, List.getElem?_cons_succ] at x0 x1 x2
  go_wp2_with fail
  clear x0 x1 x2
  refine (R3Said_any ka kn kc cs la ln lc ls ua un uc us N w6 (HK.out.grow hB6 hB6.size) (HL.out.grow hB6 hB6.size) (HU.out.grow hB6 hB6.size) (by rw [← HN.out]; exact HC.out) (by rw [← HN.out]; exact HT.out) HUK.out).mono ?_
  rintro e w7 ⟨A2, n2, c2, rfl, hQ7, hk⟩
  have hP7 := hP6.grow hk hk.size
  clear hP6
  have hB7 := hB6.trans (hk.mono hB6.size)
  have hX7 := hX6.below hk hX6.lt
  clear hX6 hB6 hk
  have hnn : n2 = n := hQ7.1.trans hP7.1.symm
  have hnb : n2 ≤ 100000 := by rw [hQ7.1]; unfold saidL; rw [List.length_map, List.length_range']; have := HC.out.l1; omega
  subst hnn
  go_wp2_with fail
  refine (R3Same_true A n2 c A2 c2 _ _ hP7 hQ7 hnb).mono ?_
  rintro e w8 ⟨rfl, hk⟩
  have hP8 := hP7.grow hk hk.size
  have hB8 := hB7.trans (hk.mono hB7.size)
  have hX8 := hX7.below hk hX7.lt
  clear hX7 hB7 hk
  go_wp2_with fail
  have hBX := hB8
  refine (known_any _).mono ?_
  rintro e w9 ⟨rfl, hk⟩
  go_wp2_with fail
  go_ret
  exact ⟨rfl, hBX.trans (hk.mono hBX.size)⟩
end Go.Proofs.YtijcbfhlhgjedaaDoor
