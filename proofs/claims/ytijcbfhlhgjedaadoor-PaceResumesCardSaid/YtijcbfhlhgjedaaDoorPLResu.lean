/- The law function PaceResumes, walked: it returns true. -/
import Derived.Test.YtijcbfhlhgjedaaDoorPKnown3
import Derived.Test.YtijcbfhlhgjedaaDoorPCKn03P
import Derived.Test.YtijcbfhlhgjedaaDoorPResu
import Derived.Test.YtijcbfhlhgjedaaDoorPRResu
namespace Go.Proofs.YtijcbfhlhgjedaaDoor
open Go.RowKit Go.Shelf Go.Sort Go.Proofs

theorem chB_it {Q : Int → Int} {a : Int} {cs : List CallR} : ∀ (us : List Int) (f s v : Int), chB cs.length f us = false → itC Q a cs us f s v = none
  | [], _, _, _, h => by rw [chB] at h; cases h
  | i :: is, f, s, v, h => by
    by_cases hi : f ≤ i ∧ i < cs.length
    · rw [chB_yes hi] at h
      rw [itC, if_pos hi]
      cases cs[i.toNat]? with
      | none => rfl
      | some x =>
        dsimp only
        split
        · exact chB_it is _ _ _ h
        · rfl
    · exact itC_no hi
set_option maxRecDepth 100000 in
set_option maxHeartbeats 8000000 in
theorem LResumes_walk (q : Int) (pa : Option Addr) (pn pc : Nat) (ca : Option Addr) (cn cc : Nat) (ja : Option Addr) (jn jc : Nat) (R : Road) (ra : Option Addr) (rn rc : Nat) (sa : Option Addr) (sn sc : Nat) (S : Spd) (ka : Option Addr) (kn kc : Nat) (cs : List CallR) (ua : Option Addr) (un uc : Nat) (us : List Int) (w : World)
    (h : RD w w.heap.size pa pn ca cn ja jn R) (hD : SD w w.heap.size ra rn sa sn S) (hK : SL caC 5 w w.heap.size ka kn cs) (hU : SL iC 1 w w.heap.size ua un us) (hmx : pn ≤ 9223372036854775807) (hcap : kn ≤ kc) :
    Calls Tryd.prog 13 #[.agg #[.slice pa pn pc, .slice ca cn cc, .slice ja jn jc], .agg #[.int .i64 S.least, .int .i64 S.most, .slice ra rn rc, .slice sa sn sc], .slice ka kn kc, .int .i64 q, .slice ua un uc] w fun e w' => e = .returned (.bool true) ∧ Below w.heap.size w w' := by
  have HLK := Lib.hid hK.1
  have HLU := Lib.hid hU.1
  have HR := Lib.hid h
  have HD := Lib.hid hD
  have HK := Lib.hid hK
  have HU := Lib.hid hU
  clear h hD hK hU
  obtain ⟨w0, hw0⟩ : ∃ w0, w0 = (w.alloc (.cells #[.slice pa pn pc, .slice ca cn cc, .slice ja jn jc] 26)).alloc (.cells #[.int .i64 S.least, .int .i64 S.most, .slice ra rn rc, .slice sa sn sc] 30) := ⟨_, rfl⟩
  have hB0 : Below w.heap.size w w0 := by rw [hw0]; exact ((Below.refl w.heap.size w).alloc (Nat.le_refl _) _).alloc (by simp) _
  have hX0 : BK w0 (w.heap.size) 26 #[.slice pa pn pc, .slice ca cn cc, .slice ja jn jc] := by rw [hw0]; exact ((BK.new w 26 #[.slice pa pn pc, .slice ca cn cc, .slice ja jn jc])).alloc _
  have hY0 : BK w0 (w.heap.size + 1) 30 #[.int .i64 S.least, .int .i64 S.most, .slice ra rn rc, .slice sa sn sc] := by rw [hw0]; have := BK.new (w.alloc (.cells #[.slice pa pn pc, .slice ca cn cc, .slice ja jn jc] 26)) 30 #[.int .i64 S.least, .int .i64 S.most, .slice ra rn rc, .slice sa sn sc]; rw [World.size_alloc] at this; exact this
  go_enter Tryd.func13, Tryd.ntmps13
  go_wp2_with fail
  rw [← hw0]
  clear hw0
  have x0 := hX0.cell 0
  have x1 := hX0.cell 1
  have x2 := hX0.cell 2
  have y0 := hY0.cell 0
  have y1 := hY0.cell 1
  have y2 := hY0.cell 2
  have y3 := hY0.cell 3
  simp only [List.getElem?_toArray, List.getElem?_cons_zero, List.getElem?_cons_succ] at x0 x1 x2 y0 y1 y2 y3
  go_wp2_with fail
  clear x0 x1 x2 y0 y1 y2 y3
  refine (few_any pa pn pc ca cn cc ja jn jc R w0 (HR.out.grow hB0 hB0.size) hmx).mono ?_
  rintro e w1 ⟨rfl, hk⟩
  have hB1 := hB0.trans (hk.mono hB0.size)
  have hX1 := hX0.below hk hX0.lt
  have hY1 := hY0.below hk hY0.lt
  clear hX0 hY0 hB0 hk
  cases hfew : fewB R
  case false =>
    go_wp2_with fail
    have hBX := hB1
    refine (known_any _).mono ?_
    rintro e w9 ⟨rfl, hk⟩
    go_wp2_with fail
    go_ret
    exact ⟨rfl, hBX.trans (hk.mono hBX.size)⟩
  have x0 := hX1.cell 0
  have x1 := hX1.cell 1
  have x2 := hX1.cell 2
  have y0 := hY1.cell 0
  have y1 := hY1.cell 1
  have y2 := hY1.cell 2
  have y3 := hY1.cell 3
  simp only [List.getElem?_toArray, List.getElem?_cons_zero, List.getElem?_cons_succ] at x0 x1 x2 y0 y1 y2 y3
  go_wp2_with fail
  clear x0 x1 x2 y0 y1 y2 y3
  refine (quick_any3 ra rn rc sa sn sc S w1 (HD.out.grow hB1 hB1.size)).mono ?_
  rintro e w2 ⟨rfl, hk⟩
  have hB2 := hB1.trans (hk.mono hB1.size)
  have hX2 := hX1.below hk hX1.lt
  have hY2 := hY1.below hk hY1.lt
  clear hX1 hY1 hB1 hk
  cases hqu : quickB S
  case false =>
    go_wp2_with fail
    have hBX := hB2
    refine (known_any _).mono ?_
    rintro e w9 ⟨rfl, hk⟩
    go_wp2_with fail
    go_ret
    exact ⟨rfl, hBX.trans (hk.mono hBX.size)⟩
  have x0 := hX2.cell 0
  have x1 := hX2.cell 1
  have x2 := hX2.cell 2
  have y0 := hY2.cell 0
  have y1 := hY2.cell 1
  have y2 := hY2.cell 2
  have y3 := hY2.cell 3
  simp only [List.getElem?_toArray, List.getElem?_cons_zero, List.getElem?_cons_succ] at x0 x1 x2 y0 y1 y2 y3
  go_wp2_with fail
  clear x0 x1 x2 y0 y1 y2 y3
  refine (some_any ka kn kc w2).mono ?_
  rintro e w' ⟨rfl, rfl⟩
  cases hso : decide (kn ≤ 8)
  case false =>
    go_wp2_with fail
    have hBX := hB2
    refine (known_any _).mono ?_
    rintro e w9 ⟨rfl, hk⟩
    go_wp2_with fail
    go_ret
    exact ⟨rfl, hBX.trans (hk.mono hBX.size)⟩
  have hkn : kn ≤ 8 := by simpa using hso
  by_cases gm0 : un ≤ 20
  case neg =>
    have gm : decide ((20 : Int) < (un : Int)) = true := decide_eq_true (by omega)
    have x0 := hX2.cell 0
    have x1 := hX2.cell 1
    have x2 := hX2.cell 2
    have y0 := hY2.cell 0
    have y1 := hY2.cell 1
    have y2 := hY2.cell 2
    have y3 := hY2.cell 3
    simp only [List.getElem?_toArray, List.getElem?_cons_zero, List.getElem?_cons_succ] at x0 x1 x2 y0 y1 y2 y3
    go_wp2_with fail
    have hBX := hB2
    refine (known_any _).mono ?_
    rintro e w9 ⟨rfl, hk⟩
    go_wp2_with fail
    go_ret
    exact ⟨rfl, hBX.trans (hk.mono hBX.size)⟩
  have gm : decide ((20 : Int) < (un : Int)) = false := decide_eq_false (by omega)
  clear hfew hqu hso
  have x0 := hX2.cell 0
  have x1 := hX2.cell 1
  have x2 := hX2.cell 2
  have y0 := hY2.cell 0
  have y1 := hY2.cell 1
  have y2 := hY2.cell 2
  have y3 := hY2.cell 3
  simp only [List.getElem?_toArray, List.getElem?_cons_zero, List.getElem?_cons_succ] at x0 x1 x2 y0 y1 y2 y3
  go_wp2_with fail
  clear x0 x1 x2 y0 y1 y2 y3
  clear gm
  refine (Resume_all q pa pn pc ca cn cc ja jn jc R ra rn rc sa sn sc S ka kn kc cs w2 (HR.out.grow hB2 hB2.size) (HD.out.grow hB2 hB2.size) (HK.out.grow hB2 hB2.size) (by omega) hcap).mono ?_
  rintro e w3 ⟨A, n, c, G, er, rfl, hG, hres, hk⟩
  have hB3 := hB2.trans (hk.mono hB2.size)
  have hX3 := hX2.below hk hX2.lt
  have hY3 := hY2.below hk hY2.lt
  clear hX2 hY2 hB2 hk
  have x0 := hX3.cell 0
  have x1 := hX3.cell 1
  have x2 := hX3.cell 2
  have y0 := hY3.cell 0
  have y1 := hY3.cell 1
  have y2 := hY3.cell 2
  have y3 := hY3.cell 3
  simp only [List.getElem?_toArray, List.getElem?_cons_zero, List.getElem?_cons_succ] at x0 x1 x2 y0 y1 y2 y3
  go_wp2_with fail
  clear x0 x1 x2 y0 y1 y2 y3
  refine (InTime_all q pa pn pc ca cn cc ja jn jc R ra rn rc sa sn sc S ka kn kc cs ua un uc us w3 (HR.out.grow hB3 hB3.size) (HD.out.grow hB3 hB3.size) (HK.out.grow hB3 hB3.size) (HU.out.grow hB3 hB3.size) (by omega)).mono ?_
  rintro e w4 ⟨rfl, hk⟩
  have HG4 := Lib.hid (hG.grow hk hk.size)
  have hB4 := hB3.trans (hk.mono hB3.size)
  have hX4 := hX3.below hk hX3.lt
  have hY4 := hY3.below hk hY3.lt
  clear hX3 hY3 hB3 hk
  have HRES := Lib.hid hres
  clear hG hres
  cases hvs : val R && spB S
  case false =>
    have HVS := Lib.hid hvs
    clear hvs
    have HOK : Hid ((val R && spB S && remB (sumL R.ps) cs q) = false) := by show _ = _; rw [HVS.out]; rfl
    have hres := HRES.out
    unfold resP at hres
    rw [HOK.out, if_neg (by decide)] at hres
    obtain ⟨rfl, rfl⟩ := hres
    obtain rfl : n = 0 := HG4.out.1
    rw [itAll_bad HOK.out]
    dsimp only
    clear HRES
    have x0 := hX4.cell 0
    have x1 := hX4.cell 1
    have x2 := hX4.cell 2
    have y0 := hY4.cell 0
    have y1 := hY4.cell 1
    have y2 := hY4.cell 2
    have y3 := hY4.cell 3
    simp only [List.getElem?_toArray, List.getElem?_cons_zero, List.getElem?_cons_succ] at x0 x1 x2 y0 y1 y2 y3
    go_wp2_with fail
    clear x0 x1 x2 y0 y1 y2 y3
    refine (fine_any pa pn pc ca cn cc ja jn jc R ra rn rc sa sn sc S w4 (HR.out.grow hB4 hB4.size) (HD.out.grow hB4 hB4.size)).mono ?_
    rintro e w5 ⟨rfl, hk⟩
    have HG5 := Lib.hid (HG4.out.grow hk hk.size)
    have hB5 := hB4.trans (hk.mono hB4.size)
    have hX5 := hX4.below hk hX4.lt
    have hY5 := hY4.below hk hY4.lt
    clear hX4 hY4 hB4 hk
    rw [HVS.out]
    go_wp2_with fail
    have hBX := hB5
    refine (known_any _).mono ?_
    rintro e w9 ⟨rfl, hk⟩
    go_wp2_with fail
    go_ret
    exact ⟨rfl, hBX.trans (hk.mono hBX.size)⟩
  have HVS := Lib.hid hvs
  have HV : Hid (OK R) := by have := hvs; rw [Bool.and_eq_true] at this; exact (val_iff R).1 this.1
  have HS : Hid (SOK S) := by have := hvs; rw [Bool.and_eq_true] at this; exact (spB_iff S).1 this.2
  clear hvs
  cases hrm : remB (sumL R.ps) cs q
  case false =>
    have HRM := Lib.hid hrm
    clear hrm
    have HOK : Hid ((val R && spB S && remB (sumL R.ps) cs q) = false) := by show _ = _; rw [HVS.out, HRM.out]; rfl
    have hres := HRES.out
    unfold resP at hres
    rw [HOK.out, if_neg (by decide)] at hres
    obtain ⟨rfl, rfl⟩ := hres
    obtain rfl : n = 0 := HG4.out.1
    rw [itAll_bad HOK.out]
    dsimp only
    clear HRES
    have x0 := hX4.cell 0
    have x1 := hX4.cell 1
    have x2 := hX4.cell 2
    have y0 := hY4.cell 0
    have y1 := hY4.cell 1
    have y2 := hY4.cell 2
    have y3 := hY4.cell 3
    simp only [List.getElem?_toArray, List.getElem?_cons_zero, List.getElem?_cons_succ] at x0 x1 x2 y0 y1 y2 y3
    go_wp2_with fail
    clear x0 x1 x2 y0 y1 y2 y3
    refine (fine_any pa pn pc ca cn cc ja jn jc R ra rn rc sa sn sc S w4 (HR.out.grow hB4 hB4.size) (HD.out.grow hB4 hB4.size)).mono ?_
    rintro e w5 ⟨rfl, hk⟩
    have HG5 := Lib.hid (HG4.out.grow hk hk.size)
    have hB5 := hB4.trans (hk.mono hB4.size)
    have hX5 := hX4.below hk hX4.lt
    have hY5 := hY4.below hk hY4.lt
    clear hX4 hY4 hB4 hk
    rw [HVS.out]
    have x0 := hX5.cell 0
    have x1 := hX5.cell 1
    have x2 := hX5.cell 2
    have y0 := hY5.cell 0
    have y1 := hY5.cell 1
    have y2 := hY5.cell 2
    have y3 := hY5.cell 3
    simp only [List.getElem?_toArray, List.getElem?_cons_zero, List.getElem?_cons_succ] at x0 x1 x2 y0 y1 y2 y3
    go_wp2_with fail
    clear x0 x1 x2 y0 y1 y2 y3
    refine (RLeft_any q pa pn pc ca cn cc ja jn jc R ka kn kc cs w5 (HR.out.grow hB5 hB5.size) HV.out (HK.out.grow hB5 hB5.size) (by omega)).mono ?_
    rintro e w6 ⟨rfl, hk⟩
    have HG6 := Lib.hid (HG5.out.grow hk hk.size)
    have hB6 := hB5.trans (hk.mono hB5.size)
    have hX6 := hX5.below hk hX5.lt
    have hY6 := hY5.below hk hY5.lt
    clear hX5 hY5 hB5 hk
    rw [HRM.out]
    go_wp2_with fail
    have hBX := hB6
    refine (known_any _).mono ?_
    rintro e w9 ⟨rfl, hk⟩
    go_wp2_with fail
    go_ret
    exact ⟨rfl, hBX.trans (hk.mono hBX.size)⟩
  have HRM := Lib.hid hrm
  have hro := (remB_iff _ _ _).1 hrm
  clear hrm
  obtain ⟨a, rfl⟩ : ∃ a : Nat, q = (a : Int) := ⟨q.toNat, by have := hro.a; omega⟩
  have HRO := Lib.hid hro
  have HOK : Hid ((val R && spB S && remB (sumL R.ps) cs a) = true) := by show _ = _; rw [HVS.out, HRM.out]; rfl
  have hres := HRES.out
  unfold resP at hres
  rw [HOK.out, if_pos rfl] at hres
  obtain ⟨rfl, hgr⟩ := hres
  have HGR := Lib.hid hgr
  rw [itAll_ok HOK.out]
  clear HRES hgr hro
  have x0 := hX4.cell 0
  have x1 := hX4.cell 1
  have x2 := hX4.cell 2
  have y0 := hY4.cell 0
  have y1 := hY4.cell 1
  have y2 := hY4.cell 2
  have y3 := hY4.cell 3
  simp only [List.getElem?_toArray, List.getElem?_cons_zero, List.getElem?_cons_succ] at x0 x1 x2 y0 y1 y2 y3
  go_wp2_with fail
  clear x0 x1 x2 y0 y1 y2 y3
  refine (fine_any pa pn pc ca cn cc ja jn jc R ra rn rc sa sn sc S w4 (HR.out.grow hB4 hB4.size) (HD.out.grow hB4 hB4.size)).mono ?_
  rintro e w5 ⟨rfl, hk⟩
  have HG5 := Lib.hid (HG4.out.grow hk hk.size)
  have hB5 := hB4.trans (hk.mono hB4.size)
  have hX5 := hX4.below hk hX4.lt
  have hY5 := hY4.below hk hY4.lt
  clear hX4 hY4 hB4 hk
  rw [HVS.out]
  have x0 := hX5.cell 0
  have x1 := hX5.cell 1
  have x2 := hX5.cell 2
  have y0 := hY5.cell 0
  have y1 := hY5.cell 1
  have y2 := hY5.cell 2
  have y3 := hY5.cell 3
  simp only [List.getElem?_toArray, List.getElem?_cons_zero, List.getElem?_cons_succ] at x0 x1 x2 y0 y1 y2 y3
  go_wp2_with fail
  clear x0 x1 x2 y0 y1 y2 y3
  refine (RLeft_any a pa pn pc ca cn cc ja jn jc R ka kn kc cs w5 (HR.out.grow hB5 hB5.size) HV.out (HK.out.grow hB5 hB5.size) (by omega)).mono ?_
  rintro e w6 ⟨rfl, hk⟩
  have HG6 := Lib.hid (HG5.out.grow hk hk.size)
  have hB6 := hB5.trans (hk.mono hB5.size)
  have hX6 := hX5.below hk hX5.lt
  have hY6 := hY5.below hk hY5.lt
  clear hX5 hY5 hB5 hk
  rw [HRM.out]
  have x0 := hX6.cell 0
  have x1 := hX6.cell 1
  have x2 := hX6.cell 2
  have y0 := hY6.cell 0
  have y1 := hY6.cell 1
  have y2 := hY6.cell 2
  have y3 := hY6.cell 3
  simp only [List.getElem?_toArray, List.getElem?_cons_zero, List.getElem?_cons_succ] at x0 x1 x2 y0 y1 y2 y3
  go_wp2_with fail
  clear x0 x1 x2 y0 y1 y2 y3
  refine (R3Resume_any a pa pn pc ca cn cc ja jn jc R ra rn rc sa sn sc S ka kn kc cs w6 (HR.out.grow hB6 hB6.size) (HD.out.grow hB6 hB6.size) (HK.out.grow hB6 hB6.size) HV.out HS.out HRO.out hkn).mono ?_
  rintro e w7 ⟨A2, n2, c2, L, m, rfl, hL, hFB, hk⟩
  obtain rfl : G = L := hFB.best HGR.out
  have HG7 := Lib.hid (HG6.out.grow hk hk.size)
  have HL7 := Lib.hid hL
  have hnb : n2 ≤ 100000 := by have h1 := hL.1; have h2 := hFB.l; have := HLK.out; omega
  obtain rfl : n = n2 := by rw [HG7.out.1, HL7.out.1]
  have hB7 := hB6.trans (hk.mono hB6.size)
  have hX7 := hX6.below hk hX6.lt
  have hY7 := hY6.below hk hY6.lt
  clear hX6 hY6 hB6 hk
  clear hL hFB HG4 HG5 HG6
  go_wp2_with fail
  refine (R3Same_true A n c A2 c2 _ _ HG7.out HL7.out hnb).mono ?_
  rintro e w8 ⟨rfl, hk⟩
  have hB8 := hB7.trans (hk.mono hB7.size)
  have hX8 := hX7.below hk hX7.lt
  have hY8 := hY7.below hk hY7.lt
  clear hX7 hY7 hB7 hk
  go_wp2_with fail
  refine (RChoice_any ka kn kc ua un uc us w8 (HU.out.grow hB8 hB8.size) (by omega) (by omega)).mono ?_
  rintro e w9 ⟨rfl, hk⟩
  have hB9 := hB8.trans (hk.mono hB8.size)
  have hX9 := hX8.below hk hX8.lt
  have hY9 := hY8.below hk hY8.lt
  clear hX8 hY8 hB8 hk
  cases hch : chB kn 0 us
  case false =>
    rw [chB_it us 0 0 0 (by rw [← HLK.out]; exact hch)]
    clear hch
    dsimp only [itRes]
    go_wp2_with fail
    have hBX := hB9
    refine (known_any _).mono ?_
    rintro e w9 ⟨rfl, hk⟩
    go_wp2_with fail
    go_ret
    exact ⟨rfl, hBX.trans (hk.mono hBX.size)⟩
  have HCH := Lib.hid hch
  clear hch
  have x0 := hX9.cell 0
  have x1 := hX9.cell 1
  have x2 := hX9.cell 2
  have y0 := hY9.cell 0
  have y1 := hY9.cell 1
  have y2 := hY9.cell 2
  have y3 := hY9.cell 3
  simp only [List.getElem?_toArray, List.getElem?_cons_zero, List.getElem?_cons_succ] at x0 x1 x2 y0 y1 y2 y3
  obtain ⟨IV, hIV⟩ : ∃ IV, IV = itRes (itC (qS S R) a cs us 0 0 0) := ⟨_, rfl⟩
  have HIV := Lib.hid hIV
  rw [← hIV]
  clear hIV
  go_wp2_with fail
  clear x0 x1 x2 y0 y1 y2 y3
  refine (R3InTime_any a pa pn pc ca cn cc ja jn jc R ra rn rc sa sn sc S ka kn kc cs ua un uc us w9 (HR.out.grow hB9 hB9.size) (HD.out.grow hB9 hB9.size) (HK.out.grow hB9 hB9.size) (HU.out.grow hB9 hB9.size) HV.out HS.out HRO.out (by rw [← HLK.out]; exact HCH.out) (by omega)).mono ?_
  rintro e w10 ⟨rfl, hk⟩
  rw [← HIV.out]
  have hB10 := hB9.trans (hk.mono hB9.size)
  have hX10 := hX9.below hk hX9.lt
  have hY10 := hY9.below hk hY9.lt
  clear hX9 hY9 hB9 hk
  obtain ⟨iv, ib⟩ := IV
  clear HIV
  have g1 : (iv == iv) = true := by simp
  have g2 : (ib == ib) = true := by simp
  go_wp2_with fail
  have hBX := hB10
  refine (known_any _).mono ?_
  rintro e w9 ⟨rfl, hk⟩
  go_wp2_with fail
  go_ret
  exact ⟨rfl, hBX.trans (hk.mono hBX.size)⟩
end Go.Proofs.YtijcbfhlhgjedaaDoor
