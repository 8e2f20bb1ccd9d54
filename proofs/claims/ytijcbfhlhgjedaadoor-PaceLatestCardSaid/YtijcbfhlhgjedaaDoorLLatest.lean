/- The law function PaceLatest, walked: it returns true. -/
import Derived.Test.YtijcbfhlhgjedaaDoorKnown3
import Derived.Test.YtijcbfhlhgjedaaDoorLatP
import Derived.Test.YtijcbfhlhgjedaaDoorTst
import Derived.Test.YtijcbfhlhgjedaaDoorPlanB
import Derived.RegionTactic
import Derived.BigRegion
namespace Go.Proofs.YtijcbfhlhgjedaaDoor
open Go.RowKit Go.Shelf Go.Sort Go.Proofs

theorem infoCa : (Tryd.prog.info? 75).map (fun i => (i.zero, i.size, i.bytes)) = some (some (.agg #[.int .i64 0, .int .i64 0, .int .i64 0, .int .i64 0, .int .i64 0]), 5, 40) := by kernel_rfl
theorem infoSr : (Tryd.prog.info? 77).map (fun i => (i.zero, i.size, i.bytes)) = some (some (.agg #[.int .i64 0, .int .i64 0, .int .i64 0]), 3, 24) := by kernel_rfl
set_option maxRecDepth 100000 in
set_option maxHeartbeats 8000000 in
theorem R3Trig_ne (ka : Option Addr) (kn kc : Nat) (la : Option Addr) (ln lc : Nat) (pa : Option Addr) (pn pc : Nat) (ca : Option Addr) (cn cc : Nat) (ja : Option Addr) (jn jc : Nat) (w : World) (hne : ln ≠ kn) :
    Calls Tryd.prog 39 #[.agg #[.slice pa pn pc, .slice ca cn cc, .slice ja jn jc], .slice ka kn kc, .slice la ln lc] w fun e w' => e = .returned (.bool false) ∧ Below w.heap.size w w' := by
  obtain ⟨w0, hw0⟩ : ∃ w0, w0 = w.alloc (.cells #[.slice pa pn pc, .slice ca cn cc, .slice ja jn jc] 26) := ⟨_, rfl⟩
  have hB0 : Below w.heap.size w w0 := by rw [hw0]; exact (Below.refl w.heap.size w).alloc (Nat.le_refl _) _
  have g0 : ((ln : Int) == (kn : Int)) = false := by simp; omega
  go_enter Tryd.func39, Tryd.ntmps39
  go_wp2_with fail
  rw [← hw0]
  clear hw0
  go_ret
  exact ⟨rfl, hB0⟩
set_option maxRecDepth 100000 in
set_option maxHeartbeats 8000000 in
theorem LLatest_walk (less : Int) (pa : Option Addr) (pn pc : Nat) (ca : Option Addr) (cn cc : Nat) (ja : Option Addr) (jn jc : Nat) (R : Road) (ra : Option Addr) (rn rc : Nat) (sa : Option Addr) (sn sc : Nat) (S : Spd) (ka : Option Addr) (kn kc : Nat) (cs : List CallR) (la : Option Addr) (ln lc : Nat) (ls : List Int) (w : World)
    (h : RD w w.heap.size pa pn ca cn ja jn R) (hD : SD w w.heap.size ra rn sa sn S) (hK : SL caC 5 w w.heap.size ka kn cs) (hL : SL iC 1 w w.heap.size la ln ls) (hmx : pn ≤ 9223372036854775807) (hle : -9223372036854775808 ≤ less ∧ less ≤ 9223372036854775807) :
    Calls Tryd.prog 8 #[.agg #[.slice pa pn pc, .slice ca cn cc, .slice ja jn jc], .agg #[.int .i64 S.least, .int .i64 S.most, .slice ra rn rc, .slice sa sn sc], .slice ka kn kc, .slice la ln lc, .int .i64 less] w fun e w' => e = .returned (.bool true) ∧ Below w.heap.size w w' := by
  have HLK := Lib.hid hK.1
  have HLL := Lib.hid hL.1
  have HRN := Lib.hid hD.r.1
  have hmo : Tryd.prog.follows .mixedOrders = true := by kernel_rfl
  have HR := Lib.hid h
  have HD := Lib.hid hD
  have HK := Lib.hid hK
  have HL := Lib.hid hL
  clear h hD hK hL
  obtain ⟨w0, hw0⟩ : ∃ w0, w0 = (w.alloc (.cells #[.slice pa pn pc, .slice ca cn cc, .slice ja jn jc] 26)).alloc (.cells #[.int .i64 S.least, .int .i64 S.most, .slice ra rn rc, .slice sa sn sc] 30) := ⟨_, rfl⟩
  have hB0 : Below w.heap.size w w0 := by rw [hw0]; exact ((Below.refl w.heap.size w).alloc (Nat.le_refl _) _).alloc (by simp) _
  have hX0 : BK w0 (w.heap.size) 26 #[.slice pa pn pc, .slice ca cn cc, .slice ja jn jc] := by rw [hw0]; exact ((BK.new w 26 #[.slice pa pn pc, .slice ca cn cc, .slice ja jn jc])).alloc _
  have hY0 : BK w0 (w.heap.size + 1) 30 #[.int .i64 S.least, .int .i64 S.most, .slice ra rn rc, .slice sa sn sc] := by rw [hw0]; have := BK.new (w.alloc (.cells #[.slice pa pn pc, .slice ca cn cc, .slice ja jn jc] 26)) 30 #[.int .i64 S.least, .int .i64 S.most, .slice ra rn rc, .slice sa sn sc]; rw [World.size_alloc] at this; exact this
  go_enter Tryd.func8, Tryd.ntmps8
  go_wp2_with fail
  rw [← hw0]
  clear hw0
  have x0 := hX0.cell 0
  have x1 := hX0.cell 1
  have x2 := hX0.cell 2
  have y0 := hY0.cell 0
  have y1 := hY0.cell 1
  have y2 := hY0.cell 2
  have y3 := hY0.cell 3
  simp only [List.getElem?_toArray, List.getElem?_cons_zero, List.getElem?_cons_succ] at x0 x1 x2 y0 y1 y2 y3
  go_wp2_with fail
  clear x0 x1 x2 y0 y1 y2 y3
  refine (few_any pa pn pc ca cn cc ja jn jc R w0 (HR.out.grow hB0 hB0.size) hmx).mono ?_
  rintro e w1 ⟨rfl, hk⟩
  have hB1 := hB0.trans (hk.mono hB0.size)
  have hX1 := hX0.below hk hX0.lt
  have hY1 := hY0.below hk hY0.lt
  clear hX0 hY0 hB0 hk
  cases hfew : fewB R
  case false =>
    go_wp2_with fail
    have hBX := hB1
    refine (known_any _).mono ?_
    rintro e w9 ⟨rfl, hk⟩
    go_wp2_with fail
    go_ret
    exact ⟨rfl, hBX.trans (hk.mono hBX.size)⟩
  have x0 := hX1.cell 0
  have x1 := hX1.cell 1
  have x2 := hX1.cell 2
  have y0 := hY1.cell 0
  have y1 := hY1.cell 1
  have y2 := hY1.cell 2
  have y3 := hY1.cell 3
  simp only [List.getElem?_toArray, List.getElem?_cons_zero, List.getElem?_cons_succ] at x0 x1 x2 y0 y1 y2 y3
  go_wp2_with fail
  clear x0 x1 x2 y0 y1 y2 y3
  refine (quick_any3 ra rn rc sa sn sc S w1 (HD.out.grow hB1 hB1.size)).mono ?_
  rintro e w2 ⟨rfl, hk⟩
  have hB2 := hB1.trans (hk.mono hB1.size)
  have hX2 := hX1.below hk hX1.lt
  have hY2 := hY1.below hk hY1.lt
  clear hX1 hY1 hB1 hk
  cases hqu : quickB S
  case false =>
    go_wp2_with fail
    have hBX := hB2
    refine (known_any _).mono ?_
    rintro e w9 ⟨rfl, hk⟩
    go_wp2_with fail
    go_ret
    exact ⟨rfl, hBX.trans (hk.mono hBX.size)⟩
  have x0 := hX2.cell 0
  have x1 := hX2.cell 1
  have x2 := hX2.cell 2
  have y0 := hY2.cell 0
  have y1 := hY2.cell 1
  have y2 := hY2.cell 2
  have y3 := hY2.cell 3
  simp only [List.getElem?_toArray, List.getElem?_cons_zero, List.getElem?_cons_succ] at x0 x1 x2 y0 y1 y2 y3
  go_wp2_with fail
  clear x0 x1 x2 y0 y1 y2 y3
  refine (some_any ka kn kc w2).mono ?_
  rintro e w' ⟨rfl, rfl⟩
  cases hso : decide (kn ≤ 8)
  case false =>
    go_wp2_with fail
    have hBX := hB2
    refine (known_any _).mono ?_
    rintro e w9 ⟨rfl, hk⟩
    go_wp2_with fail
    go_ret
    exact ⟨rfl, hBX.trans (hk.mono hBX.size)⟩
  have hkn : kn ≤ 8 := by simpa using hso
  clear hfew hqu hso
  have x0 := hX2.cell 0
  have x1 := hX2.cell 1
  have x2 := hX2.cell 2
  have y0 := hY2.cell 0
  have y1 := hY2.cell 1
  have y2 := hY2.cell 2
  have y3 := hY2.cell 3
  simp only [List.getElem?_toArray, List.getElem?_cons_zero, List.getElem?_cons_succ] at x0 x1 x2 y0 y1 y2 y3
  go_wp2_with fail
  clear x0 x1 x2 y0 y1 y2 y3
  refine (fine_any pa pn pc ca cn cc ja jn jc R ra rn rc sa sn sc S w2 (HR.out.grow hB2 hB2.size) (HD.out.grow hB2 hB2.size)).mono ?_
  rintro e w3 ⟨rfl, hk⟩
  have hB3 := hB2.trans (hk.mono hB2.size)
  have hX3 := hX2.below hk hX2.lt
  have hY3 := hY2.below hk hY2.lt
  clear hX2 hY2 hB2 hk
  cases hvs : val R && spB S
  case false =>
    go_wp2_with fail
    have hBX := hB3
    refine (known_any _).mono ?_
    rintro e w9 ⟨rfl, hk⟩
    go_wp2_with fail
    go_ret
    exact ⟨rfl, hBX.trans (hk.mono hBX.size)⟩
  have HV : Hid (OK R) := by have := hvs; rw [Bool.and_eq_true] at this; exact (val_iff R).1 this.1
  have HS : Hid (SOK S) := by have := hvs; rw [Bool.and_eq_true] at this; exact (spB_iff S).1 this.2
  clear hvs
  have x0 := hX3.cell 0
  have x1 := hX3.cell 1
  have x2 := hX3.cell 2
  have y0 := hY3.cell 0
  have y1 := hY3.cell 1
  have y2 := hY3.cell 2
  have y3 := hY3.cell 3
  simp only [List.getElem?_toArray, List.getElem?_cons_zero, List.getElem?_cons_succ] at x0 x1 x2 y0 y1 y2 y3
  go_wp2_with fail
  clear x0 x1 x2 y0 y1 y2 y3
  refine (RCalls_any ka kn kc cs pa pn pc ca cn cc ja jn jc R w3 (HR.out.grow hB3 hB3.size) HV.out (HK.out.grow hB3 hB3.size) (by omega)).mono ?_
  rintro e w4 ⟨rfl, hk⟩
  have hB4 := hB3.trans (hk.mono hB3.size)
  have hX4 := hX3.below hk hX3.lt
  have hY4 := hY3.below hk hY3.lt
  clear hX3 hY3 hB3 hk
  cases hcb : cB (sumL R.ps) cs
  case false =>
    go_wp2_with fail
    have hBX := hB4
    refine (known_any _).mono ?_
    rintro e w9 ⟨rfl, hk⟩
    go_wp2_with fail
    go_ret
    exact ⟨rfl, hBX.trans (hk.mono hBX.size)⟩
  have HC := Lib.hid ((cB_iff _ _).1 hcb)
  clear hcb
  have x0 := hX4.cell 0
  have x1 := hX4.cell 1
  have x2 := hX4.cell 2
  have y0 := hY4.cell 0
  have y1 := hY4.cell 1
  have y2 := hY4.cell 2
  have y3 := hY4.cell 3
  simp only [List.getElem?_toArray, List.getElem?_cons_zero, List.getElem?_cons_succ] at x0 x1 x2 y0 y1 y2 y3
  go_wp2_with fail
  clear x0 x1 x2 y0 y1 y2 y3
  by_cases hlk : ln = kn
  case neg =>
    refine (R3Trig_ne ka kn kc la ln lc pa pn pc ca cn cc ja jn jc w4 hlk).mono ?_
    rintro e w5 ⟨rfl, hk⟩
    have hB5 := hB4.trans (hk.mono hB4.size)
    have hX5 := hX4.below hk hX4.lt
    have hY5 := hY4.below hk hY4.lt
    clear hX4 hY4 hB4 hk
    go_wp2_with fail
    have hBX := hB5
    refine (known_any _).mono ?_
    rintro e w9 ⟨rfl, hk⟩
    go_wp2_with fail
    go_ret
    exact ⟨rfl, hBX.trans (hk.mono hBX.size)⟩
  obtain rfl : kn = ln := hlk.symm
  refine (R3Trig_any ka kn kc la kn lc ls pa pn pc ca cn cc ja jn jc R w4 (HR.out.grow hB4 hB4.size) HV.out (HL.out.grow hB4 hB4.size) (by omega)).mono ?_
  rintro e w5 ⟨rfl, hk⟩
  have hB5 := hB4.trans (hk.mono hB4.size)
  have hX5 := hX4.below hk hX4.lt
  have hY5 := hY4.below hk hY4.lt
  clear hX4 hY4 hB4 hk
  cases htb : trB (sumL R.ps) kn ls
  case false =>
    go_wp2_with fail
    have hBX := hB5
    refine (known_any _).mono ?_
    rintro e w9 ⟨rfl, hk⟩
    go_wp2_with fail
    go_ret
    exact ⟨rfl, hBX.trans (hk.mono hBX.size)⟩
  have HT : Hid (TOK (sumL R.ps) cs.length ls) := by have := (trB_iff _ _ _).1 htb; rw [HLK.out] at this; exact this
  clear htb
  by_cases hl0 : 0 ≤ less
  case neg =>
    have gle : decide (less < 0) = true := decide_eq_true (by omega)
    go_wp2_with fail
    have hBX := hB5
    refine (known_any _).mono ?_
    rintro e w9 ⟨rfl, hk⟩
    go_wp2_with fail
    go_ret
    exact ⟨rfl, hBX.trans (hk.mono hBX.size)⟩
  have gle : decide (less < 0) = false := decide_eq_false (by omega)
  have HL0 := Lib.hid hl0
  have HLE := Lib.hid hle
  clear hl0 hle
  have x0 := hX5.cell 0
  have x1 := hX5.cell 1
  have x2 := hX5.cell 2
  have y0 := hY5.cell 0
  have y1 := hY5.cell 1
  have y2 := hY5.cell 2
  have y3 := hY5.cell 3
  simp only [List.getElem?_toArray, List.getElem?_cons_zero, List.getElem?_cons_succ] at x0 x1 x2 y0 y1 y2 y3
  go_wp2_with fail
  clear x0 x1 x2 y0 y1 y2 y3
  clear gle
  refine (Good_any pa pn pc ca cn cc ja jn jc R ra rn rc sa sn sc S ka kn kc cs la kn lc ls w5 (HR.out.grow hB5 hB5.size) (HD.out.grow hB5 hB5.size) (HK.out.grow hB5 hB5.size) (HL.out.grow hB5 hB5.size) HV.out HS.out HC.out HT.out).mono ?_
  rintro e w6 ⟨rfl, hk⟩
  have hB6 := hB5.trans (hk.mono hB5.size)
  have hX6 := hX5.below hk hX5.lt
  have hY6 := hY5.below hk hY5.lt
  clear hX5 hY5 hB5 hk
  obtain ⟨gd, hgd⟩ : ∃ gd, gd = goodM (qS S R) (sS S R) cs ls := ⟨_, rfl⟩
  rw [← hgd]
  have HGD := Lib.hid hgd
  clear hgd
  have x0 := hX6.cell 0
  have x1 := hX6.cell 1
  have x2 := hX6.cell 2
  have y0 := hY6.cell 0
  have y1 := hY6.cell 1
  have y2 := hY6.cell 2
  have y3 := hY6.cell 3
  simp only [List.getElem?_toArray, List.getElem?_cons_zero, List.getElem?_cons_succ] at x0 x1 x2 y0 y1 y2 y3
  go_wp2_with fail
  clear x0 x1 x2 y0 y1 y2 y3
  refine (Plan_any pa pn pc ca cn cc ja jn jc R ra rn rc sa sn sc S ka kn kc cs w6 (HR.out.grow hB6 hB6.size) (HD.out.grow hB6 hB6.size) (HK.out.grow hB6 hB6.size) HV.out HS.out HC.out).mono ?_
  rintro e w7 ⟨A, n, c, rfl, hP, hk⟩
  have hB7 := hB6.trans (hk.mono hB6.size)
  have hX7 := hX6.below hk hX6.lt
  have hY7 := hY6.below hk hY6.lt
  clear hX6 hY6 hB6 hk
  have hout : Hid (((planR (qS S R) (sS S R) cs).2.2 = 5 ∧ goodM (qS S R) (sS S R) cs ls = false) ∨ ((planR (qS S R) (sS S R) cs).2.2 = 0 ∧ (planR (qS S R) (sS S R) cs).1 = trigsL S R cs ∧ TOK (sumL R.ps) cs.length (trigsL S R cs) ∧ ∀ j, j < cs.length → goodAt S R cs (trigsL S R cs) j = true)) := by
    rcases plan_cases (S := S) HC.out with ⟨h1, _, h⟩ | ⟨⟨h1, h2⟩, h⟩
    · exact .inl ⟨h, clash_bad HS.out HV.out HC.out HT.out h1⟩
    · exact .inr ⟨by rw [h], by rw [h], trigs_ok HS.out HV.out HC.out h1, trigs_good HS.out HV.out HC.out h1 h2⟩
  rw [← HGD.out] at hout
  generalize (planR (qS S R) (sS S R) cs).2.1.first = cf at *
  generalize (planR (qS S R) (sS S R) cs).2.1.last = cl at *
  generalize (planR (qS S R) (sS S R) cs).2.1.early = ce at *
  generalize (planR (qS S R) (sS S R) cs).2.2 = er at *
  generalize (planR (qS S R) (sS S R) cs).1 = pl at *
  have hX7r := hX7.alloc (.cells #[.int .i64 cf, .int .i64 cl, .bool ce] 58)
  have hY7r := hY7.alloc (.cells #[.int .i64 cf, .int .i64 cl, .bool ce] 58)
  have x0 := hX7r.cell 0
  have x1 := hX7r.cell 1
  have x2 := hX7r.cell 2
  have y0 := hY7r.cell 0
  have y1 := hY7r.cell 1
  have y2 := hY7r.cell 2
  have y3 := hY7r.cell 3
  simp only [List.getElem?_toArray, List.getElem?_cons_zero, List.getElem?_cons_succ] at x0 x1 x2 y0 y1 y2 y3
  have hlX := hX7.lt
  have hlY := hY7.lt
  rcases hout.out with ⟨h5, hg5⟩ | ⟨h0, h1, h2, h3⟩
  · subst h5
    obtain rfl : gd = false := hg5
    clear hout
    go_wp2_with fail
    clear x0 x1 x2 y0 y1 y2 y3
    have hBX := hB7.alloc hB7.size (.cells #[.int .i64 cf, .int .i64 cl, .bool ce] 58)
    refine (known_any _).mono ?_
    rintro e w9 ⟨rfl, hk⟩
    go_wp2_with fail
    go_ret
    exact ⟨rfl, hBX.trans (hk.mono hBX.size)⟩
  subst h0
  subst h1
  clear hout
  obtain rfl : kn = n := by rw [hP.1, trigsL_len]; exact HLK.out
  have HT1 : Hid (TOK (sumL R.ps) cs.length (trigsL S R cs)) := h2
  have HG1 : Hid (∀ j, j < cs.length → goodAt S R cs (trigsL S R cs) j = true) := h3
  clear h2 h3
  have g1 : goodM (qS S R) (sS S R) cs (trigsL S R cs) = true := goodM_true HS.out HV.out HC.out HT1.out HG1.out
  go_wp2_with fail
  clear x0 x1 x2 y0 y1 y2 y3
  obtain ⟨w8, hw8⟩ : ∃ w8, w8 = w7.alloc (.cells #[.int .i64 cf, .int .i64 cl, .bool ce] 58) := ⟨_, rfl⟩
  have hk : Below w7.heap.size w7 w8 := by rw [hw8]; exact (Below.refl _ _).alloc (Nat.le_refl _) _
  have hP8 := hP.grow hk hk.size
  rw [← hw8]
  clear hw8 hX7r hY7r hP
  have hB8 := hB7.trans (hk.mono hB7.size)
  have hX8 := hX7.below hk hX7.lt
  have hY8 := hY7.below hk hY7.lt
  clear hX7 hY7 hB7 hk
  refine (Good_any pa pn pc ca cn cc ja jn jc R ra rn rc sa sn sc S ka kn kc cs A kn c (trigsL S R cs) w8 (HR.out.grow hB8 hB8.size) (HD.out.grow hB8 hB8.size) (HK.out.grow hB8 hB8.size) hP8 HV.out HS.out HC.out HT1.out).mono ?_
  rintro e w9 ⟨rfl, hk⟩
  rw [g1]
  have HP9 := Lib.hid (hP8.grow hk hk.size)
  clear g1 hP8
  have hB9 := hB8.trans (hk.mono hB8.size)
  have hX9 := hX8.below hk hX8.lt
  have hY9 := hY8.below hk hY8.lt
  clear hX8 hY8 hB8 hk
  have gkk : ((kn : Int) == (kn : Int)) = true := by simp
  go_wp2_with fail
  clear gkk
  have hz9 := hB9.size
  go_loopw [18] (fun i wr => ∃ k : Nat, k ≤ kn ∧ i = .int .i64 k ∧ Below w9.heap.size w9 wr)
    (fun i _ => kn - (intOf i).toNat)
  case atStart => exact ⟨0, Nat.zero_le _, rfl, Below.refl _ _⟩
  case round =>
    obtain ⟨k, hk, rfl, hbr⟩ := hrel
    have hBr := hB9.trans (hbr.mono hz9)
    by_cases hlt : k < kn
    case pos =>
      have hkl : k < cs.length := by rw [← HLK.out]; exact hlt
      have hkp : k < (trigsL S R cs).length := by rw [trigsL_len]; exact hkl
      have hkt : k < ls.length := by rw [HT.out.l]; exact hkl
      obtain ⟨b1, o1, hA1, hbB1, e1⟩ := IS.at_ (HL.out.grow hBr hBr.size) (k := k) hkt
      obtain ⟨b2, o2, hA2, hbB2, e2⟩ := IS.at_ (HP9.out.grow hbr hbr.size) (k := k) hkp
      have hgt : gd = true → decide ((trigsL S R cs)[k]'hkp < ls[k]'hkt) = false := fun hg => by
        rw [hg] at HGD
        have hga := (goodM_iff HT.out.l).1 HGD.out.symm k hkl hkt
        rw [goodJ_at HS.out HV.out HC.out HT.out hkl hkt] at hga
        obtain ⟨q, h1, h2⟩ := good_le HS.out HV.out HC.out HT.out hkl hga
        have h3 := trigsL_at S R cs hkl
        rw [List.getElem?_eq_getElem hkp] at h3
        rw [List.getElem?_eq_getElem hkt] at h1
        rw [Option.some.inj h3, Option.some.inj h1]
        exact decide_eq_false (by omega)
      generalize (trigsL S R cs)[k]'hkp = p at *
      generalize ls[k]'hkt = t at *
      have hi1 : (0 : Int) ≤ (k : Int) := by omega
      have hi2 : (k : Int) < (kn : Int) := by omega
      have HGT := Lib.hid hgt
      clear hkl hkp hkt hgt
      subst hA1
      cases hA2
      cases gd
      · go_wp2_with fail
        go_quiet (fail)
        go_wp2_with fail
        go_roundw
        case rel => exact ⟨k + 1, by omega, by go_num, below_drewN hbr _⟩
        case measure => simp [intOf]; omega
      · have g2 := HGT.out rfl
        go_wp2_with fail
        go_quiet (fail)
        go_wp2_with fail
        go_roundw
        case rel => exact ⟨k + 1, by omega, by go_num, below_drewN hbr _⟩
        case measure => simp [intOf]; omega
    obtain rfl : kn = k := by omega
    obtain ⟨wA, hwA⟩ : ∃ wA, wA = wr := ⟨_, rfl⟩
    rw [← hwA] at hbr hBr ⊢
    have HPA := Lib.hid (HP9.out.grow hbr hbr.size)
    have hXA := hX9.below hbr hX9.lt
    have hYA := hY9.below hbr hY9.lt
    clear hwA hX9 hY9
    go_wp2_with fail
    go_loopw [19, 20] (fun o i wr => ∃ (k : Nat) (A : Option Addr) (c : Nat), k ≤ kn ∧ i = .int .i64 k ∧ o = .slice A k c ∧ OW caC 5 75 wA.heap.size wr A k c ((cs.take k).map (lessC less)) ∧ Below wA.heap.size wA wr)
      (fun _ i _ => kn - (intOf i).toNat)
    case atStart => exact ⟨0, none, 0, Nat.zero_le _, rfl, rfl, by simp only [List.take_zero, List.map_nil]; exact OW.nil_, Below.refl _ _⟩
    case round =>
      obtain ⟨m, A2, c2, hm, rfl, rfl, hO, hbC⟩ := hrel
      have hBC := hBr.trans (hbC.mono hBr.size)
      have hzC := hbC.size
      by_cases hlt : m < kn
      · have hkl : m < cs.length := by rw [← HLK.out]; exact hlt
        obtain ⟨b, off, hA, hbB, c0, c1, c2', c3, c4⟩ := KS5.at_ (HK.out.grow hBC hBC.size) (k := m) hkl
        have htk : Hid ((cs.take (m + 1)).map (lessC less) = (cs.take m).map (lessC less) ++ [lessC less cs[m]]) := by show _ = _; rw [List.take_succ_eq_append_getElem hkl, List.map_append]; rfl
        have hlb := (HC.out.k m hkl _ (List.getElem?_eq_getElem hkl)).2.1
        simp only [inR, Bool.and_eq_true, decide_eq_true_eq] at hlb
        generalize cs[m]'hkl = x at c0 c1 c2' c3 c4 htk hlb
        have hi1 : (0 : Int) ≤ (m : Int) := by omega
        have hi2 : (m : Int) < (kn : Int) := by omega
        have hM : maxM = 1125899906842624 := rfl
        obtain ⟨D, hD⟩ : ∃ D, D = x.lasts - less := ⟨_, rfl⟩
        have hls2 : IntKind.i64.wrap (x.lasts - less) = D := (IntWalk.i64_in _ (by have := HL0.out; have := HLE.out; omega)).trans hD.symm
        obtain ⟨M, hMM⟩ : ∃ M, M = max 0 D := ⟨_, rfl⟩
        have hite : (if 0 < D then D else 0) = M := by rw [hMM, Int.max_def]; split <;> split <;> omega
        have HLC : Hid (lessC less x = ⟨x.place, M, x.lead, x.ahead, x.value⟩) := by show _ = _; rw [hMM, hD]; rfl
        rw [HLC.out] at htk
        subst hA
        clear hkl hM hMM HLC hlb
        clear hD
        obtain ⟨wN, hwN⟩ : ∃ wN, wN = wr.alloc (.cells #[.int .i64 x.place, .int .i64 M, .int .i64 x.lead, .int .i64 x.ahead, .int .i64 x.value] 75) := ⟨_, rfl⟩
        have hbN : Below wr.heap.size wr wN := by rw [hwN]; exact (Below.refl _ _).alloc (Nat.le_refl _) _
        have hON := hO.call hbN
        have hNew : BK (wN.alloc (.cells #[.int .i64 x.place, .int .i64 M, .int .i64 x.lead, .int .i64 x.ahead, .int .i64 x.value] 75)) wN.heap.size 75 #[.int .i64 x.place, .int .i64 M, .int .i64 x.lead, .int .i64 x.ahead, .int .i64 x.value] := BK.new wN _ _
        have hsN : wN.heap.size = wr.heap.size + 1 := by rw [hwN]; simp
        rw [hsN, hwN] at hNew
        rw [hwN] at hON
        have hb2N := hbC.trans (hbN.mono hbC.size)
        rw [hwN] at hb2N
        clear hwN hsN hbN
        go_wp2_with (at_builtin; refine wpList_app rfl _ _ 55 rfl wA.heap.size 75 _ 5 40 Tryd.underlying55 infoCa rfl (by decide) caC A2 m c2 _ rfl (hON.alloc _) ⟨x.place, M, x.lead, x.ahead, x.value⟩ #[.int .i64 x.place, .int .i64 M, .int .i64 x.lead, .int .i64 x.ahead, .int .i64 x.value] rfl rfl 75 (wr.heap.size + 1) rfl hNew (by simp [caC, Value.oneCell']) (by omega) (by omega) (by simp; omega) ?_; intro g' c' w8 hap; have HAP := Lib.hid hap; clear hap)
        have hap := HAP.out
        have hbN2 : Below wA.heap.size wA w8 := (hb2N.alloc (by simp; omega) _).trans hap.bel
        go_roundw
        case rel => exact ⟨m + 1, some ⟨g', 0, none⟩, c', by omega, by go_num, by go_num, by rw [htk.out]; exact hap.own, hbN2⟩
        case measure => simp [intOf]; omega
      obtain rfl : kn = m := by omega
      rw [List.take_of_length_le (by rw [← HLK.out]; exact Nat.le_refl _)] at hO
      have hF0 := hO.sl caC_len
      obtain ⟨wB, hwB⟩ : ∃ wB, wB = wr := ⟨_, rfl⟩
      rw [← hwB] at hbC hBC hF0 ⊢
      have HPB := Lib.hid (HPA.out.grow hbC hbC.size)
      have HFB := Lib.hid hF0
      have hXB := hXA.below hbC hXA.lt
      have hYB := hYA.below hbC hYA.lt
      clear hwB hXA hYA hO hF0 hzC hbr hBr
      have hlX := hXB.lt
      have hlY := hYB.lt
      have y0 := hYB.cell 0
      have y1 := hYB.cell 1
      have y2 := hYB.cell 2
      have y3 := hYB.cell 3
      simp only [List.getElem?_toArray, List.getElem?_cons_zero, List.getElem?_cons_succ] at y0 y1 y2 y3
      go_wp2_with fail
      clear y0 y1 y2 y3
      obtain ⟨wD, hwD⟩ : ∃ wD, wD = wB.alloc (.cells #[.int .i64 S.least, .int .i64 S.most, .slice ra rn rc, .slice sa sn sc] 30) := ⟨_, rfl⟩
      have hZD : BK wD wB.heap.size 30 #[.int .i64 S.least, .int .i64 S.most, .slice ra rn rc, .slice sa sn sc] := by rw [hwD]; exact BK.new _ _ _
      have hk : Below wB.heap.size wB wD := by rw [hwD]; exact (Below.refl _ _).alloc (Nat.le_refl _) _
      rw [← hwD]
      clear hwD
      have HPD := Lib.hid (HPB.out.grow hk hk.size)
      have HFD := Lib.hid (HFB.out.grow hk hk.size)
      have hBD := hBC.trans (hk.mono hBC.size)
      have hBD0 := hk
      have hXD := hXB.below hk hXB.lt
      have hYD := hYB.below hk hYB.lt
      have hzB := hBC.size
      clear hk
      obtain ⟨s1, s2, s3⟩ := bdB_iff.1 HS.out.b
      obtain ⟨p0, hp0⟩ : ∃ p0, p0 = S.least + S.most := ⟨_, rfl⟩
      obtain ⟨a0, ha0⟩ : ∃ a0, a0 = p0 / 2 := ⟨_, rfl⟩
      obtain ⟨b0, hb0⟩ : ∃ b0, b0 = (p0 + 1) / 2 := ⟨_, rfl⟩
      have HA0 : Hid ((S.least + S.most) / 2 = a0) := by show _ = _; rw [ha0, hp0]
      have HB0 : Hid ((S.least + S.most + 1) / 2 = b0) := by show _ = _; rw [hb0, hp0]
      have hw1 : IntKind.i64.wrap (S.least + S.most) = p0 := (IntWalk.i64_in _ (by omega)).trans hp0.symm
      have hq1 : p0.tdiv 2 = a0 := by rw [ha0, Int.tdiv_eq_ediv_of_nonneg (by omega)]
      have hw2 : IntKind.i64.wrap a0 = a0 := IntWalk.i64_in _ (by omega)
      obtain ⟨p1, hp1⟩ : ∃ p1, p1 = p0 + 1 := ⟨_, rfl⟩
      have hw3 : IntKind.i64.wrap (p0 + 1) = p1 := (IntWalk.i64_in _ (by omega)).trans hp1.symm
      have hq2 : p1.tdiv 2 = b0 := by rw [hb0, hp1, Int.tdiv_eq_ediv_of_nonneg (by omega)]
      have hw4 : IntKind.i64.wrap b0 = b0 := IntWalk.i64_in _ (by omega)
      clear hp0 ha0 hb0 hp1 s1 s2 s3
      have y0 := hYD.cell 0
      have y1 := hYD.cell 1
      have z0 := hZD.cell 0
      have z1 := hZD.cell 1
      have f0 := hZD.frozen 0
      have f1 := hZD.frozen 1
      simp only [List.getElem?_toArray, List.getElem?_cons_zero, List.getElem?_cons_succ] at y0 y1 z0 z1
      go_region
      clear y0 y1 z0 z1 f0 f1 hw1 hq1 hw2 hw3 hq2 hw4
      obtain ⟨wE, hwE⟩ : ∃ wE, wE = ((wD.setCell ⟨wB.heap.size, 0, none⟩ (.int .i64 a0)).setCell ⟨wB.heap.size, 1, none⟩ (.int .i64 b0)).drew := ⟨_, rfl⟩
      have hZE : BK wE wB.heap.size 30 #[.int .i64 a0, .int .i64 b0, .slice ra rn rc, .slice sa sn sc] := by rw [hwE]; exact ((hZD.set_ 0 _).set_ 1 _).drew
      have hbE : Below wB.heap.size wB wE := by rw [hwE]; exact below_drewN (((hBD0.setCell (p := ⟨wB.heap.size, 0, none⟩) (Nat.le_refl _) _).setCell (p := ⟨wB.heap.size, 1, none⟩) (Nat.le_refl _) _)) 1
      rw [← hwE]
      clear hwE hZD hBD0 hXD hYD HPD HFD hBD
      have z2 := hZE.cell 2
      have f2 := hZE.frozen 2
      have hlE := hZE.lt
      simp only [List.getElem?_toArray, List.getElem?_cons_zero, List.getElem?_cons_succ] at z2
      go_wp2_with fail
      clear z2 f2
      obtain ⟨wG, hwG⟩ : ∃ wG, wG = wE.setCell ⟨wB.heap.size, 2, none⟩ (.slice none 0 0) := ⟨_, rfl⟩
      have hZG : BK wG wB.heap.size 30 #[.int .i64 a0, .int .i64 b0, .slice none 0 0, .slice sa sn sc] := by rw [hwG]; exact hZE.set_ 2 _
      have hbG : Below wB.heap.size wB wG := by rw [hwG]; exact hbE.setCell (p := ⟨wB.heap.size, 2, none⟩) (Nat.le_refl _) _
      rw [← hwG]
      have hlG := hZG.lt
      clear hwG hZE hbE hlE
      go_loopw [23] (fun i wr => ∃ (k : Nat) (A : Option Addr) (c : Nat), k ≤ rn ∧ i = .int .i64 k ∧ BK wr wB.heap.size 30 #[.int .i64 a0, .int .i64 b0, .slice A k c, .slice sa sn sc] ∧ OW spC 3 77 wG.heap.size wr A k c ((S.rows.take k).map narR) ∧ Below wB.heap.size wB wr ∧ wG.heap.size ≤ wr.heap.size)
        (fun i _ => rn - (intOf i).toNat)
      case atStart => exact ⟨0, none, 0, Nat.zero_le _, rfl, hZG, by simp only [List.take_zero, List.map_nil]; exact OW.nil_, hbG, Nat.le_refl _⟩
      case round =>
        obtain ⟨m, A3, c3, hm, rfl, hZr, hO, hbr, hzr⟩ := hrel
        have hBr := hBC.trans (hbr.mono hzB)
        have hXr := hXB.below hbr hXB.lt
        have hYr := hYB.below hbr hYB.lt
        have hlZ := hZr.lt
        have hlY := hYr.lt
        have hlX := hXr.lt
        have y2 := hYr.cell 2
        have z2 := hZr.cell 2
        simp only [List.getElem?_toArray, List.getElem?_cons_zero, List.getElem?_cons_succ] at y2 z2
        by_cases hlt : m < rn
        · have hkl : m < S.rows.length := by rw [← HRN.out]; exact hlt
          obtain ⟨b, off, hA, hbB, c0, c1, c2'⟩ := SR.at_ (HD.out.r.grow hBr hBr.size) (k := m) hkl
          have htk : Hid ((S.rows.take (m + 1)).map narR = (S.rows.take m).map narR ++ [narR S.rows[m]]) := by show _ = _; rw [List.take_succ_eq_append_getElem hkl, List.map_append]; rfl
          obtain ⟨r1, r2, r3⟩ := bdB_iff.1 (HS.out.rk m hkl _ (List.getElem?_eq_getElem hkl)).1
          have hr30 := HS.out.r2
          have hm30 : m ≤ 30 := by omega
          generalize S.rows[m]'hkl = x at c0 c1 c2' htk r1 r2 r3
          have hi1 : (0 : Int) ≤ (m : Int) := by omega
          have hi2 : (m : Int) < (rn : Int) := by omega
          obtain ⟨p0, hp0⟩ : ∃ p0, p0 = x.least + x.most := ⟨_, rfl⟩
          obtain ⟨a1, ha1⟩ : ∃ a1, a1 = p0 / 2 := ⟨_, rfl⟩
          obtain ⟨b1, hb1⟩ : ∃ b1, b1 = (p0 + 1) / 2 := ⟨_, rfl⟩
          have HNR : Hid (narR x = ⟨x.rad, a1, b1⟩) := by show _ = _; rw [ha1, hb1, hp0]; rfl
          rw [HNR.out] at htk
          have hw1 : IntKind.i64.wrap (x.least + x.most) = p0 := (IntWalk.i64_in _ (by omega)).trans hp0.symm
          have hq1 : p0.tdiv 2 = a1 := by rw [ha1, Int.tdiv_eq_ediv_of_nonneg (by omega)]
          have hw2 : IntKind.i64.wrap a1 = a1 := IntWalk.i64_in _ (by omega)
          obtain ⟨p1, hp1⟩ : ∃ p1, p1 = p0 + 1 := ⟨_, rfl⟩
          have hw3 : IntKind.i64.wrap (p0 + 1) = p1 := (IntWalk.i64_in _ (by omega)).trans hp1.symm
          have hq2 : p1.tdiv 2 = b1 := by rw [hb1, hp1, Int.tdiv_eq_ediv_of_nonneg (by omega)]
          have hw4 : IntKind.i64.wrap b1 = b1 := IntWalk.i64_in _ (by omega)
          clear hp0 ha1 hb1 hp1 r1 r2 r3 hr30 hkl HNR
          subst hA
          obtain ⟨wN, hwN⟩ : ∃ wN, wN = wr.alloc (.cells #[.int .i64 x.rad, .int .i64 x.least, .int .i64 x.most] 77) := ⟨_, rfl⟩
          have hbN : Below wr.heap.size wr wN := by rw [hwN]; exact (Below.refl _ _).alloc (Nat.le_refl _) _
          have hON := hO.call hbN
          have hZN := hZr.below hbN hlZ
          have hNew : BK (wN.alloc (.cells #[.int .i64 x.rad, .int .i64 a1, .int .i64 b1] 77)) wN.heap.size 77 #[.int .i64 x.rad, .int .i64 a1, .int .i64 b1] := BK.new wN _ _
          have hsN : wN.heap.size = wr.heap.size + 1 := by rw [hwN]; simp
          rw [hsN, hwN] at hNew
          have hZN2 := hZN.alloc (.cells #[.int .i64 x.rad, .int .i64 a1, .int .i64 b1] 77)
          rw [hwN] at hON hZN2
          have hb2N := hbr.trans (hbN.mono hbr.size)
          rw [hwN] at hb2N
          clear hwN hsN hbN hZN
          go_wp2_with (at_builtin; refine wpList_app rfl _ _ 27 rfl wG.heap.size 77 _ 3 24 Tryd.underlying27 infoSr rfl (by decide) spC A3 m c3 _ rfl (hON.alloc _) ⟨x.rad, a1, b1⟩ #[.int .i64 x.rad, .int .i64 a1, .int .i64 b1] rfl rfl 77 (wr.heap.size + 1) rfl hNew (by simp [spC, Value.oneCell']) (by omega) (by omega) (by simp; omega) ?_; intro g' c' w8 hap; have HAP := Lib.hid hap; clear hap; have hZ8 := hZN2.below HAP.out.bel hlG; have z8 := hZ8.cell 2; have f8 := hZ8.frozen 2; simp only [List.getElem?_toArray, List.getElem?_cons_zero, List.getElem?_cons_succ] at z8)
          have hap := HAP.out
          have hbN2 : Below wB.heap.size wB w8 := (hb2N.alloc (by have := hbr.size; simp; omega) _).trans (hap.bel.mono (by omega))
          go_roundw
          case rel => exact ⟨m + 1, some ⟨g', 0, none⟩, c', by omega, by go_num, hZ8.set_ 2 _, by rw [htk.out]; exact hap.own.setCell (fun g hg => by have := (hap.own.lt hg).1; simp only; omega) _, hbN2.setCell (p := ⟨wB.heap.size, 2, none⟩) (Nat.le_refl _) _, by have := hap.size; simp at this ⊢; omega⟩
          case measure => simp [intOf]; omega
        obtain rfl : rn = m := by omega
        rw [List.take_of_length_le (by rw [← HRN.out]; exact Nat.le_refl _)] at hO
        have HS2 : Hid (SOK ⟨a0, b0, S.rows.map narR, S.surf⟩) := by
          have := nar_ok HS.out
          unfold narS at this
          rw [HA0.out, HB0.out] at this
          exact this
        have HD2 : Hid (SD wr wr.heap.size A3 rn sa sn ⟨a0, b0, S.rows.map narR, S.surf⟩) := ⟨hO.sl spC_len, HD.out.s.grow hBr hBr.size⟩
        have HGN : Hid (goodM (qS ⟨a0, b0, S.rows.map narR, S.surf⟩ R) (sS ⟨a0, b0, S.rows.map narR, S.surf⟩ R) cs (trigsL S R cs) = true) := by
          have := good_nar HS.out HV.out HC.out HT1.out HG1.out
          unfold narS at this
          rw [HA0.out, HB0.out] at this
          exact this
        have HGL : Hid (goodM (qS S R) (sS S R) (cs.map (lessC less)) (trigsL S R cs) = true) := good_less HS.out HV.out HC.out HT1.out HL0.out HG1.out
        have HCL : Hid (COK (sumL R.ps) (cs.map (lessC less))) := less_ok HC.out HL0.out
        have HTL : Hid (TOK (sumL R.ps) (cs.map (lessC less)).length (trigsL S R cs)) := by show TOK _ _ _; rw [List.length_map]; exact HT1.out
        have HPr := Lib.hid (HPB.out.grow hbr hbr.size)
        have HFr := Lib.hid (HFB.out.grow hbr hbr.size)
        clear hO HPB HFB
        have x0 := hXr.cell 0
        have x1 := hXr.cell 1
        have x2 := hXr.cell 2
        have y0 := hYr.cell 0
        have y1 := hYr.cell 1
        have y3 := hYr.cell 3
        simp only [List.getElem?_toArray, List.getElem?_cons_zero, List.getElem?_cons_succ] at x0 x1 x2 y0 y1 y3
        go_wp2_with fail
        clear x0 x1 x2 y0 y1 y2 y3 z2
        refine (Good_any pa pn pc ca cn cc ja jn jc R ra rn rc sa sn sc S A2 kn c2 (cs.map (lessC less)) A kn c (trigsL S R cs) wr (HR.out.grow hBr hBr.size) (HD.out.grow hBr hBr.size) HFr.out HPr.out HV.out HS.out HCL.out HTL.out).mono ?_
        rintro e w40 ⟨rfl, hk⟩
        rw [HGL.out]
        have hX40 := hXr.below hk hXr.lt
        have hZ40 := hZr.below hk hZr.lt
        have hB40 := hBr.trans (hk.mono hBr.size)
        have HP40 := Lib.hid (HPr.out.grow hk hk.size)
        have HD40 := Lib.hid (HD2.out.grow hk hk.size)
        clear hk hXr hYr hZr HPr HFr HD2
        have x0 := hX40.cell 0
        have x1 := hX40.cell 1
        have x2 := hX40.cell 2
        have z0 := hZ40.cell 0
        have z1 := hZ40.cell 1
        have z2 := hZ40.cell 2
        have z3 := hZ40.cell 3
        simp only [List.getElem?_toArray, List.getElem?_cons_zero, List.getElem?_cons_succ] at x0 x1 x2 z0 z1 z2 z3
        go_wp2_with fail
        clear x0 x1 x2 z0 z1 z2 z3
        refine (Good_any pa pn pc ca cn cc ja jn jc R A3 rn c3 sa sn sc ⟨a0, b0, S.rows.map narR, S.surf⟩ ka kn kc cs A kn c (trigsL S R cs) w40 (HR.out.grow hB40 hB40.size) HD40.out (HK.out.grow hB40 hB40.size) HP40.out HV.out HS2.out HC.out HT1.out).mono ?_
        rintro e w41 ⟨rfl, hk⟩
        rw [HGN.out]
        have hBX := hB40.trans (hk.mono hB40.size)
        clear hk
        go_wp2_with fail
        refine (known_any _).mono ?_
        rintro e w9 ⟨rfl, hk⟩
        go_wp2_with fail
        go_ret
        exact ⟨rfl, hBX.trans (hk.mono hBX.size)⟩
end Go.Proofs.YtijcbfhlhgjedaaDoor
