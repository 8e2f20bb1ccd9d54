/- pace.Good where an argument is not as defined; and for all. -/
import Derived.Test.YtijcbfhlhgjedaaDoorCAll
namespace Go.Proofs.YtijcbfhlhgjedaaDoor
open Go.RowKit Go.Shelf Go.Sort Go.Proofs

set_option maxRecDepth 100000 in
set_option maxHeartbeats 8000000 in
theorem Good_bad1 (pa : Option Addr) (pn pc : Nat) (ca : Option Addr) (cn cc : Nat) (ja : Option Addr) (jn jc : Nat) (R : Road) (ra : Option Addr) (rn rc : Nat) (sa : Option Addr) (sn sc : Nat) (S : Spd) (ka : Option Addr) (kn kc : Nat) (la : Option Addr) (ln lc : Nat) (w : World)
    (h : RD w w.heap.size pa pn ca cn ja jn R) (hD : SD w w.heap.size ra rn sa sn S) (hbad : ¬ (OK R ∧ SOK S)) :
    Calls Tryd.prog 38 #[.agg #[.slice pa pn pc, .slice ca cn cc, .slice ja jn jc], .agg #[.int .i64 S.least, .int .i64 S.most, .slice ra rn rc, .slice sa sn sc], .slice ka kn kc, .slice la ln lc] w fun e w' =>
      e = .returned (.tuple #[.bool false, .int .i64 2]) ∧ Below w.heap.size w w' := by
  have HR := Lib.hid h
  have HD := Lib.hid hD
  have HN := Lib.hid hbad
  clear h hD hbad
  obtain ⟨w0, hw0⟩ : ∃ w0, w0 = (w.alloc (.cells #[.slice pa pn pc, .slice ca cn cc, .slice ja jn jc] 26)).alloc (.cells #[.int .i64 S.least, .int .i64 S.most, .slice ra rn rc, .slice sa sn sc] 30) := ⟨_, rfl⟩
  have hB0 : Below w.heap.size w w0 := by rw [hw0]; exact ((Below.refl w.heap.size w).alloc (Nat.le_refl _) _).alloc (by simp) _
  have hX0 : BK w0 w.heap.size 26 #[.slice pa pn pc, .slice ca cn cc, .slice ja jn jc] := by rw [hw0]; exact (BK.new w _ _).alloc _
  have hY0 : BK w0 (w.heap.size + 1) 30 #[.int .i64 S.least, .int .i64 S.most, .slice ra rn rc, .slice sa sn sc] := by
    rw [hw0]; have := BK.new (w.alloc (.cells #[.slice pa pn pc, .slice ca cn cc, .slice ja jn jc] 26)) 30 #[.int .i64 S.least, .int .i64 S.most, .slice ra rn rc, .slice sa sn sc]; rw [World.size_alloc] at this; exact this
  go_enter Tryd.func38, Tryd.ntmps38
  go_wp2_with fail
  rw [← hw0]
  clear hw0
  have x0 := hX0.cell 0
  have x1 := hX0.cell 1
  have x2 := hX0.cell 2
  have y0 := hY0.cell 0
  have y1 := hY0.cell 1
  have y2 := hY0.cell 2
  have y3 := hY0.cell 3
  simp only [List.getElem?_toArray, List.getElem?_cons_zero, List.getElem?_cons_succ] at x0 x1 x2 y0 y1 y2 y3
  go_wp2_with fail
  clear x0 x1 x2 y0 y1 y2 y3
  refine (begin_bad pa pn pc ca cn cc ja jn jc R ra rn rc sa sn sc S w0 (HR.out.grow hB0 hB0.size) (HD.out.grow hB0 hB0.size) HN.out).mono ?_
  rintro e w1 ⟨rfl, hk0⟩
  have hB1 := hB0.trans (hk0.mono hB0.size)
  clear hX0 hY0 hk0 hB0
  go_wp2_with fail
  refine bodyPost_ret (v := .tuple #[.bool false, .int .i64 2]) (by simp [results, Tryd.results38, go_sem]) rfl ⟨rfl, hB1⟩
set_option maxRecDepth 100000 in
set_option maxHeartbeats 8000000 in
theorem Good_bad2 (pa : Option Addr) (pn pc : Nat) (ca : Option Addr) (cn cc : Nat) (ja : Option Addr) (jn jc : Nat) (R : Road) (ra : Option Addr) (rn rc : Nat) (sa : Option Addr) (sn sc : Nat) (S : Spd) (ka : Option Addr) (kn kc : Nat) (cs : List CallR) (la : Option Addr) (ln lc : Nat) (w : World)
    (h : RD w w.heap.size pa pn ca cn ja jn R) (hD : SD w w.heap.size ra rn sa sn S) (hK : SL caC 5 w w.heap.size ka kn cs) (hv : OK R) (hS : SOK S) (hc : ¬ COK (sumL R.ps) cs) (hkn : kn ≤ 100000) :
    Calls Tryd.prog 38 #[.agg #[.slice pa pn pc, .slice ca cn cc, .slice ja jn jc], .agg #[.int .i64 S.least, .int .i64 S.most, .slice ra rn rc, .slice sa sn sc], .slice ka kn kc, .slice la ln lc] w fun e w' =>
      e = .returned (.tuple #[.bool false, .int .i64 2]) ∧ Below w.heap.size w w' := by
  have HR := Lib.hid h
  have HD := Lib.hid hD
  have HK := Lib.hid hK
  have HV := Lib.hid hv
  have HS := Lib.hid hS
  have HC := Lib.hid hc
  clear h hD hK hv hS hc
  obtain ⟨w0, hw0⟩ : ∃ w0, w0 = (w.alloc (.cells #[.slice pa pn pc, .slice ca cn cc, .slice ja jn jc] 26)).alloc (.cells #[.int .i64 S.least, .int .i64 S.most, .slice ra rn rc, .slice sa sn sc] 30) := ⟨_, rfl⟩
  have hB0 : Below w.heap.size w w0 := by rw [hw0]; exact ((Below.refl w.heap.size w).alloc (Nat.le_refl _) _).alloc (by simp) _
  have hX0 : BK w0 w.heap.size 26 #[.slice pa pn pc, .slice ca cn cc, .slice ja jn jc] := by rw [hw0]; exact (BK.new w _ _).alloc _
  have hY0 : BK w0 (w.heap.size + 1) 30 #[.int .i64 S.least, .int .i64 S.most, .slice ra rn rc, .slice sa sn sc] := by
    rw [hw0]; have := BK.new (w.alloc (.cells #[.slice pa pn pc, .slice ca cn cc, .slice ja jn jc] 26)) 30 #[.int .i64 S.least, .int .i64 S.most, .slice ra rn rc, .slice sa sn sc]; rw [World.size_alloc] at this; exact this
  go_enter Tryd.func38, Tryd.ntmps38
  go_wp2_with fail
  rw [← hw0]
  clear hw0
  have x0 := hX0.cell 0
  have x1 := hX0.cell 1
  have x2 := hX0.cell 2
  have y0 := hY0.cell 0
  have y1 := hY0.cell 1
  have y2 := hY0.cell 2
  have y3 := hY0.cell 3
  simp only [List.getElem?_toArray, List.getElem?_cons_zero, List.getElem?_cons_succ] at x0 x1 x2 y0 y1 y2 y3
  go_wp2_with fail
  clear x0 x1 x2 y0 y1 y2 y3
  refine (begin_any pa pn pc ca cn cc ja jn jc R ra rn rc sa sn sc S w0 (HR.out.grow hB0 hB0.size) (HD.out.grow hB0 hB0.size) HV.out HS.out).mono ?_
  rintro e w1 ⟨g, ta, tc, N, rfl, hTS, hk0⟩
  have hB1 := hB0.trans (hk0.mono hB0.size)
  have HTS := Lib.hid hTS
  have hN1 : N ≤ 100000 := by have := hTS.n; have := HV.out.n1; omega
  have HCN : Hid (¬ COK N cs) := by have := HC.out; rw [hTS.n] at this; exact this
  have hgl := hTS.lt
  clear hX0 hY0 hk0 hB0 hTS
  go_wp2_with fail
  refine (calls_any ka kn kc cs g ta tc N S R w1 HTS.out (HK.out.grow hB1 hB1.size) (by omega) (by omega)).mono ?_
  rintro e w3 ⟨rfl, hk0⟩
  rw [cB_bad HCN.out]
  have hB3 := hB1.trans (hk0.mono hB1.size)
  clear hk0 HTS hB1
  go_wp2_with fail
  refine bodyPost_ret (v := .tuple #[.bool false, .int .i64 2]) (by simp [results, Tryd.results38, go_sem]) rfl ⟨rfl, hB3⟩
set_option maxRecDepth 100000 in
set_option maxHeartbeats 8000000 in
theorem Good_bad3 (pa : Option Addr) (pn pc : Nat) (ca : Option Addr) (cn cc : Nat) (ja : Option Addr) (jn jc : Nat) (R : Road) (ra : Option Addr) (rn rc : Nat) (sa : Option Addr) (sn sc : Nat) (S : Spd) (ka : Option Addr) (kn kc : Nat) (cs : List CallR) (la : Option Addr) (ln lc : Nat) (ls : List Int) (w : World)
    (h : RD w w.heap.size pa pn ca cn ja jn R) (hD : SD w w.heap.size ra rn sa sn S) (hK : SL caC 5 w w.heap.size ka kn cs) (hL : SL iC 1 w w.heap.size la ln ls) (hv : OK R) (hS : SOK S) (hc : COK (sumL R.ps) cs) (ht : ¬ TOK (sumL R.ps) cs.length ls) (hkn : kn ≤ 100000) (hln : ln ≤ 100000) :
    Calls Tryd.prog 38 #[.agg #[.slice pa pn pc, .slice ca cn cc, .slice ja jn jc], .agg #[.int .i64 S.least, .int .i64 S.most, .slice ra rn rc, .slice sa sn sc], .slice ka kn kc, .slice la ln lc] w fun e w' =>
      e = .returned (.tuple #[.bool false, .int .i64 2]) ∧ Below w.heap.size w w' := by
  have HR := Lib.hid h
  have HD := Lib.hid hD
  have HK := Lib.hid hK
  have HL := Lib.hid hL
  have HV := Lib.hid hv
  have HS := Lib.hid hS
  have HC := Lib.hid hc
  have HT := Lib.hid ht
  clear h hD hK hL hv hS hc ht
  obtain ⟨w0, hw0⟩ : ∃ w0, w0 = (w.alloc (.cells #[.slice pa pn pc, .slice ca cn cc, .slice ja jn jc] 26)).alloc (.cells #[.int .i64 S.least, .int .i64 S.most, .slice ra rn rc, .slice sa sn sc] 30) := ⟨_, rfl⟩
  have hB0 : Below w.heap.size w w0 := by rw [hw0]; exact ((Below.refl w.heap.size w).alloc (Nat.le_refl _) _).alloc (by simp) _
  have hX0 : BK w0 w.heap.size 26 #[.slice pa pn pc, .slice ca cn cc, .slice ja jn jc] := by rw [hw0]; exact (BK.new w _ _).alloc _
  have hY0 : BK w0 (w.heap.size + 1) 30 #[.int .i64 S.least, .int .i64 S.most, .slice ra rn rc, .slice sa sn sc] := by
    rw [hw0]; have := BK.new (w.alloc (.cells #[.slice pa pn pc, .slice ca cn cc, .slice ja jn jc] 26)) 30 #[.int .i64 S.least, .int .i64 S.most, .slice ra rn rc, .slice sa sn sc]; rw [World.size_alloc] at this; exact this
  go_enter Tryd.func38, Tryd.ntmps38
  go_wp2_with fail
  rw [← hw0]
  clear hw0
  have x0 := hX0.cell 0
  have x1 := hX0.cell 1
  have x2 := hX0.cell 2
  have y0 := hY0.cell 0
  have y1 := hY0.cell 1
  have y2 := hY0.cell 2
  have y3 := hY0.cell 3
  simp only [List.getElem?_toArray, List.getElem?_cons_zero, List.getElem?_cons_succ] at x0 x1 x2 y0 y1 y2 y3
  go_wp2_with fail
  clear x0 x1 x2 y0 y1 y2 y3
  refine (begin_any pa pn pc ca cn cc ja jn jc R ra rn rc sa sn sc S w0 (HR.out.grow hB0 hB0.size) (HD.out.grow hB0 hB0.size) HV.out HS.out).mono ?_
  rintro e w1 ⟨g, ta, tc, N, rfl, hTS, hk0⟩
  have hB1 := hB0.trans (hk0.mono hB0.size)
  have HTS := Lib.hid hTS
  have hN1 : N ≤ 100000 := by have := hTS.n; have := HV.out.n1; omega
  have HCN : Hid (COK N cs) := by have := HC.out; rw [hTS.n] at this; exact this
  have HTN : Hid (¬ TOK N cs.length ls) := by have := HT.out; rw [hTS.n] at this; exact this
  have hgl := hTS.lt
  have HLK := Lib.hid HK.out.1
  clear hX0 hY0 hk0 hB0 hTS
  go_wp2_with fail
  refine (calls_any ka kn kc cs g ta tc N S R w1 HTS.out (HK.out.grow hB1 hB1.size) (by omega) (by omega)).mono ?_
  rintro e w3 ⟨rfl, hk0⟩
  rw [cB_ok HCN.out]
  have hB3 := hB1.trans (hk0.mono hB1.size)
  have HT3 := Lib.hid (HTS.out.grow hk0 hk0.size)
  clear hk0 HTS hB1
  go_wp2_with fail
  refine (trig_any ka kn kc la ln lc ls g ta tc N S R w3 HT3.out (HL.out.grow hB3 hB3.size) (by omega) (by omega)).mono ?_
  rintro e w4 ⟨rfl, rfl⟩
  have htr : trB N kn ls = false := by rw [HLK.out]; exact trB_bad HTN.out
  rw [htr]
  clear htr
  go_wp2_with fail
  refine bodyPost_ret (v := .tuple #[.bool false, .int .i64 2]) (by simp [results, Tryd.results38, go_sem]) rfl ⟨rfl, hB3⟩
/-- Whether a plan is good, of whatever arguments. -/
def goodAll (S : Spd) (R : Road) (cs : List CallR) (ls : List Int) : Bool × Int := if (val R && spB S && cB (sumL R.ps) cs && trB (sumL R.ps) cs.length ls) = true then (goodM (qS S R) (sS S R) cs ls, 0) else (false, 2)
theorem goodAll_bad {S : Spd} {R : Road} {cs : List CallR} {ls : List Int} (h : (val R && spB S && cB (sumL R.ps) cs && trB (sumL R.ps) cs.length ls) = false) : goodAll S R cs ls = (false, 2) := by unfold goodAll; rw [h]; rfl
theorem goodAll_ok {S : Spd} {R : Road} {cs : List CallR} {ls : List Int} (h : (val R && spB S && cB (sumL R.ps) cs && trB (sumL R.ps) cs.length ls) = true) : goodAll S R cs ls = (goodM (qS S R) (sS S R) cs ls, 0) := by unfold goodAll; rw [h]; rfl
theorem Good_all (pa : Option Addr) (pn pc : Nat) (ca : Option Addr) (cn cc : Nat) (ja : Option Addr) (jn jc : Nat) (R : Road) (ra : Option Addr) (rn rc : Nat) (sa : Option Addr) (sn sc : Nat) (S : Spd) (ka : Option Addr) (kn kc : Nat) (cs : List CallR) (la : Option Addr) (ln lc : Nat) (ls : List Int) (w : World)
    (h : RD w w.heap.size pa pn ca cn ja jn R) (hD : SD w w.heap.size ra rn sa sn S) (hK : SL caC 5 w w.heap.size ka kn cs) (hL : SL iC 1 w w.heap.size la ln ls) (hkn : kn ≤ 100000) (hln : ln ≤ 100000) :
    Calls Tryd.prog 38 #[.agg #[.slice pa pn pc, .slice ca cn cc, .slice ja jn jc], .agg #[.int .i64 S.least, .int .i64 S.most, .slice ra rn rc, .slice sa sn sc], .slice ka kn kc, .slice la ln lc] w fun e w' =>
      e = .returned (.tuple #[.bool (goodAll S R cs ls).1, .int .i64 (goodAll S R cs ls).2]) ∧ Below w.heap.size w w' := by
  by_cases hb : OK R ∧ SOK S
  · by_cases hc : COK (sumL R.ps) cs
    · by_cases ht : TOK (sumL R.ps) cs.length ls
      · rw [goodAll_ok (by rw [(val_iff R).2 hb.1, (spB_iff S).2 hb.2, cB_ok hc, trB_ok ht]; rfl)]
        exact Good_any pa pn pc ca cn cc ja jn jc R ra rn rc sa sn sc S ka kn kc cs la ln lc ls w h hD hK hL hb.1 hb.2 hc ht
      · rw [goodAll_bad (by rw [trB_bad ht, Bool.and_false])]
        exact Good_bad3 pa pn pc ca cn cc ja jn jc R ra rn rc sa sn sc S ka kn kc cs la ln lc ls w h hD hK hL hb.1 hb.2 hc ht hkn hln
    · rw [goodAll_bad (by rw [cB_bad hc, Bool.and_false, Bool.false_and])]
      exact Good_bad2 pa pn pc ca cn cc ja jn jc R ra rn rc sa sn sc S ka kn kc cs la ln lc w h hD hK hb.1 hb.2 hc hkn
  · rw [goodAll_bad]
    · exact Good_bad1 pa pn pc ca cn cc ja jn jc R ra rn rc sa sn sc S ka kn kc la ln lc w h hD hb
    · rw [Bool.eq_false_iff]
      intro q
      rw [Bool.and_eq_true, Bool.and_eq_true, Bool.and_eq_true] at q
      exact hb ⟨(val_iff R).1 q.1.1.1, (spB_iff S).1 q.1.1.2⟩
end Go.Proofs.YtijcbfhlhgjedaaDoor
