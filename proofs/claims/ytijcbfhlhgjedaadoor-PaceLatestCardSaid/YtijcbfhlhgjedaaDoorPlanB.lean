/- pace.Plan where an argument is not as defined; and for all. -/
import Derived.Test.YtijcbfhlhgjedaaDoorCAll
namespace Go.Proofs.YtijcbfhlhgjedaaDoor
open Go.RowKit Go.Shelf Go.Sort Go.Proofs

set_option maxRecDepth 100000 in
set_option maxHeartbeats 8000000 in
theorem Plan_bad1 (pa : Option Addr) (pn pc : Nat) (ca : Option Addr) (cn cc : Nat) (ja : Option Addr) (jn jc : Nat) (R : Road) (ra : Option Addr) (rn rc : Nat) (sa : Option Addr) (sn sc : Nat) (S : Spd) (ka : Option Addr) (kn kc : Nat) (w : World)
    (h : RD w w.heap.size pa pn ca cn ja jn R) (hD : SD w w.heap.size ra rn sa sn S) (hbad : ¬ (OK R ∧ SOK S)) :
    Calls Tryd.prog 31 #[.agg #[.slice pa pn pc, .slice ca cn cc, .slice ja jn jc], .agg #[.int .i64 S.least, .int .i64 S.most, .slice ra rn rc, .slice sa sn sc], .slice ka kn kc] w fun e w' =>
      e = .returned (.tuple #[.slice none 0 0, .agg #[.int .i64 0, .int .i64 0, .bool false], .int .i64 2]) ∧ Below w.heap.size w w' := by
  have HR := Lib.hid h
  have HD := Lib.hid hD
  have HN := Lib.hid hbad
  clear h hD hbad
  obtain ⟨w0, hw0⟩ : ∃ w0, w0 = ((w.alloc (.cells #[.slice pa pn pc, .slice ca cn cc, .slice ja jn jc] 26)).alloc (.cells #[.int .i64 S.least, .int .i64 S.most, .slice ra rn rc, .slice sa sn sc] 30)).alloc (.cells #[.int .i64 0, .int .i64 0, .bool false] 58) := ⟨_, rfl⟩
  have hB0 : Below w.heap.size w w0 := by rw [hw0]; exact (((Below.refl w.heap.size w).alloc (Nat.le_refl _) _).alloc (by simp) _).alloc (by simp; omega) _
  have hX0 : BK w0 w.heap.size 26 #[.slice pa pn pc, .slice ca cn cc, .slice ja jn jc] := by rw [hw0]; exact ((BK.new w _ _).alloc _).alloc _
  have hY0 : BK w0 (w.heap.size + 1) 30 #[.int .i64 S.least, .int .i64 S.most, .slice ra rn rc, .slice sa sn sc] := by
    rw [hw0]; have := BK.new (w.alloc (.cells #[.slice pa pn pc, .slice ca cn cc, .slice ja jn jc] 26)) 30 #[.int .i64 S.least, .int .i64 S.most, .slice ra rn rc, .slice sa sn sc]; rw [World.size_alloc] at this; exact this.alloc _
  have hZ0 : BK w0 (w.heap.size + 2) 58 #[.int .i64 0, .int .i64 0, .bool false] := by
    rw [hw0]; have := BK.new ((w.alloc (.cells #[.slice pa pn pc, .slice ca cn cc, .slice ja jn jc] 26)).alloc (.cells #[.int .i64 S.least, .int .i64 S.most, .slice ra rn rc, .slice sa sn sc] 30)) 58 #[.int .i64 0, .int .i64 0, .bool false]; rw [World.size_alloc, World.size_alloc] at this; exact this
  go_enter Tryd.func31, Tryd.ntmps31
  go_wp2_with fail
  rw [← hw0]
  clear hw0
  refine wp_scope_straight ?_
  have x0 := hX0.cell 0
  have x1 := hX0.cell 1
  have x2 := hX0.cell 2
  have y0 := hY0.cell 0
  have y1 := hY0.cell 1
  have y2 := hY0.cell 2
  have y3 := hY0.cell 3
  simp only [List.getElem?_toArray, List.getElem?_cons_zero, List.getElem?_cons_succ] at x0 x1 x2 y0 y1 y2 y3
  go_wp2_with fail
  clear x0 x1 x2 y0 y1 y2 y3
  refine (begin_bad pa pn pc ca cn cc ja jn jc R ra rn rc sa sn sc S w0 (HR.out.grow hB0 hB0.size) (HD.out.grow hB0 hB0.size) HN.out).mono ?_
  rintro e w1 ⟨rfl, hk0⟩
  have hB1 := hB0.trans (hk0.mono hB0.size)
  have hZ1 := hZ0.below hk0 hZ0.lt
  clear hX0 hY0 hZ0 hk0 hB0
  have z0 := hZ1.cell 0
  have z1 := hZ1.cell 1
  have z2 := hZ1.cell 2
  have f0 := hZ1.frozen 0
  have f1 := hZ1.frozen 1
  have f2 := hZ1.frozen 2
  have hlZ := hZ1.lt
  simp only [List.getElem?_toArray, List.getElem?_cons_zero, List.getElem?_cons_succ] at z0 z1 z2
  go_wp2_with fail
  clear z0 z1 z2 f0 f1 f2
  obtain ⟨w7, hw7⟩ : ∃ w7, w7 = (((w1.setCell ⟨w.heap.size + 1 + 1, 0, none⟩ (.int .i64 0)).setCell ⟨w.heap.size + 1 + 1, 1, none⟩ (.int .i64 0)).setCell ⟨w.heap.size + 1 + 1, 2, none⟩ (.bool false)).alloc (.cells #[.pointer none] 108) := ⟨_, rfl⟩
  have hZ7 : BK w7 (w.heap.size + 1 + 1) 58 #[.int .i64 0, .int .i64 0, .bool false] := by rw [hw7]; exact (((hZ1.set_ 0 _).set_ 1 _).set_ 2 _).alloc _
  have hB7 : Below w.heap.size w w7 := by
    rw [hw7]
    exact (((hB1.setCell (p := ⟨w.heap.size + 1 + 1, 0, none⟩) (by simp; omega) _).setCell (p := ⟨w.heap.size + 1 + 1, 1, none⟩) (by simp; omega) _).setCell (p := ⟨w.heap.size + 1 + 1, 2, none⟩) (by simp; omega) _).alloc (by simp; have := hB1.size; omega) _
  rw [← hw7]
  clear hw7
  have z0 := hZ7.cell 0
  have z1 := hZ7.cell 1
  have z2 := hZ7.cell 2
  simp only [List.getElem?_toArray, List.getElem?_cons_zero, List.getElem?_cons_succ] at z0 z1 z2
  rw [Exit.noGoto_ret]
  refine bodyPost_ret (v := .tuple #[.slice none 0 0, .agg #[.int .i64 0, .int .i64 0, .bool false], .int .i64 2]) (by simp [results, Tryd.results31, go_sem, z0, z1, z2]) rfl ⟨rfl, hB7⟩
  
set_option maxRecDepth 100000 in
set_option maxHeartbeats 8000000 in
theorem Plan_bad2 (pa : Option Addr) (pn pc : Nat) (ca : Option Addr) (cn cc : Nat) (ja : Option Addr) (jn jc : Nat) (R : Road) (ra : Option Addr) (rn rc : Nat) (sa : Option Addr) (sn sc : Nat) (S : Spd) (ka : Option Addr) (kn kc : Nat) (cs : List CallR) (w : World)
    (h : RD w w.heap.size pa pn ca cn ja jn R) (hD : SD w w.heap.size ra rn sa sn S) (hK : SL caC 5 w w.heap.size ka kn cs) (hv : OK R) (hS : SOK S) (hc : ¬ COK (sumL R.ps) cs) (hkn : kn ≤ 100000) :
    Calls Tryd.prog 31 #[.agg #[.slice pa pn pc, .slice ca cn cc, .slice ja jn jc], .agg #[.int .i64 S.least, .int .i64 S.most, .slice ra rn rc, .slice sa sn sc], .slice ka kn kc] w fun e w' =>
      e = .returned (.tuple #[.slice none 0 0, .agg #[.int .i64 0, .int .i64 0, .bool false], .int .i64 2]) ∧ Below w.heap.size w w' := by
  have HR := Lib.hid h
  have HD := Lib.hid hD
  have HK := Lib.hid hK
  have HV := Lib.hid hv
  have HS := Lib.hid hS
  have HC := Lib.hid hc
  clear h hD hK hv hS hc
  obtain ⟨w0, hw0⟩ : ∃ w0, w0 = ((w.alloc (.cells #[.slice pa pn pc, .slice ca cn cc, .slice ja jn jc] 26)).alloc (.cells #[.int .i64 S.least, .int .i64 S.most, .slice ra rn rc, .slice sa sn sc] 30)).alloc (.cells #[.int .i64 0, .int .i64 0, .bool false] 58) := ⟨_, rfl⟩
  have hB0 : Below w.heap.size w w0 := by rw [hw0]; exact (((Below.refl w.heap.size w).alloc (Nat.le_refl _) _).alloc (by simp) _).alloc (by simp; omega) _
  have hX0 : BK w0 w.heap.size 26 #[.slice pa pn pc, .slice ca cn cc, .slice ja jn jc] := by rw [hw0]; exact ((BK.new w _ _).alloc _).alloc _
  have hY0 : BK w0 (w.heap.size + 1) 30 #[.int .i64 S.least, .int .i64 S.most, .slice ra rn rc, .slice sa sn sc] := by
    rw [hw0]; have := BK.new (w.alloc (.cells #[.slice pa pn pc, .slice ca cn cc, .slice ja jn jc] 26)) 30 #[.int .i64 S.least, .int .i64 S.most, .slice ra rn rc, .slice sa sn sc]; rw [World.size_alloc] at this; exact this.alloc _
  have hZ0 : BK w0 (w.heap.size + 2) 58 #[.int .i64 0, .int .i64 0, .bool false] := by
    rw [hw0]; have := BK.new ((w.alloc (.cells #[.slice pa pn pc, .slice ca cn cc, .slice ja jn jc] 26)).alloc (.cells #[.int .i64 S.least, .int .i64 S.most, .slice ra rn rc, .slice sa sn sc] 30)) 58 #[.int .i64 0, .int .i64 0, .bool false]; rw [World.size_alloc, World.size_alloc] at this; exact this
  go_enter Tryd.func31, Tryd.ntmps31
  go_wp2_with fail
  rw [← hw0]
  clear hw0
  refine wp_scope_straight ?_
  have x0 := hX0.cell 0
  have x1 := hX0.cell 1
  have x2 := hX0.cell 2
  have y0 := hY0.cell 0
  have y1 := hY0.cell 1
  have y2 := hY0.cell 2
  have y3 := hY0.cell 3
  simp only [List.getElem?_toArray, List.getElem?_cons_zero, List.getElem?_cons_succ] at x0 x1 x2 y0 y1 y2 y3
  go_wp2_with fail
  clear x0 x1 x2 y0 y1 y2 y3
  refine (begin_any pa pn pc ca cn cc ja jn jc R ra rn rc sa sn sc S w0 (HR.out.grow hB0 hB0.size) (HD.out.grow hB0 hB0.size) HV.out HS.out).mono ?_
  rintro e w1 ⟨g, ta, tc, N, rfl, hTS, hk0⟩
  have hB1 := hB0.trans (hk0.mono hB0.size)
  have hZ1 := hZ0.below hk0 hZ0.lt
  have HTS := Lib.hid hTS
  have hN1 : N ≤ 100000 := by have := hTS.n; have := HV.out.n1; omega
  have HCN : Hid (¬ COK N cs) := by have := HC.out; rw [hTS.n] at this; exact this
  have hzZ := hZ0.lt
  have hz1 := hk0.size
  have hgl := hTS.lt
  clear hX0 hY0 hZ0 hk0 hB0 hTS
  go_wp2_with fail
  obtain ⟨w2, hw2⟩ : ∃ w2, w2 = w1.alloc (.cells #[.pointer (some ⟨g, 0, none⟩)] 108) := ⟨_, rfl⟩
  have hb12 : Below w1.heap.size w1 w2 := by rw [hw2]; exact (Below.refl w1.heap.size w1).alloc (Nat.le_refl _) _
  have hT2 : BK w2 w1.heap.size 108 #[.pointer (some ⟨g, 0, none⟩)] := by rw [hw2]; exact BK.new w1 _ _
  have hZ2 := hZ1.below hb12 hZ1.lt
  have hB2 := hB1.trans (hb12.mono hB1.size)
  have HT2 := Lib.hid (HTS.out.grow hb12 hb12.size)
  rw [← hw2]
  clear hw2 hZ1 HTS hB1
  have t0 := hT2.cell 0
  simp only [List.getElem?_toArray, List.getElem?_cons_zero] at t0
  go_wp2_with fail
  refine (calls_any ka kn kc cs g ta tc N S R w2 HT2.out (HK.out.grow hB2 hB2.size) (by omega) (by omega)).mono ?_
  rintro e w3 ⟨rfl, hk0⟩
  rw [cB_bad HCN.out]
  have hB3 := hB2.trans (hk0.mono hB2.size)
  have hZ3 := hZ2.below hk0 hZ2.lt
  clear hk0 hZ2 hT2 HT2 hB2 t0 hb12
  have z0 := hZ3.cell 0
  have z1 := hZ3.cell 1
  have z2 := hZ3.cell 2
  have f0 := hZ3.frozen 0
  have f1 := hZ3.frozen 1
  have f2 := hZ3.frozen 2
  have hlZ := hZ3.lt
  simp only [List.getElem?_toArray, List.getElem?_cons_zero, List.getElem?_cons_succ] at z0 z1 z2
  go_wp2_with fail
  clear z0 z1 z2 f0 f1 f2
  obtain ⟨w7, hw7⟩ : ∃ w7, w7 = ((w3.setCell ⟨w.heap.size + 1 + 1, 0, none⟩ (.int .i64 0)).setCell ⟨w.heap.size + 1 + 1, 1, none⟩ (.int .i64 0)).setCell ⟨w.heap.size + 1 + 1, 2, none⟩ (.bool false) := ⟨_, rfl⟩
  have hZ7 : BK w7 (w.heap.size + 1 + 1) 58 #[.int .i64 0, .int .i64 0, .bool false] := by rw [hw7]; exact (((hZ3.set_ 0 _).set_ 1 _).set_ 2 _)
  have hB7 : Below w.heap.size w w7 := by
    rw [hw7]
    exact ((hB3.setCell (p := ⟨w.heap.size + 1 + 1, 0, none⟩) (by simp; omega) _).setCell (p := ⟨w.heap.size + 1 + 1, 1, none⟩) (by simp; omega) _).setCell (p := ⟨w.heap.size + 1 + 1, 2, none⟩) (by simp; omega) _
  rw [← hw7]
  clear hw7
  have z0 := hZ7.cell 0
  have z1 := hZ7.cell 1
  have z2 := hZ7.cell 2
  simp only [List.getElem?_toArray, List.getElem?_cons_zero, List.getElem?_cons_succ] at z0 z1 z2
  rw [Exit.noGoto_ret]
  refine bodyPost_ret (v := .tuple #[.slice none 0 0, .agg #[.int .i64 0, .int .i64 0, .bool false], .int .i64 2]) (by simp [results, Tryd.results31, go_sem, z0, z1, z2]) rfl ⟨rfl, hB7⟩
  /-- The latest plan, of whatever arguments. -/
def planAll (S : Spd) (R : Road) (cs : List CallR) : List Int × Clash × Int := if (val R && spB S && cB (sumL R.ps) cs) = true then planR (qS S R) (sS S R) cs else ([], ⟨0, 0, false⟩, 2)
theorem Plan_all (pa : Option Addr) (pn pc : Nat) (ca : Option Addr) (cn cc : Nat) (ja : Option Addr) (jn jc : Nat) (R : Road) (ra : Option Addr) (rn rc : Nat) (sa : Option Addr) (sn sc : Nat) (S : Spd) (ka : Option Addr) (kn kc : Nat) (cs : List CallR) (w : World)
    (h : RD w w.heap.size pa pn ca cn ja jn R) (hD : SD w w.heap.size ra rn sa sn S) (hK : SL caC 5 w w.heap.size ka kn cs) (hkn : kn ≤ 100000) :
    Calls Tryd.prog 31 #[.agg #[.slice pa pn pc, .slice ca cn cc, .slice ja jn jc], .agg #[.int .i64 S.least, .int .i64 S.most, .slice ra rn rc, .slice sa sn sc], .slice ka kn kc] w fun e w' =>
      ∃ A n c, e = .returned (.tuple #[.slice A n c, .agg #[.int .i64 (planAll S R cs).2.1.first, .int .i64 (planAll S R cs).2.1.last, .bool (planAll S R cs).2.1.early], .int .i64 (planAll S R cs).2.2]) ∧
        SL iC 1 w' w'.heap.size A n (planAll S R cs).1 ∧ Below w.heap.size w w' := by
  by_cases hb : OK R ∧ SOK S
  · by_cases hc : COK (sumL R.ps) cs
    · have e : planAll S R cs = planR (qS S R) (sS S R) cs := by unfold planAll; rw [(val_iff R).2 hb.1, (spB_iff S).2 hb.2, cB_ok hc]; rfl
      rw [e]
      exact Plan_any pa pn pc ca cn cc ja jn jc R ra rn rc sa sn sc S ka kn kc cs w h hD hK hb.1 hb.2 hc
    · have e : planAll S R cs = ([], ⟨0, 0, false⟩, 2) := by unfold planAll; rw [cB_bad hc, Bool.and_false]; rfl
      rw [e]
      refine (Plan_bad2 pa pn pc ca cn cc ja jn jc R ra rn rc sa sn sc S ka kn kc cs w h hD hK hb.1 hb.2 hc hkn).mono ?_
      rintro e w' ⟨rfl, hk⟩
      exact ⟨none, 0, 0, rfl, SL.nil_, hk⟩
  · have e : planAll S R cs = ([], ⟨0, 0, false⟩, 2) := by
      unfold planAll
      rw [if_neg]
      intro q
      rw [Bool.and_eq_true, Bool.and_eq_true] at q
      exact hb ⟨(val_iff R).1 q.1.1, (spB_iff S).1 q.1.2⟩
    rw [e]
    refine (Plan_bad1 pa pn pc ca cn cc ja jn jc R ra rn rc sa sn sc S ka kn kc w h hD hb).mono ?_
    rintro e w' ⟨rfl, hk⟩
    exact ⟨none, 0, 0, rfl, SL.nil_, hk⟩
end Go.Proofs.YtijcbfhlhgjedaaDoor
