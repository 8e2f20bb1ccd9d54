/- pace.begin where an argument is not as defined: no track. -/
import Derived.Test.YtknjkcibkejieaaDoorCBeg
namespace Go.Proofs.YtknjkcibkejieaaDoor
open Go.RowKit Go.Shelf Go.Sort Go.Proofs

set_option maxRecDepth 100000 in
theorem begin_bad (pa : Option Addr) (pn pc : Nat) (ca : Option Addr) (cn cc : Nat) (ja : Option Addr) (jn jc : Nat) (R : Road) (ra : Option Addr) (rn rc : Nat) (sa : Option Addr) (sn sc : Nat) (S : Spd) (w : World)
    (h : RD w w.heap.size pa pn ca cn ja jn R) (hD : SD w w.heap.size ra rn sa sn S) (hbad : ¬ (OK R ∧ SOK S)) :
    Calls Tryd.prog 21 #[.agg #[.slice pa pn pc, .slice ca cn cc, .slice ja jn jc], .agg #[.int .i64 S.least, .int .i64 S.most, .slice ra rn rc, .slice sa sn sc]] w fun e w' =>
      e = .returned (.tuple #[.pointer none, .bool false]) ∧ Below w.heap.size w w' := by
  have HR := Lib.hid h
  have HD := Lib.hid hD
  clear h hD
  obtain ⟨w0, hw0⟩ : ∃ w0, w0 = (w.alloc (.cells #[.slice pa pn pc, .slice ca cn cc, .slice ja jn jc] 41)).alloc (.cells #[.int .i64 S.least, .int .i64 S.most, .slice ra rn rc, .slice sa sn sc] 45) := ⟨_, rfl⟩
  have hB0 : Below w.heap.size w w0 := by rw [hw0]; exact ((Below.refl w.heap.size w).alloc (Nat.le_refl _) _).alloc (by simp) _
  have hX0 : BK w0 w.heap.size 41 #[.slice pa pn pc, .slice ca cn cc, .slice ja jn jc] := by rw [hw0]; exact (BK.new w _ _).alloc _
  have hY0 : BK w0 (w.heap.size + 1) 45 #[.int .i64 S.least, .int .i64 S.most, .slice ra rn rc, .slice sa sn sc] := by
    rw [hw0]; have := BK.new (w.alloc (.cells #[.slice pa pn pc, .slice ca cn cc, .slice ja jn jc] 41)) 45 #[.int .i64 S.least, .int .i64 S.most, .slice ra rn rc, .slice sa sn sc]; rw [World.size_alloc] at this; exact this
  go_enter Tryd.func21, Tryd.ntmps21
  go_wp2_with fail
  rw [← hw0]
  clear hw0
  have x0 := hX0.cell 0
  have x1 := hX0.cell 1
  have x2 := hX0.cell 2
  simp only [List.getElem?_toArray, List.getElem?_cons_zero, List.getElem?_cons_succ] at x0 x1 x2
  go_wp2_with fail
  clear x0 x1 x2
  by_cases hv : OK R
  case neg =>
    refine (Length_bad pa pn pc ca cn cc ja jn jc R w0 (HR.out.grow hB0 hB0.size) hv).mono ?_
    rintro e w1 ⟨rfl, hk0⟩
    have hB1 := hB0.trans (hk0.mono hB0.size)
    go_wp2_with fail
    go_ret2
    exact ⟨rfl, hB1⟩
  have hs : ¬ SOK S := fun q => hbad ⟨hv, q⟩
  have HE := Lib.hid (spE_bad hs)
  have HV := Lib.hid hv
  clear hbad hs hv
  refine (Length_in pa pn pc ca cn cc ja jn jc R w0 (HR.out.grow hB0 hB0.size) HV.out).mono ?_
  rintro e w1 ⟨rfl, hk0⟩
  have hB1 := hB0.trans (hk0.mono hB0.size)
  have hY1 := hY0.below hk0 hY0.lt
  clear hX0 hY0 hk0 hB0
  have y0 := hY1.cell 0
  have y1 := hY1.cell 1
  have y2 := hY1.cell 2
  have y3 := hY1.cell 3
  simp only [List.getElem?_toArray, List.getElem?_cons_zero, List.getElem?_cons_succ] at y0 y1 y2 y3
  go_wp2_with fail
  clear y0 y1 y2 y3
  refine (SpCheck_any ra rn rc sa sn sc S w1 (HD.out.grow hB1 hB1.size)).mono ?_
  rintro e w2 ⟨rfl, hk0⟩
  rw [HE.out]
  have hB2 := hB1.trans (hk0.mono hB1.size)
  go_wp2_with fail
  go_ret2
  exact ⟨rfl, hB2⟩
end Go.Proofs.YtknjkcibkejieaaDoor
