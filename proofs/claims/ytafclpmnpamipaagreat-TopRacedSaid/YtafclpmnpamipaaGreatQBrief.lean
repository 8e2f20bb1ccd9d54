/- brief09: a road that is as defined and at most 120 meters long. -/
import Derived.Test.YtafclpmnpamipaaGreatQRef3
namespace Go.Proofs.YtafclpmnpamipaaGreat
open Go.RowKit Go.Shelf Go.Sort Go.Proofs

set_option maxRecDepth 100000 in
theorem brief_any (pa : Option Addr) (pn pc : Nat) (ca : Option Addr) (cn cc : Nat) (ja : Option Addr) (jn jc : Nat) (R : Road) (w : World) (h : RD w w.heap.size pa pn ca cn ja jn R) :
    Calls Tryz.prog 5 #[.agg #[.slice pa pn pc, .slice ca cn cc, .slice ja jn jc]] w fun e w' => e = .returned (.bool (val R && decide (sumL R.ps ≤ 120))) ∧ Below w.heap.size w w' := by
  have HR := Lib.hid h
  clear h
  obtain ⟨w0, hw0⟩ : ∃ w0, w0 = w.alloc (.cells #[.slice pa pn pc, .slice ca cn cc, .slice ja jn jc] 26) := ⟨_, rfl⟩
  have hB0 : Below w.heap.size w w0 := by rw [hw0]; exact (Below.refl w.heap.size w).alloc (Nat.le_refl _) _
  have hX0 : BK w0 w.heap.size 26 #[.slice pa pn pc, .slice ca cn cc, .slice ja jn jc] := by rw [hw0]; exact BK.new w _ _
  go_enter Tryz.func5, Tryz.ntmps5
  go_wp2_with fail
  rw [← hw0]
  clear hw0
  have x0 := hX0.cell 0
  have x1 := hX0.cell 1
  have x2 := hX0.cell 2
  simp only [List.getElem?_toArray, List.getElem?_cons_zero, List.getElem?_cons_succ] at x0 x1 x2
  go_wp2_with fail
  clear x0 x1 x2
  refine (Valid_any _ _ _ _ _ _ _ _ _ R _ (HR.out.grow hB0 hB0.size)).mono ?_
  rintro e w1 ⟨rfl, hk0⟩
  have hB1 := hB0.trans (hk0.mono hB0.size)
  have hX1 := hX0.below hk0 hX0.lt
  have x0 := hX1.cell 0
  have x1 := hX1.cell 1
  have x2 := hX1.cell 2
  simp only [List.getElem?_toArray, List.getElem?_cons_zero, List.getElem?_cons_succ] at x0 x1 x2
  cases hv : val R
  · have HV := Lib.hid hv
    clear hv
    go_wp2_with fail
    go_ret
    exact ⟨ret_bool (by rw [HV.out]; rfl), hB1⟩
  have HV := Lib.hid ((val_iff R).1 hv)
  clear hv
  go_wp2_with fail
  clear x0 x1 x2
  refine (R3Length_any _ _ _ _ _ _ _ _ _ R _ (HR.out.grow hB1 hB1.size) HV.out).mono ?_
  rintro e w2 ⟨rfl, hk1⟩
  have hB2 := hB1.trans (hk1.mono hB1.size)
  go_wp2_with fail
  go_ret
  exact ⟨ret_bool (by rw [val_ok HV.out]; rfl), hB2⟩
end Go.Proofs.YtafclpmnpamipaaGreat
