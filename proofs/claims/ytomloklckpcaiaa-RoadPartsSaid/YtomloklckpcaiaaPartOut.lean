/- road.Part: the error. -/
import Derived.Test.YtomloklckpcaiaaPart
namespace Go.Proofs.Ytomloklckpcaiaa
open Go.RowKit Go.Shelf Go.Sort Go.Proofs

set_option maxRecDepth 100000 in
set_option maxHeartbeats 4000000 in
theorem Part_out (f t : Int) (pa : Option Addr) (pn pc : Nat) (ca : Option Addr) (cn cc : Nat) (ja : Option Addr) (jn jc : Nat) (R : Road) (w : World)
    (h : RD w w.heap.size pa pn ca cn ja jn R) (hv : OK R) (hbad : f < 0 ∨ t ≤ f ∨ sumL R.ps < t) :
    Calls Try.prog 44 #[.agg #[.slice pa pn pc, .slice ca cn cc, .slice ja jn jc], .int .i64 f, .int .i64 t] w fun e w' => e = .returned (.tuple #[.agg #[.slice none 0 0, .slice none 0 0, .slice none 0 0], .int .i64 2]) ∧ Below w.heap.size w w' := by
  have hR := Lib.hid h
  have hv' := Lib.hid hv
  have hmo : Try.prog.follows .mixedOrders = true := by kernel_rfl
  have hpn : pn ≤ 2000 := by rw [h.p.1]; exact hv.p2
  have hc := Lib.hid (chk_ok hv)
  have hn1 := hv.n1
  clear h hv
  obtain ⟨w0, hw0⟩ : ∃ w0, w0 = (((w.alloc (.cells #[.slice pa pn pc, .slice ca cn cc, .slice ja jn jc] 26)).alloc (.cells #[.int .i64 f] 3)).alloc (.cells #[.int .i64 t] 3)).alloc (.cells #[.slice none 0 0, .slice none 0 0, .slice none 0 0] 26) := ⟨_, rfl⟩
  have hB0 : Below w.heap.size w w0 := by rw [hw0]; exact ((((Below.refl w.heap.size w).alloc (Nat.le_refl _) _).alloc (by simp) _).alloc (by simp <;> omega) _).alloc (by simp <;> omega) _
  have hX0 : BK w0 w.heap.size 26 #[.slice pa pn pc, .slice ca cn cc, .slice ja jn jc] := by rw [hw0]; exact (((BK.new w _ _).alloc _).alloc _).alloc _
  have hF0 : BK w0 (w.heap.size + 1) 3 #[.int .i64 f] := by rw [hw0]; have := BK.new (w.alloc (.cells #[.slice pa pn pc, .slice ca cn cc, .slice ja jn jc] 26)) 3 #[.int .i64 f]; rw [World.size_alloc] at this; exact (this.alloc _).alloc _
  have hT0 : BK w0 (w.heap.size + 2) 3 #[.int .i64 t] := by rw [hw0]; have := BK.new ((w.alloc (.cells #[.slice pa pn pc, .slice ca cn cc, .slice ja jn jc] 26)).alloc (.cells #[.int .i64 f] 3)) 3 #[.int .i64 t]; rw [World.size_alloc, World.size_alloc] at this; exact this.alloc _
  have hZ0 : BK w0 (w.heap.size + 3) 26 #[.slice none 0 0, .slice none 0 0, .slice none 0 0] := by rw [hw0]; have := BK.new (((w.alloc (.cells #[.slice pa pn pc, .slice ca cn cc, .slice ja jn jc] 26)).alloc (.cells #[.int .i64 f] 3)).alloc (.cells #[.int .i64 t] 3)) 26 #[.slice none 0 0, .slice none 0 0, .slice none 0 0]; rw [World.size_alloc, World.size_alloc, World.size_alloc] at this; exact this
  go_enter Try.func44, Try.ntmps44
  go_wp2_with fail
  rw [← hw0]
  clear hw0
  refine (Check_any _ _ _ _ _ _ _ _ _ R _ (hR.out.grow hB0 hB0.size)).mono ?_
  rintro e w1 ⟨rfl, hk0⟩
  rw [hc.out]
  have hB1 := hB0.trans (hk0.mono hB0.size)
  have hX1 := hX0.below hk0 hX0.lt
  have hF1 := hF0.below hk0 hF0.lt
  have hT1 := hT0.below hk0 hT0.lt
  have hZ1 := hZ0.below hk0 hZ0.lt
  have x0 := hX1.cell 0
  have x1 := hX1.cell 1
  have x2 := hX1.cell 2
  simp only [List.getElem?_toArray, List.getElem?_cons_zero, List.getElem?_cons_succ] at x0 x1 x2
  go_wp2_with fail
  clear x0 x1 x2
  refine (measure_any pa pn pc ca cn cc ja jn jc R _ (hR.out.grow hB1 hB1.size) hv'.out.pk (by omega)).mono ?_
  rintro e w2 ⟨g, ba, bq, rfl, hM, -, hk1⟩
  have hB2 := hB1.trans (hk1.mono hB1.size)
  have hF2 := hF1.below hk1 hF1.lt
  have hT2 := hT1.below hk1 hT1.lt
  have hZ2 := hZ1.below hk1 hZ1.lt
  clear hk0 hk1 hB0 hB1 hX0 hX1 hF0 hF1 hT0 hT1 hZ0 hZ1
  have q0' := hF2.cell 0
  have hT2' : BK w2 (w.heap.size + 1 + 1) 3 #[.int .i64 t] := hT2
  have q1' := hT2'.cell 0
  simp only [List.getElem?_toArray, List.getElem?_cons_zero] at q0' q1'
  have HM := Lib.hid hM
  clear hM
  by_cases hf : f < 0
  · have e1 : decide (f < 0) = true := by simpa using hf
    go_wp2_with fail
    go_quiet (fail)
    clear q0' q1'
    have hZV : BK (w2.drewN nq) (w.heap.size + 1 + 1 + 1) 26 #[.slice none 0 0, .slice none 0 0, .slice none 0 0] := hZ2.below (below_drewN (Below.refl _ _) _) hZ2.lt
    have hBV := below_drewN hB2 nq
    have zf := hZV.frozen
    have y0 := hZV.cell 0
    have y1 := hZV.cell 1
    have y2 := hZV.cell 2
    simp only [List.getElem?_toArray, List.getElem?_cons_zero, List.getElem?_cons_succ] at y0 y1 y2
    go_wp2_with fail
    have hYF := ((hZV.set_ 0 (.slice none 0 0)).set_ 1 (.slice none 0 0)).set_ 2 (.slice none 0 0)
    have hBF := ((hBV.setCell (p := ⟨w.heap.size + 1 + 1 + 1, 0, none⟩) (by simp <;> omega) (.slice none 0 0)).setCell (p := ⟨w.heap.size + 1 + 1 + 1, 1, none⟩) (by simp <;> omega) (.slice none 0 0)).setCell (p := ⟨w.heap.size + 1 + 1 + 1, 2, none⟩) (by simp <;> omega) (.slice none 0 0)
    obtain ⟨wF, hwF⟩ : ∃ wF, wF = (((w2.drewN nq).setCell ⟨w.heap.size + 1 + 1 + 1, 0, none⟩ (.slice none 0 0)).setCell ⟨w.heap.size + 1 + 1 + 1, 1, none⟩ (.slice none 0 0)).setCell ⟨w.heap.size + 1 + 1 + 1, 2, none⟩ (.slice none 0 0) := ⟨_, rfl⟩
    rw [← hwF] at hYF hBF ⊢
    clear hwF
    have z0 := hYF.cell 0
    have z1 := hYF.cell 1
    have z2 := hYF.cell 2
    simp at z0 z1 z2
    refine bodyPost_ret (v := .tuple #[.agg #[.slice none 0 0, .slice none 0 0, .slice none 0 0], .int .i64 2]) (by simp [results, Try.results44, go_sem, z0, z1, z2]) rfl ⟨rfl, hBF⟩
  have e1 : decide (f < 0) = false := by simpa using hf
  by_cases hft : t ≤ f
  · have e2 : decide (t ≤ f) = true := by simpa using hft
    go_wp2_with fail
    go_quiet (fail)
    clear q0' q1'
    have hZV : BK (w2.drewN nq) (w.heap.size + 1 + 1 + 1) 26 #[.slice none 0 0, .slice none 0 0, .slice none 0 0] := hZ2.below (below_drewN (Below.refl _ _) _) hZ2.lt
    have hBV := below_drewN hB2 nq
    have zf := hZV.frozen
    have y0 := hZV.cell 0
    have y1 := hZV.cell 1
    have y2 := hZV.cell 2
    simp only [List.getElem?_toArray, List.getElem?_cons_zero, List.getElem?_cons_succ] at y0 y1 y2
    go_wp2_with fail
    have hYF := ((hZV.set_ 0 (.slice none 0 0)).set_ 1 (.slice none 0 0)).set_ 2 (.slice none 0 0)
    have hBF := ((hBV.setCell (p := ⟨w.heap.size + 1 + 1 + 1, 0, none⟩) (by simp <;> omega) (.slice none 0 0)).setCell (p := ⟨w.heap.size + 1 + 1 + 1, 1, none⟩) (by simp <;> omega) (.slice none 0 0)).setCell (p := ⟨w.heap.size + 1 + 1 + 1, 2, none⟩) (by simp <;> omega) (.slice none 0 0)
    obtain ⟨wF, hwF⟩ : ∃ wF, wF = (((w2.drewN nq).setCell ⟨w.heap.size + 1 + 1 + 1, 0, none⟩ (.slice none 0 0)).setCell ⟨w.heap.size + 1 + 1 + 1, 1, none⟩ (.slice none 0 0)).setCell ⟨w.heap.size + 1 + 1 + 1, 2, none⟩ (.slice none 0 0) := ⟨_, rfl⟩
    rw [← hwF] at hYF hBF ⊢
    clear hwF
    have z0 := hYF.cell 0
    have z1 := hYF.cell 1
    have z2 := hYF.cell 2
    simp at z0 z1 z2
    refine bodyPost_ret (v := .tuple #[.agg #[.slice none 0 0, .slice none 0 0, .slice none 0 0], .int .i64 2]) (by simp [results, Try.results44, go_sem, z0, z1, z2]) rfl ⟨rfl, hBF⟩
  have e2 : decide (t ≤ f) = false := by simpa using hft
  have e3 : decide (sumL R.ps < t) = true := by simp; omega
  have q0 := fun d os => cell_regrown q0' d os
  have q1 := fun d os => cell_regrown q1' d os
  clear q0' q1'
  go_wp2_with fail
  refine wp_region_ch 12 [10] hmo (by kernel_rfl) ?_
  simp only [List.take_succ_cons, List.take_zero, List.drop_succ_cons, List.drop_zero]
  repeat (refine wpC_q (by decide) (by decide) (fun K hK => ?_); go_simp; refine hK _ ?_; clear hK K)
  refine wpC_cg (ι := Unit) 57 #[.pointer (some ⟨g, 0, none⟩)] (fun _ => .int .i64 (sumL R.ps)) (fun _ _ => True) (by decide) (by decide) (by go_simp) (fun w => by go_simp) stable_true (fun _ => stable_true) (fun W hW _ => ?_) (fun i1 hs1 => ?_)
  · obtain ⟨p, rfl⟩ := hW
    have hb := below_regrown w2 p.d p.os
    refine (mlength_any _ _ _ _ _ _ _ _ _ _ _ _ R _ _ (HM.out.grow hb hb.size) (by omega)).mono ?_
    rintro e w' ⟨rfl, nd, hw⟩
    exact ⟨(), rfl, trivial, by rw [hw]; exact below_drewN (Below.refl _ _) _⟩
  repeat (refine wpC_q (by decide) (by decide) (fun K hK => ?_); go_simp; refine hK _ ?_; clear hK K)
  refine wpC_nil ?_
  intro w3 hk2 _
  clear q0 q1 hs1
  have hB3 := hB2.trans (hk2.mono hB2.size)
  have hZ3 := hZ2.below hk2 hZ2.lt
  have hZV : BK w3 (w.heap.size + 1 + 1 + 1) 26 #[.slice none 0 0, .slice none 0 0, .slice none 0 0] := hZ3
  have hBV := hB3
  have zf := hZV.frozen
  have y0 := hZV.cell 0
  have y1 := hZV.cell 1
  have y2 := hZV.cell 2
  simp only [List.getElem?_toArray, List.getElem?_cons_zero, List.getElem?_cons_succ] at y0 y1 y2
  go_wp2_with fail
  have hYF := ((hZV.set_ 0 (.slice none 0 0)).set_ 1 (.slice none 0 0)).set_ 2 (.slice none 0 0)
  have hBF := ((hBV.setCell (p := ⟨w.heap.size + 1 + 1 + 1, 0, none⟩) (by simp <;> omega) (.slice none 0 0)).setCell (p := ⟨w.heap.size + 1 + 1 + 1, 1, none⟩) (by simp <;> omega) (.slice none 0 0)).setCell (p := ⟨w.heap.size + 1 + 1 + 1, 2, none⟩) (by simp <;> omega) (.slice none 0 0)
  obtain ⟨wF, hwF⟩ : ∃ wF, wF = ((w3.setCell ⟨w.heap.size + 1 + 1 + 1, 0, none⟩ (.slice none 0 0)).setCell ⟨w.heap.size + 1 + 1 + 1, 1, none⟩ (.slice none 0 0)).setCell ⟨w.heap.size + 1 + 1 + 1, 2, none⟩ (.slice none 0 0) := ⟨_, rfl⟩
  rw [← hwF] at hYF hBF ⊢
  clear hwF
  have z0 := hYF.cell 0
  have z1 := hYF.cell 1
  have z2 := hYF.cell 2
  simp at z0 z1 z2
  refine bodyPost_ret (v := .tuple #[.agg #[.slice none 0 0, .slice none 0 0, .slice none 0 0], .int .i64 2]) (by simp [results, Try.results44, go_sem, z0, z1, z2]) rfl ⟨rfl, hBF⟩
end Go.Proofs.Ytomloklckpcaiaa
