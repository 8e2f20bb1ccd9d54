/- surveys: two surveys, measured, or the error. -/
import Derived.Test.YtomloklckpcaiaaRevR
namespace Go.Proofs.Ytomloklckpcaiaa
open Go.RowKit Go.Shelf Go.Sort Go.Proofs

set_option maxRecDepth 100000 in
set_option maxHeartbeats 4000000 in
theorem surveys_in (pa : Option Addr) (pn pc : Nat) (ca : Option Addr) (cn cc : Nat) (ja : Option Addr) (jn jc : Nat) (R : Road) (pa2 : Option Addr) (pn2 pc2 : Nat) (ca2 : Option Addr) (cn2 cc2 : Nat) (ja2 : Option Addr) (jn2 jc2 : Nat) (R2 : Road) (w : World)
    (h : RD w w.heap.size pa pn ca cn ja jn R) (h2 : RD w w.heap.size pa2 pn2 ca2 cn2 ja2 jn2 R2) (hv : OK R) (hv2 : OK R2) :
    Calls Try.prog 74 #[.agg #[.slice pa pn pc, .slice ca cn cc, .slice ja jn jc], .agg #[.slice pa2 pn2 pc2, .slice ca2 cn2 cc2, .slice ja2 jn2 jc2]] w fun e w' =>
      ((sumL R.ps = sumL R2.ps → ∃ g ba bq g2 ba2 bq2, e = .returned (.tuple #[.pointer (some ⟨g, 0, none⟩), .pointer (some ⟨g2, 0, none⟩), .int .i64 0]) ∧ MS w' w'.heap.size g pa pn pc ca cn cc ja jn jc ba bq R ∧ MS w' w'.heap.size g2 pa2 pn2 pc2 ca2 cn2 cc2 ja2 jn2 jc2 ba2 bq2 R2) ∧
       (¬ sumL R.ps = sumL R2.ps → e = .returned (.tuple #[.pointer none, .pointer none, .int .i64 2]))) ∧ Below w.heap.size w w' := by
  have hR := Lib.hid h
  have hR2 := Lib.hid h2
  have hv' := Lib.hid hv
  have hv2' := Lib.hid hv2
  have hmo : Try.prog.follows .mixedOrders = true := by kernel_rfl
  have hpn : pn ≤ 2000 := by rw [h.p.1]; exact hv.p2
  have hpn2 : pn2 ≤ 2000 := by rw [h2.p.1]; exact hv2.p2
  have hc := Lib.hid (chk_ok hv)
  have hc2 := Lib.hid (chk_ok hv2)
  clear h h2 hv hv2
  obtain ⟨W0, hW0⟩ : ∃ W0, W0 = (w.alloc (.cells #[.slice pa pn pc, .slice ca cn cc, .slice ja jn jc] 26)).alloc (.cells #[.slice pa2 pn2 pc2, .slice ca2 cn2 cc2, .slice ja2 jn2 jc2] 26) := ⟨_, rfl⟩
  have hB0 : Below w.heap.size w W0 := by rw [hW0]; exact ((Below.refl w.heap.size w).alloc (Nat.le_refl _) _).alloc (by simp) _
  have hX0 : BK W0 w.heap.size 26 #[.slice pa pn pc, .slice ca cn cc, .slice ja jn jc] := by rw [hW0]; exact (BK.new w _ _).alloc _
  have hY0 : BK W0 (w.heap.size + 1) 26 #[.slice pa2 pn2 pc2, .slice ca2 cn2 cc2, .slice ja2 jn2 jc2] := by rw [hW0]; have := BK.new (w.alloc (.cells #[.slice pa pn pc, .slice ca cn cc, .slice ja jn jc] 26)) 26 #[.slice pa2 pn2 pc2, .slice ca2 cn2 cc2, .slice ja2 jn2 jc2]; rw [World.size_alloc] at this; exact this
  go_enter Try.func74, Try.ntmps74
  go_wp2_with fail
  rw [← hW0]
  clear hW0
  refine (Check_any _ _ _ _ _ _ _ _ _ R _ (hR.out.grow hB0 hB0.size)).mono ?_
  rintro e W1 ⟨rfl, hk0⟩
  rw [hc.out]
  have hB1 := hB0.trans (hk0.mono hB0.size)
  have hX1 := hX0.below hk0 hX0.lt
  have hY1 := hY0.below hk0 hY0.lt
  have y0 := hY1.cell 0
  have y1 := hY1.cell 1
  have y2 := hY1.cell 2
  simp only [List.getElem?_toArray, List.getElem?_cons_zero, List.getElem?_cons_succ] at y0 y1 y2
  go_wp2_with fail
  clear y0 y1 y2
  refine (Check_any _ _ _ _ _ _ _ _ _ R2 _ (hR2.out.grow hB1 hB1.size)).mono ?_
  rintro e W2 ⟨rfl, hk1⟩
  rw [hc2.out]
  have hB2 := hB1.trans (hk1.mono hB1.size)
  have hX2 := hX1.below hk1 hX1.lt
  have hY2 := hY1.below hk1 hY1.lt
  have x0 := fun d os => cell_regrown (hX2.cell 0) d os
  have x1 := fun d os => cell_regrown (hX2.cell 1) d os
  have x2 := fun d os => cell_regrown (hX2.cell 2) d os
  have y0 := fun d os => cell_regrown (hY2.cell 0) d os
  have y1 := fun d os => cell_regrown (hY2.cell 1) d os
  have y2 := fun d os => cell_regrown (hY2.cell 2) d os
  go_wp2_with fail
  refine wp_region_ch 4 [1, 3] hmo (by kernel_rfl) ?_
  simp only [List.take_succ_cons, List.take_zero, List.drop_succ_cons, List.drop_zero]
  repeat (refine wpC_q (by decide) (by decide) (fun K hK => ?_); go_simp; refine hK _ ?_; clear hK K)
  refine wpC_c (ι := Nat) 55 #[.agg #[.slice pa pn pc, .slice ca cn cc, .slice ja jn jc]] (fun g => .pointer (some ⟨g, 0, none⟩)) (fun g x => ∃ ba bq, MS x x.heap.size g pa pn pc ca cn cc ja jn jc ba bq R) (by decide) (by decide) rfl (fun w => by go_simp) stable_true (fun g x y ⟨ba, bq, hm⟩ hb => ⟨ba, bq, hm.grow hb hb.size⟩) (fun W hW _ => ?_) (fun g1 hs1 => ?_)
  · obtain ⟨p, rfl⟩ := hW
    have hb := below_regrown W2 p.d p.os
    have hb' := hB2.trans (hb.mono hB2.size)
    refine (measure_any pa pn pc ca cn cc ja jn jc R _ (hR.out.grow hb' hb'.size) hv'.out.pk (by omega)).mono ?_
    rintro e w' ⟨g, ba, bq, rfl, hM, _, hbl⟩
    exact ⟨g, rfl, ⟨ba, bq, hM⟩, hbl⟩
  repeat (refine wpC_q (by decide) (by decide) (fun K hK => ?_); go_simp; refine hK _ ?_; clear hK K)
  refine wpC_c (ι := Nat) 55 #[.agg #[.slice pa2 pn2 pc2, .slice ca2 cn2 cc2, .slice ja2 jn2 jc2]] (fun g => .pointer (some ⟨g, 0, none⟩)) (fun g x => ∃ ba bq, MS x x.heap.size g pa2 pn2 pc2 ca2 cn2 cc2 ja2 jn2 jc2 ba bq R2) (by decide) (by decide) rfl (fun w => by go_simp) hs1 (fun g x y ⟨ba, bq, hm⟩ hb => ⟨ba, bq, hm.grow hb hb.size⟩) (fun W hW _ => ?_) (fun g2 hs2 => ?_)
  · obtain ⟨p, rfl⟩ := hW
    have hb := below_regrown W2 p.d p.os
    have hb' := hB2.trans (hb.mono hB2.size)
    refine (measure_any pa2 pn2 pc2 ca2 cn2 cc2 ja2 jn2 jc2 R2 _ (hR2.out.grow hb' hb'.size) hv2'.out.pk (by omega)).mono ?_
    rintro e w' ⟨g, ba, bq, rfl, hM, _, hbl⟩
    exact ⟨g, rfl, ⟨ba, bq, hM⟩, hbl⟩
  repeat (refine wpC_q (by decide) (by decide) (fun K hK => ?_); go_simp; refine hK _ ?_; clear hK K)
  refine wpC_nil ?_
  intro W3 hb3 hΦ
  obtain ⟨⟨-, ba, bq, hM⟩, ba2, bq2, hM2⟩ := hΦ
  clear x0 x1 x2 y0 y1 y2 hs1 hs2
  have hB3 := hB2.trans (hb3.mono hB2.size)
  go_wp2_with fail
  refine (mlength_any _ _ _ _ _ _ _ _ _ _ _ _ R _ _ hM (by omega)).mono ?_
  rintro e W4' ⟨rfl, nd, hw4⟩
  obtain ⟨W4, hw4e⟩ : ∃ W4, W4 = W4' := ⟨_, rfl⟩
  rw [← hw4e] at hw4 ⊢
  have hk4 : Below W3.heap.size W3 W4 := by rw [hw4]; exact below_drewN (Below.refl _ _) _
  clear hw4 hw4e
  have hM4 := hM.grow hk4 hk4.size
  have hM24 := hM2.grow hk4 hk4.size
  have hB4 := hB3.trans (hk4.mono hB3.size)
  go_wp2_with fail
  refine (mlength_any _ _ _ _ _ _ _ _ _ _ _ _ R2 _ _ hM24 (by omega)).mono ?_
  rintro e W5' ⟨rfl, nd, hw5⟩
  obtain ⟨W5, hw5e⟩ : ∃ W5, W5 = W5' := ⟨_, rfl⟩
  rw [← hw5e] at hw5 ⊢
  have hk5 : Below W4.heap.size W4 W5 := by rw [hw5]; exact below_drewN (Below.refl _ _) _
  clear hw5 hw5e
  have hB5 := hB4.trans (hk5.mono hB4.size)
  have hM5 := hM4.grow hk5 hk5.size
  have hM25 := hM24.grow hk5 hk5.size
  by_cases he : sumL R.ps = sumL R2.ps
  · have HH := Lib.hid (And.intro hM5 (And.intro hM25 hB5))
    have HE := Lib.hid he
    clear hM5 hM25 hM4 hM24 hM hM2
    go_wp2_with fail
    go_ret3
    exact ⟨⟨fun _ => ⟨g1, ba, bq, g2, ba2, bq2, rfl, HH.out.1, HH.out.2.1⟩, fun h => absurd HE.out h⟩, HH.out.2.2⟩
  · have HE := Lib.hid he
    clear hM5 hM25 hM4 hM24 hM hM2
    go_wp2_with fail
    go_ret3
    exact ⟨⟨fun h => absurd h HE.out, fun _ => rfl⟩, hB5⟩
end Go.Proofs.Ytomloklckpcaiaa
