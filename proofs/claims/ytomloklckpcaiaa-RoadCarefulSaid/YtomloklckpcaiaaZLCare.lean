/- The law function RoadCareful, walked: it returns true. -/
import Derived.Test.YtomloklckpcaiaaZSres
import Derived.Test.YtomloklckpcaiaaZMet
import Derived.Test.YtomloklckpcaiaaZReg7
import Derived.Test.YtomloklckpcaiaaZRSame
namespace Go.Proofs.Ytomloklckpcaiaa
open Go.RowKit Go.Shelf Go.Sort Go.Proofs

set_option maxRecDepth 100000 in
set_option maxHeartbeats 16000000 in
theorem RoadCareful_walk (pa : Option Addr) (pn pc : Nat) (ca : Option Addr) (cn cc : Nat) (ja : Option Addr) (jn jc : Nat) (R : Road) (pa2 : Option Addr) (pn2 pc2 : Nat) (ca2 : Option Addr) (cn2 cc2 : Nat) (ja2 : Option Addr) (jn2 jc2 : Nat) (R2 : Road) (w : World) (h : RD w w.heap.size pa pn ca cn ja jn R) (h2 : RD w w.heap.size pa2 pn2 ca2 cn2 ja2 jn2 R2) :
    Calls Try.prog 16 #[.agg #[.slice pa pn pc, .slice ca cn cc, .slice ja jn jc], .agg #[.slice pa2 pn2 pc2, .slice ca2 cn2 cc2, .slice ja2 jn2 jc2]] w fun e w' => e = .returned (.bool true) ∧ Below w.heap.size w w' := by
  have hmo : Try.prog.follows .mixedOrders = true := by kernel_rfl
  have hR := Lib.hid h
  have hpl := Lib.hid h.p.1
  have hR2 := Lib.hid h2
  have hpl2 := Lib.hid h2.p.1
  clear h h2
  go_enter Try.func16, Try.ntmps16
  go_wp2_with fail
  obtain ⟨W0, hW0⟩ : ∃ W0, W0 = (w.alloc (.cells #[.slice pa pn pc, .slice ca cn cc, .slice ja jn jc] 26)).alloc (.cells #[.slice pa2 pn2 pc2, .slice ca2 cn2 cc2, .slice ja2 jn2 jc2] 26) := ⟨_, rfl⟩
  have hB0 : Below w.heap.size w W0 := by rw [hW0]; exact ((Below.refl w.heap.size w).alloc (Nat.le_refl _) _).alloc (by simp) _
  have hX0 : BK W0 w.heap.size 26 #[.slice pa pn pc, .slice ca cn cc, .slice ja jn jc] := by rw [hW0]; exact (BK.new w _ _).alloc _
  have hY0 : BK W0 (w.heap.size + 1) 26 #[.slice pa2 pn2 pc2, .slice ca2 cn2 cc2, .slice ja2 jn2 jc2] := by rw [hW0]; have := BK.new (w.alloc (.cells #[.slice pa pn pc, .slice ca cn cc, .slice ja jn jc] 26)) 26 #[.slice pa2 pn2 pc2, .slice ca2 cn2 cc2, .slice ja2 jn2 jc2]; rw [World.size_alloc] at this; exact this
  rw [← hW0]
  clear hW0
  cases hf : sml R
  case false =>
    have f0 := Lib.hid hf
    clear hf
    have X_0 := fun d os => cell_regrown (hX0.cell 0) d os
    have X_1 := fun d os => cell_regrown (hX0.cell 1) d os
    have X_2 := fun d os => cell_regrown (hX0.cell 2) d os
    have Y_0 := fun d os => cell_regrown (hY0.cell 0) d os
    have Y_1 := fun d os => cell_regrown (hY0.cell 1) d os
    have Y_2 := fun d os => cell_regrown (hY0.cell 2) d os
    go_wp2_with fail
    refine wp_region_ch 24 [1, 3, 5, 8, 10, 13, 15, 18, 20, 22] hmo (by kernel_rfl) ?_
    simp only [List.take_succ_cons, List.take_zero, List.drop_succ_cons, List.drop_zero]
    repeat (refine wpC_q (by decide) (by decide) (fun K hK => ?_); go_simp; refine hK _ ?_; clear hK K)
    refine wpC_cg (ι := Unit) 18 #[.agg #[.slice pa pn pc, .slice ca cn cc, .slice ja jn jc]] (fun _ => .bool false) (fun _ _ => True) (by decide) (by decide) (by go_simp) (fun w => by go_simp) stable_true (fun _ => stable_true) (fun W hW hΦ => ?_) (fun i0 hs0 => ?_)
    · obtain ⟨p, rfl⟩ := hW
      have hb := below_regrown W0 p.d p.os
      have hb' := hB0.trans (hb.mono hB0.size)
      refine (small_any pa pn pc ca cn cc ja jn jc R _ (hR.out.grow hb' hb'.size)).mono ?_
      rintro e w' ⟨rfl, hbl⟩
      exact ⟨(), by rw [f0.out], trivial, hbl⟩
    repeat (refine wpC_q (by decide) (by decide) (fun K hK => ?_); go_simp; refine hK _ ?_; clear hK K)
    refine wpC_v (ι := Unit) (fun _ => .bool true) (fun _ _ => True) (by decide) (by decide) rfl hs0 (fun _ => stable_true) (fun W _ _ => ⟨(), W, by go_simp, trivial, Below.refl _ _⟩) (fun i1 hs1 => ?_)
    repeat (refine wpC_q (by decide) (by decide) (fun K hK => ?_); go_simp; refine hK _ ?_; clear hK K)
    refine wpC_off (by decide) (by go_simp) ?_
    repeat (refine wpC_q (by decide) (by decide) (fun K hK => ?_); go_simp; refine hK _ ?_; clear hK K)
    refine wpC_v (ι := Unit) (fun _ => .bool true) (fun _ _ => True) (by decide) (by decide) rfl hs1 (fun _ => stable_true) (fun W _ _ => ⟨(), W, by go_simp, trivial, Below.refl _ _⟩) (fun i2 hs2 => ?_)
    repeat (refine wpC_q (by decide) (by decide) (fun K hK => ?_); go_simp; refine hK _ ?_; clear hK K)
    refine wpC_off (by decide) (by go_simp) ?_
    repeat (refine wpC_q (by decide) (by decide) (fun K hK => ?_); go_simp; refine hK _ ?_; clear hK K)
    refine wpC_v (ι := Unit) (fun _ => .bool true) (fun _ _ => True) (by decide) (by decide) rfl hs2 (fun _ => stable_true) (fun W _ _ => ⟨(), W, by go_simp, trivial, Below.refl _ _⟩) (fun i3 hs3 => ?_)
    repeat (refine wpC_q (by decide) (by decide) (fun K hK => ?_); go_simp; refine hK _ ?_; clear hK K)
    refine wpC_off (by decide) (by go_simp) ?_
    repeat (refine wpC_q (by decide) (by decide) (fun K hK => ?_); go_simp; refine hK _ ?_; clear hK K)
    refine wpC_v (ι := Unit) (fun _ => .bool true) (fun _ _ => True) (by decide) (by decide) rfl hs3 (fun _ => stable_true) (fun W _ _ => ⟨(), W, by go_simp, trivial, Below.refl _ _⟩) (fun i4 hs4 => ?_)
    repeat (refine wpC_q (by decide) (by decide) (fun K hK => ?_); go_simp; refine hK _ ?_; clear hK K)
    refine wpC_off (by decide) (by go_simp) ?_
    repeat (refine wpC_q (by decide) (by decide) (fun K hK => ?_); go_simp; refine hK _ ?_; clear hK K)
    refine wpC_off (by decide) (by go_simp) ?_
    repeat (refine wpC_q (by decide) (by decide) (fun K hK => ?_); go_simp; refine hK _ ?_; clear hK K)
    refine wpC_nil ?_
    intro W1 hk0 _
    clear hs0 hs1 hs2 hs3 hs4 X_0 X_1 X_2 Y_0 Y_1 Y_2
    have hB1 := hB0.trans (hk0.mono hB0.size)
    have hX1 := hX0.below hk0 hX0.lt
    have hY1 := hY0.below hk0 hY0.lt
    have X_0 := hX1.cell 0
    have X_1 := hX1.cell 1
    have X_2 := hX1.cell 2
    have Y_0 := hY1.cell 0
    have Y_1 := hY1.cell 1
    have Y_2 := hY1.cell 2
    simp only [List.getElem?_toArray, List.getElem?_cons_zero, List.getElem?_cons_succ] at X_0 X_1 X_2 Y_0 Y_1 Y_2
    go_wp2_with fail
    clear X_0 X_1 X_2 Y_0 Y_1 Y_2
    refine (known_any W1).mono ?_
    rintro e W2 ⟨rfl, hk1⟩
    have hB2 := hB1.trans (hk1.mono hB1.size)
    have hX2 := hX1.below hk1 hX1.lt
    have hY2 := hY1.below hk1 hY1.lt
    have X_0 := hX2.cell 0
    have X_1 := hX2.cell 1
    have X_2 := hX2.cell 2
    have Y_0 := hY2.cell 0
    have Y_1 := hY2.cell 1
    have Y_2 := hY2.cell 2
    simp only [List.getElem?_toArray, List.getElem?_cons_zero, List.getElem?_cons_succ] at X_0 X_1 X_2 Y_0 Y_1 Y_2
    go_wp2_with fail
    clear X_0 X_1 X_2 Y_0 Y_1 Y_2
    go_ret
    exact ⟨rfl, hB2⟩
  have f0 := Lib.hid hf
  clear hf
  cases hf : sml R2
  case false =>
    have f1 := Lib.hid hf
    clear hf
    have X_0 := fun d os => cell_regrown (hX0.cell 0) d os
    have X_1 := fun d os => cell_regrown (hX0.cell 1) d os
    have X_2 := fun d os => cell_regrown (hX0.cell 2) d os
    have Y_0 := fun d os => cell_regrown (hY0.cell 0) d os
    have Y_1 := fun d os => cell_regrown (hY0.cell 1) d os
    have Y_2 := fun d os => cell_regrown (hY0.cell 2) d os
    go_wp2_with fail
    refine wp_region_ch 24 [1, 3, 5, 8, 10, 13, 15, 18, 20, 22] hmo (by kernel_rfl) ?_
    simp only [List.take_succ_cons, List.take_zero, List.drop_succ_cons, List.drop_zero]
    repeat (refine wpC_q (by decide) (by decide) (fun K hK => ?_); go_simp; refine hK _ ?_; clear hK K)
    refine wpC_cg (ι := Unit) 18 #[.agg #[.slice pa pn pc, .slice ca cn cc, .slice ja jn jc]] (fun _ => .bool true) (fun _ _ => True) (by decide) (by decide) (by go_simp) (fun w => by go_simp) stable_true (fun _ => stable_true) (fun W hW hΦ => ?_) (fun i0 hs0 => ?_)
    · obtain ⟨p, rfl⟩ := hW
      have hb := below_regrown W0 p.d p.os
      have hb' := hB0.trans (hb.mono hB0.size)
      refine (small_any pa pn pc ca cn cc ja jn jc R _ (hR.out.grow hb' hb'.size)).mono ?_
      rintro e w' ⟨rfl, hbl⟩
      exact ⟨(), by rw [f0.out], trivial, hbl⟩
    repeat (refine wpC_q (by decide) (by decide) (fun K hK => ?_); go_simp; refine hK _ ?_; clear hK K)
    refine wpC_v (ι := Unit) (fun _ => .bool false) (fun _ _ => True) (by decide) (by decide) rfl hs0 (fun _ => stable_true) (fun W _ _ => ⟨(), W, by go_simp, trivial, Below.refl _ _⟩) (fun i1 hs1 => ?_)
    repeat (refine wpC_q (by decide) (by decide) (fun K hK => ?_); go_simp; refine hK _ ?_; clear hK K)
    refine wpC_cg (ι := Unit) 18 #[.agg #[.slice pa2 pn2 pc2, .slice ca2 cn2 cc2, .slice ja2 jn2 jc2]] (fun _ => .bool false) (fun _ _ => True) (by decide) (by decide) (by go_simp) (fun w => by go_simp) hs1 (fun _ => stable_true) (fun W hW hΦ => ?_) (fun i2 hs2 => ?_)
    · obtain ⟨p, rfl⟩ := hW
      have hb := below_regrown W0 p.d p.os
      have hb' := hB0.trans (hb.mono hB0.size)
      refine (small_any pa2 pn2 pc2 ca2 cn2 cc2 ja2 jn2 jc2 R2 _ (hR2.out.grow hb' hb'.size)).mono ?_
      rintro e w' ⟨rfl, hbl⟩
      exact ⟨(), by rw [f1.out], trivial, hbl⟩
    repeat (refine wpC_q (by decide) (by decide) (fun K hK => ?_); go_simp; refine hK _ ?_; clear hK K)
    refine wpC_v (ι := Unit) (fun _ => .bool true) (fun _ _ => True) (by decide) (by decide) rfl hs2 (fun _ => stable_true) (fun W _ _ => ⟨(), W, by go_simp, trivial, Below.refl _ _⟩) (fun i3 hs3 => ?_)
    repeat (refine wpC_q (by decide) (by decide) (fun K hK => ?_); go_simp; refine hK _ ?_; clear hK K)
    refine wpC_off (by decide) (by go_simp) ?_
    repeat (refine wpC_q (by decide) (by decide) (fun K hK => ?_); go_simp; refine hK _ ?_; clear hK K)
    refine wpC_v (ι := Unit) (fun _ => .bool true) (fun _ _ => True) (by decide) (by decide) rfl hs3 (fun _ => stable_true) (fun W _ _ => ⟨(), W, by go_simp, trivial, Below.refl _ _⟩) (fun i4 hs4 => ?_)
    repeat (refine wpC_q (by decide) (by decide) (fun K hK => ?_); go_simp; refine hK _ ?_; clear hK K)
    refine wpC_off (by decide) (by go_simp) ?_
    repeat (refine wpC_q (by decide) (by decide) (fun K hK => ?_); go_simp; refine hK _ ?_; clear hK K)
    refine wpC_v (ι := Unit) (fun _ => .bool true) (fun _ _ => True) (by decide) (by decide) rfl hs4 (fun _ => stable_true) (fun W _ _ => ⟨(), W, by go_simp, trivial, Below.refl _ _⟩) (fun i5 hs5 => ?_)
    repeat (refine wpC_q (by decide) (by decide) (fun K hK => ?_); go_simp; refine hK _ ?_; clear hK K)
    refine wpC_off (by decide) (by go_simp) ?_
    repeat (refine wpC_q (by decide) (by decide) (fun K hK => ?_); go_simp; refine hK _ ?_; clear hK K)
    refine wpC_off (by decide) (by go_simp) ?_
    repeat (refine wpC_q (by decide) (by decide) (fun K hK => ?_); go_simp; refine hK _ ?_; clear hK K)
    refine wpC_nil ?_
    intro W1 hk0 _
    clear hs0 hs1 hs2 hs3 hs4 hs5 X_0 X_1 X_2 Y_0 Y_1 Y_2
    have hB1 := hB0.trans (hk0.mono hB0.size)
    have hX1 := hX0.below hk0 hX0.lt
    have hY1 := hY0.below hk0 hY0.lt
    have X_0 := hX1.cell 0
    have X_1 := hX1.cell 1
    have X_2 := hX1.cell 2
    have Y_0 := hY1.cell 0
    have Y_1 := hY1.cell 1
    have Y_2 := hY1.cell 2
    simp only [List.getElem?_toArray, List.getElem?_cons_zero, List.getElem?_cons_succ] at X_0 X_1 X_2 Y_0 Y_1 Y_2
    go_wp2_with fail
    clear X_0 X_1 X_2 Y_0 Y_1 Y_2
    refine (known_any W1).mono ?_
    rintro e W2 ⟨rfl, hk1⟩
    have hB2 := hB1.trans (hk1.mono hB1.size)
    have hX2 := hX1.below hk1 hX1.lt
    have hY2 := hY1.below hk1 hY1.lt
    have X_0 := hX2.cell 0
    have X_1 := hX2.cell 1
    have X_2 := hX2.cell 2
    have Y_0 := hY2.cell 0
    have Y_1 := hY2.cell 1
    have Y_2 := hY2.cell 2
    simp only [List.getElem?_toArray, List.getElem?_cons_zero, List.getElem?_cons_succ] at X_0 X_1 X_2 Y_0 Y_1 Y_2
    go_wp2_with fail
    clear X_0 X_1 X_2 Y_0 Y_1 Y_2
    go_ret
    exact ⟨rfl, hB2⟩
  have f1 := Lib.hid hf
  clear hf
  cases hf : val R
  case false =>
    have f2 := Lib.hid hf
    clear hf
    have X_0 := fun d os => cell_regrown (hX0.cell 0) d os
    have X_1 := fun d os => cell_regrown (hX0.cell 1) d os
    have X_2 := fun d os => cell_regrown (hX0.cell 2) d os
    have Y_0 := fun d os => cell_regrown (hY0.cell 0) d os
    have Y_1 := fun d os => cell_regrown (hY0.cell 1) d os
    have Y_2 := fun d os => cell_regrown (hY0.cell 2) d os
    go_wp2_with fail
    refine wp_region_ch 24 [1, 3, 5, 8, 10, 13, 15, 18, 20, 22] hmo (by kernel_rfl) ?_
    simp only [List.take_succ_cons, List.take_zero, List.drop_succ_cons, List.drop_zero]
    repeat (refine wpC_q (by decide) (by decide) (fun K hK => ?_); go_simp; refine hK _ ?_; clear hK K)
    refine wpC_cg (ι := Unit) 18 #[.agg #[.slice pa pn pc, .slice ca cn cc, .slice ja jn jc]] (fun _ => .bool true) (fun _ _ => True) (by decide) (by decide) (by go_simp) (fun w => by go_simp) stable_true (fun _ => stable_true) (fun W hW hΦ => ?_) (fun i0 hs0 => ?_)
    · obtain ⟨p, rfl⟩ := hW
      have hb := below_regrown W0 p.d p.os
      have hb' := hB0.trans (hb.mono hB0.size)
      refine (small_any pa pn pc ca cn cc ja jn jc R _ (hR.out.grow hb' hb'.size)).mono ?_
      rintro e w' ⟨rfl, hbl⟩
      exact ⟨(), by rw [f0.out], trivial, hbl⟩
    repeat (refine wpC_q (by decide) (by decide) (fun K hK => ?_); go_simp; refine hK _ ?_; clear hK K)
    refine wpC_v (ι := Unit) (fun _ => .bool false) (fun _ _ => True) (by decide) (by decide) rfl hs0 (fun _ => stable_true) (fun W _ _ => ⟨(), W, by go_simp, trivial, Below.refl _ _⟩) (fun i1 hs1 => ?_)
    repeat (refine wpC_q (by decide) (by decide) (fun K hK => ?_); go_simp; refine hK _ ?_; clear hK K)
    refine wpC_cg (ι := Unit) 18 #[.agg #[.slice pa2 pn2 pc2, .slice ca2 cn2 cc2, .slice ja2 jn2 jc2]] (fun _ => .bool true) (fun _ _ => True) (by decide) (by decide) (by go_simp) (fun w => by go_simp) hs1 (fun _ => stable_true) (fun W hW hΦ => ?_) (fun i2 hs2 => ?_)
    · obtain ⟨p, rfl⟩ := hW
      have hb := below_regrown W0 p.d p.os
      have hb' := hB0.trans (hb.mono hB0.size)
      refine (small_any pa2 pn2 pc2 ca2 cn2 cc2 ja2 jn2 jc2 R2 _ (hR2.out.grow hb' hb'.size)).mono ?_
      rintro e w' ⟨rfl, hbl⟩
      exact ⟨(), by rw [f1.out], trivial, hbl⟩
    repeat (refine wpC_q (by decide) (by decide) (fun K hK => ?_); go_simp; refine hK _ ?_; clear hK K)
    refine wpC_v (ι := Unit) (fun _ => .bool false) (fun _ _ => True) (by decide) (by decide) rfl hs2 (fun _ => stable_true) (fun W _ _ => ⟨(), W, by go_simp, trivial, Below.refl _ _⟩) (fun i3 hs3 => ?_)
    repeat (refine wpC_q (by decide) (by decide) (fun K hK => ?_); go_simp; refine hK _ ?_; clear hK K)
    refine wpC_cg (ι := Unit) 19 #[.agg #[.slice pa pn pc, .slice ca cn cc, .slice ja jn jc]] (fun _ => .bool false) (fun _ _ => True) (by decide) (by decide) (by go_simp) (fun w => by go_simp) hs3 (fun _ => stable_true) (fun W hW hΦ => ?_) (fun i4 hs4 => ?_)
    · obtain ⟨p, rfl⟩ := hW
      have hb := below_regrown W0 p.d p.os
      have hb' := hB0.trans (hb.mono hB0.size)
      refine (Valid_any pa pn pc ca cn cc ja jn jc R _ (hR.out.grow hb' hb'.size)).mono ?_
      rintro e w' ⟨rfl, hbl⟩
      exact ⟨(), by rw [f2.out], trivial, hbl⟩
    repeat (refine wpC_q (by decide) (by decide) (fun K hK => ?_); go_simp; refine hK _ ?_; clear hK K)
    refine wpC_v (ι := Unit) (fun _ => .bool true) (fun _ _ => True) (by decide) (by decide) rfl hs4 (fun _ => stable_true) (fun W _ _ => ⟨(), W, by go_simp, trivial, Below.refl _ _⟩) (fun i5 hs5 => ?_)
    repeat (refine wpC_q (by decide) (by decide) (fun K hK => ?_); go_simp; refine hK _ ?_; clear hK K)
    refine wpC_off (by decide) (by go_simp) ?_
    repeat (refine wpC_q (by decide) (by decide) (fun K hK => ?_); go_simp; refine hK _ ?_; clear hK K)
    refine wpC_v (ι := Unit) (fun _ => .bool true) (fun _ _ => True) (by decide) (by decide) rfl hs5 (fun _ => stable_true) (fun W _ _ => ⟨(), W, by go_simp, trivial, Below.refl _ _⟩) (fun i6 hs6 => ?_)
    repeat (refine wpC_q (by decide) (by decide) (fun K hK => ?_); go_simp; refine hK _ ?_; clear hK K)
    refine wpC_off (by decide) (by go_simp) ?_
    repeat (refine wpC_q (by decide) (by decide) (fun K hK => ?_); go_simp; refine hK _ ?_; clear hK K)
    refine wpC_off (by decide) (by go_simp) ?_
    repeat (refine wpC_q (by decide) (by decide) (fun K hK => ?_); go_simp; refine hK _ ?_; clear hK K)
    refine wpC_nil ?_
    intro W1 hk0 _
    clear hs0 hs1 hs2 hs3 hs4 hs5 hs6 X_0 X_1 X_2 Y_0 Y_1 Y_2
    have hB1 := hB0.trans (hk0.mono hB0.size)
    have hX1 := hX0.below hk0 hX0.lt
    have hY1 := hY0.below hk0 hY0.lt
    have X_0 := hX1.cell 0
    have X_1 := hX1.cell 1
    have X_2 := hX1.cell 2
    have Y_0 := hY1.cell 0
    have Y_1 := hY1.cell 1
    have Y_2 := hY1.cell 2
    simp only [List.getElem?_toArray, List.getElem?_cons_zero, List.getElem?_cons_succ] at X_0 X_1 X_2 Y_0 Y_1 Y_2
    go_wp2_with fail
    clear X_0 X_1 X_2 Y_0 Y_1 Y_2
    refine (known_any W1).mono ?_
    rintro e W2 ⟨rfl, hk1⟩
    have hB2 := hB1.trans (hk1.mono hB1.size)
    have hX2 := hX1.below hk1 hX1.lt
    have hY2 := hY1.below hk1 hY1.lt
    have X_0 := hX2.cell 0
    have X_1 := hX2.cell 1
    have X_2 := hX2.cell 2
    have Y_0 := hY2.cell 0
    have Y_1 := hY2.cell 1
    have Y_2 := hY2.cell 2
    simp only [List.getElem?_toArray, List.getElem?_cons_zero, List.getElem?_cons_succ] at X_0 X_1 X_2 Y_0 Y_1 Y_2
    go_wp2_with fail
    clear X_0 X_1 X_2 Y_0 Y_1 Y_2
    go_ret
    exact ⟨rfl, hB2⟩
  have f2 := Lib.hid hf
  clear hf
  cases hf : val R2
  case false =>
    have f3 := Lib.hid hf
    clear hf
    have X_0 := fun d os => cell_regrown (hX0.cell 0) d os
    have X_1 := fun d os => cell_regrown (hX0.cell 1) d os
    have X_2 := fun d os => cell_regrown (hX0.cell 2) d os
    have Y_0 := fun d os => cell_regrown (hY0.cell 0) d os
    have Y_1 := fun d os => cell_regrown (hY0.cell 1) d os
    have Y_2 := fun d os => cell_regrown (hY0.cell 2) d os
    go_wp2_with fail
    refine wp_region_ch 24 [1, 3, 5, 8, 10, 13, 15, 18, 20, 22] hmo (by kernel_rfl) ?_
    simp only [List.take_succ_cons, List.take_zero, List.drop_succ_cons, List.drop_zero]
    repeat (refine wpC_q (by decide) (by decide) (fun K hK => ?_); go_simp; refine hK _ ?_; clear hK K)
    refine wpC_cg (ι := Unit) 18 #[.agg #[.slice pa pn pc, .slice ca cn cc, .slice ja jn jc]] (fun _ => .bool true) (fun _ _ => True) (by decide) (by decide) (by go_simp) (fun w => by go_simp) stable_true (fun _ => stable_true) (fun W hW hΦ => ?_) (fun i0 hs0 => ?_)
    · obtain ⟨p, rfl⟩ := hW
      have hb := below_regrown W0 p.d p.os
      have hb' := hB0.trans (hb.mono hB0.size)
      refine (small_any pa pn pc ca cn cc ja jn jc R _ (hR.out.grow hb' hb'.size)).mono ?_
      rintro e w' ⟨rfl, hbl⟩
      exact ⟨(), by rw [f0.out], trivial, hbl⟩
    repeat (refine wpC_q (by decide) (by decide) (fun K hK => ?_); go_simp; refine hK _ ?_; clear hK K)
    refine wpC_v (ι := Unit) (fun _ => .bool false) (fun _ _ => True) (by decide) (by decide) rfl hs0 (fun _ => stable_true) (fun W _ _ => ⟨(), W, by go_simp, trivial, Below.refl _ _⟩) (fun i1 hs1 => ?_)
    repeat (refine wpC_q (by decide) (by decide) (fun K hK => ?_); go_simp; refine hK _ ?_; clear hK K)
    refine wpC_cg (ι := Unit) 18 #[.agg #[.slice pa2 pn2 pc2, .slice ca2 cn2 cc2, .slice ja2 jn2 jc2]] (fun _ => .bool true) (fun _ _ => True) (by decide) (by decide) (by go_simp) (fun w => by go_simp) hs1 (fun _ => stable_true) (fun W hW hΦ => ?_) (fun i2 hs2 => ?_)
    · obtain ⟨p, rfl⟩ := hW
      have hb := below_regrown W0 p.d p.os
      have hb' := hB0.trans (hb.mono hB0.size)
      refine (small_any pa2 pn2 pc2 ca2 cn2 cc2 ja2 jn2 jc2 R2 _ (hR2.out.grow hb' hb'.size)).mono ?_
      rintro e w' ⟨rfl, hbl⟩
      exact ⟨(), by rw [f1.out], trivial, hbl⟩
    repeat (refine wpC_q (by decide) (by decide) (fun K hK => ?_); go_simp; refine hK _ ?_; clear hK K)
    refine wpC_v (ι := Unit) (fun _ => .bool false) (fun _ _ => True) (by decide) (by decide) rfl hs2 (fun _ => stable_true) (fun W _ _ => ⟨(), W, by go_simp, trivial, Below.refl _ _⟩) (fun i3 hs3 => ?_)
    repeat (refine wpC_q (by decide) (by decide) (fun K hK => ?_); go_simp; refine hK _ ?_; clear hK K)
    refine wpC_cg (ι := Unit) 19 #[.agg #[.slice pa pn pc, .slice ca cn cc, .slice ja jn jc]] (fun _ => .bool true) (fun _ _ => True) (by decide) (by decide) (by go_simp) (fun w => by go_simp) hs3 (fun _ => stable_true) (fun W hW hΦ => ?_) (fun i4 hs4 => ?_)
    · obtain ⟨p, rfl⟩ := hW
      have hb := below_regrown W0 p.d p.os
      have hb' := hB0.trans (hb.mono hB0.size)
      refine (Valid_any pa pn pc ca cn cc ja jn jc R _ (hR.out.grow hb' hb'.size)).mono ?_
      rintro e w' ⟨rfl, hbl⟩
      exact ⟨(), by rw [f2.out], trivial, hbl⟩
    repeat (refine wpC_q (by decide) (by decide) (fun K hK => ?_); go_simp; refine hK _ ?_; clear hK K)
    refine wpC_v (ι := Unit) (fun _ => .bool false) (fun _ _ => True) (by decide) (by decide) rfl hs4 (fun _ => stable_true) (fun W _ _ => ⟨(), W, by go_simp, trivial, Below.refl _ _⟩) (fun i5 hs5 => ?_)
    repeat (refine wpC_q (by decide) (by decide) (fun K hK => ?_); go_simp; refine hK _ ?_; clear hK K)
    refine wpC_cg (ι := Unit) 19 #[.agg #[.slice pa2 pn2 pc2, .slice ca2 cn2 cc2, .slice ja2 jn2 jc2]] (fun _ => .bool false) (fun _ _ => True) (by decide) (by decide) (by go_simp) (fun w => by go_simp) hs5 (fun _ => stable_true) (fun W hW hΦ => ?_) (fun i6 hs6 => ?_)
    · obtain ⟨p, rfl⟩ := hW
      have hb := below_regrown W0 p.d p.os
      have hb' := hB0.trans (hb.mono hB0.size)
      refine (Valid_any pa2 pn2 pc2 ca2 cn2 cc2 ja2 jn2 jc2 R2 _ (hR2.out.grow hb' hb'.size)).mono ?_
      rintro e w' ⟨rfl, hbl⟩
      exact ⟨(), by rw [f3.out], trivial, hbl⟩
    repeat (refine wpC_q (by decide) (by decide) (fun K hK => ?_); go_simp; refine hK _ ?_; clear hK K)
    refine wpC_v (ι := Unit) (fun _ => .bool true) (fun _ _ => True) (by decide) (by decide) rfl hs6 (fun _ => stable_true) (fun W _ _ => ⟨(), W, by go_simp, trivial, Below.refl _ _⟩) (fun i7 hs7 => ?_)
    repeat (refine wpC_q (by decide) (by decide) (fun K hK => ?_); go_simp; refine hK _ ?_; clear hK K)
    refine wpC_off (by decide) (by go_simp) ?_
    repeat (refine wpC_q (by decide) (by decide) (fun K hK => ?_); go_simp; refine hK _ ?_; clear hK K)
    refine wpC_off (by decide) (by go_simp) ?_
    repeat (refine wpC_q (by decide) (by decide) (fun K hK => ?_); go_simp; refine hK _ ?_; clear hK K)
    refine wpC_nil ?_
    intro W1 hk0 _
    clear hs0 hs1 hs2 hs3 hs4 hs5 hs6 hs7 X_0 X_1 X_2 Y_0 Y_1 Y_2
    have hB1 := hB0.trans (hk0.mono hB0.size)
    have hX1 := hX0.below hk0 hX0.lt
    have hY1 := hY0.below hk0 hY0.lt
    have X_0 := hX1.cell 0
    have X_1 := hX1.cell 1
    have X_2 := hX1.cell 2
    have Y_0 := hY1.cell 0
    have Y_1 := hY1.cell 1
    have Y_2 := hY1.cell 2
    simp only [List.getElem?_toArray, List.getElem?_cons_zero, List.getElem?_cons_succ] at X_0 X_1 X_2 Y_0 Y_1 Y_2
    go_wp2_with fail
    clear X_0 X_1 X_2 Y_0 Y_1 Y_2
    refine (known_any W1).mono ?_
    rintro e W2 ⟨rfl, hk1⟩
    have hB2 := hB1.trans (hk1.mono hB1.size)
    have hX2 := hX1.below hk1 hX1.lt
    have hY2 := hY1.below hk1 hY1.lt
    have X_0 := hX2.cell 0
    have X_1 := hX2.cell 1
    have X_2 := hX2.cell 2
    have Y_0 := hY2.cell 0
    have Y_1 := hY2.cell 1
    have Y_2 := hY2.cell 2
    simp only [List.getElem?_toArray, List.getElem?_cons_zero, List.getElem?_cons_succ] at X_0 X_1 X_2 Y_0 Y_1 Y_2
    go_wp2_with fail
    clear X_0 X_1 X_2 Y_0 Y_1 Y_2
    go_ret
    exact ⟨rfl, hB2⟩
  have f3 := Lib.hid hf
  clear hf
  have HV1 := Lib.hid ((val_iff R).1 f2.out)
  have HV2 := Lib.hid ((val_iff R2).1 f3.out)
  have hpn : pn ≤ 2000 := by rw [hpl.out]; exact HV1.out.p2
  have hpn2 : pn2 ≤ 2000 := by rw [hpl2.out]; exact HV2.out.p2
  have hcn : cn ≤ 1000 := by rw [hR.out.c.1]; exact HV1.out.c1
  have hjn : jn ≤ 200 := by rw [hR.out.j.1]; exact HV1.out.j1
  have hcn2 : cn2 ≤ 1000 := by rw [hR2.out.c.1]; exact HV2.out.c1
  have hjn2 : jn2 ≤ 200 := by rw [hR2.out.j.1]; exact HV2.out.j1
  have hln := HV1.out.len
  obtain ⟨p20, p21, p22, n800⟩ := sml_bd HV1.out f0.out
  obtain ⟨q20, q21, q22, m800⟩ := sml_bd HV2.out f1.out
  by_cases hs : sumL R.ps = sumL R2.ps
  case neg =>
    have es : (sumL R.ps != sumL R2.ps) = true := by simpa using hs
    clear hs
    have X_0 := fun d os => cell_regrown (hX0.cell 0) d os
    have X_1 := fun d os => cell_regrown (hX0.cell 1) d os
    have X_2 := fun d os => cell_regrown (hX0.cell 2) d os
    have Y_0 := fun d os => cell_regrown (hY0.cell 0) d os
    have Y_1 := fun d os => cell_regrown (hY0.cell 1) d os
    have Y_2 := fun d os => cell_regrown (hY0.cell 2) d os
    go_wp2_with fail
    refine wp_region_ch 24 [1, 3, 5, 8, 10, 13, 15, 18, 20, 22] hmo (by kernel_rfl) ?_
    simp only [List.take_succ_cons, List.take_zero, List.drop_succ_cons, List.drop_zero]
    repeat (refine wpC_q (by decide) (by decide) (fun K hK => ?_); go_simp; refine hK _ ?_; clear hK K)
    refine wpC_cg (ι := Unit) 18 #[.agg #[.slice pa pn pc, .slice ca cn cc, .slice ja jn jc]] (fun _ => .bool true) (fun _ _ => True) (by decide) (by decide) (by go_simp) (fun w => by go_simp) stable_true (fun _ => stable_true) (fun W hW hΦ => ?_) (fun i0 hs0 => ?_)
    · obtain ⟨p, rfl⟩ := hW
      have hb := below_regrown W0 p.d p.os
      have hb' := hB0.trans (hb.mono hB0.size)
      refine (small_any pa pn pc ca cn cc ja jn jc R _ (hR.out.grow hb' hb'.size)).mono ?_
      rintro e w' ⟨rfl, hbl⟩
      exact ⟨(), by rw [f0.out], trivial, hbl⟩
    repeat (refine wpC_q (by decide) (by decide) (fun K hK => ?_); go_simp; refine hK _ ?_; clear hK K)
    refine wpC_v (ι := Unit) (fun _ => .bool false) (fun _ _ => True) (by decide) (by decide) rfl hs0 (fun _ => stable_true) (fun W _ _ => ⟨(), W, by go_simp, trivial, Below.refl _ _⟩) (fun i1 hs1 => ?_)
    repeat (refine wpC_q (by decide) (by decide) (fun K hK => ?_); go_simp; refine hK _ ?_; clear hK K)
    refine wpC_cg (ι := Unit) 18 #[.agg #[.slice pa2 pn2 pc2, .slice ca2 cn2 cc2, .slice ja2 jn2 jc2]] (fun _ => .bool true) (fun _ _ => True) (by decide) (by decide) (by go_simp) (fun w => by go_simp) hs1 (fun _ => stable_true) (fun W hW hΦ => ?_) (fun i2 hs2 => ?_)
    · obtain ⟨p, rfl⟩ := hW
      have hb := below_regrown W0 p.d p.os
      have hb' := hB0.trans (hb.mono hB0.size)
      refine (small_any pa2 pn2 pc2 ca2 cn2 cc2 ja2 jn2 jc2 R2 _ (hR2.out.grow hb' hb'.size)).mono ?_
      rintro e w' ⟨rfl, hbl⟩
      exact ⟨(), by rw [f1.out], trivial, hbl⟩
    repeat (refine wpC_q (by decide) (by decide) (fun K hK => ?_); go_simp; refine hK _ ?_; clear hK K)
    refine wpC_v (ι := Unit) (fun _ => .bool false) (fun _ _ => True) (by decide) (by decide) rfl hs2 (fun _ => stable_true) (fun W _ _ => ⟨(), W, by go_simp, trivial, Below.refl _ _⟩) (fun i3 hs3 => ?_)
    repeat (refine wpC_q (by decide) (by decide) (fun K hK => ?_); go_simp; refine hK _ ?_; clear hK K)
    refine wpC_cg (ι := Unit) 19 #[.agg #[.slice pa pn pc, .slice ca cn cc, .slice ja jn jc]] (fun _ => .bool true) (fun _ _ => True) (by decide) (by decide) (by go_simp) (fun w => by go_simp) hs3 (fun _ => stable_true) (fun W hW hΦ => ?_) (fun i4 hs4 => ?_)
    · obtain ⟨p, rfl⟩ := hW
      have hb := below_regrown W0 p.d p.os
      have hb' := hB0.trans (hb.mono hB0.size)
      refine (Valid_any pa pn pc ca cn cc ja jn jc R _ (hR.out.grow hb' hb'.size)).mono ?_
      rintro e w' ⟨rfl, hbl⟩
      exact ⟨(), by rw [f2.out], trivial, hbl⟩
    repeat (refine wpC_q (by decide) (by decide) (fun K hK => ?_); go_simp; refine hK _ ?_; clear hK K)
    refine wpC_v (ι := Unit) (fun _ => .bool false) (fun _ _ => True) (by decide) (by decide) rfl hs4 (fun _ => stable_true) (fun W _ _ => ⟨(), W, by go_simp, trivial, Below.refl _ _⟩) (fun i5 hs5 => ?_)
    repeat (refine wpC_q (by decide) (by decide) (fun K hK => ?_); go_simp; refine hK _ ?_; clear hK K)
    refine wpC_cg (ι := Unit) 19 #[.agg #[.slice pa2 pn2 pc2, .slice ca2 cn2 cc2, .slice ja2 jn2 jc2]] (fun _ => .bool true) (fun _ _ => True) (by decide) (by decide) (by go_simp) (fun w => by go_simp) hs5 (fun _ => stable_true) (fun W hW hΦ => ?_) (fun i6 hs6 => ?_)
    · obtain ⟨p, rfl⟩ := hW
      have hb := below_regrown W0 p.d p.os
      have hb' := hB0.trans (hb.mono hB0.size)
      refine (Valid_any pa2 pn2 pc2 ca2 cn2 cc2 ja2 jn2 jc2 R2 _ (hR2.out.grow hb' hb'.size)).mono ?_
      rintro e w' ⟨rfl, hbl⟩
      exact ⟨(), by rw [f3.out], trivial, hbl⟩
    repeat (refine wpC_q (by decide) (by decide) (fun K hK => ?_); go_simp; refine hK _ ?_; clear hK K)
    refine wpC_v (ι := Unit) (fun _ => .bool false) (fun _ _ => True) (by decide) (by decide) rfl hs6 (fun _ => stable_true) (fun W _ _ => ⟨(), W, by go_simp, trivial, Below.refl _ _⟩) (fun i7 hs7 => ?_)
    repeat (refine wpC_q (by decide) (by decide) (fun K hK => ?_); go_simp; refine hK _ ?_; clear hK K)
    refine wpC_cg (ι := Unit) 22 #[.agg #[.slice pa pn pc, .slice ca cn cc, .slice ja jn jc]] (fun _ => .int .i64 (sumL R.ps)) (fun _ _ => True) (by decide) (by decide) (by go_simp) (fun w => by go_simp) hs7 (fun _ => stable_true) (fun W hW hΦ => ?_) (fun i8 hs8 => ?_)
    · obtain ⟨p, rfl⟩ := hW
      have hb := below_regrown W0 p.d p.os
      have hb' := hB0.trans (hb.mono hB0.size)
      refine (rLength_any pa pn pc ca cn cc ja jn jc R _ (hR.out.grow hb' hb'.size) HV1.out.pk (by omega)).mono ?_
      rintro e w' ⟨rfl, hbl⟩
      exact ⟨(), rfl, trivial, hbl⟩
    repeat (refine wpC_q (by decide) (by decide) (fun K hK => ?_); go_simp; refine hK _ ?_; clear hK K)
    refine wpC_cg (ι := Unit) 22 #[.agg #[.slice pa2 pn2 pc2, .slice ca2 cn2 cc2, .slice ja2 jn2 jc2]] (fun _ => .int .i64 (sumL R2.ps)) (fun _ _ => True) (by decide) (by decide) (by go_simp) (fun w => by go_simp) hs8 (fun _ => stable_true) (fun W hW hΦ => ?_) (fun i9 hs9 => ?_)
    · obtain ⟨p, rfl⟩ := hW
      have hb := below_regrown W0 p.d p.os
      have hb' := hB0.trans (hb.mono hB0.size)
      refine (rLength_any pa2 pn2 pc2 ca2 cn2 cc2 ja2 jn2 jc2 R2 _ (hR2.out.grow hb' hb'.size) HV2.out.pk (by omega)).mono ?_
      rintro e w' ⟨rfl, hbl⟩
      exact ⟨(), rfl, trivial, hbl⟩
    repeat (refine wpC_q (by decide) (by decide) (fun K hK => ?_); go_simp; refine hK _ ?_; clear hK K)
    refine wpC_nil ?_
    intro W1 hk0 _
    clear hs0 hs1 hs2 hs3 hs4 hs5 hs6 hs7 hs8 hs9 X_0 X_1 X_2 Y_0 Y_1 Y_2
    have hB1 := hB0.trans (hk0.mono hB0.size)
    have hX1 := hX0.below hk0 hX0.lt
    have hY1 := hY0.below hk0 hY0.lt
    have X_0 := hX1.cell 0
    have X_1 := hX1.cell 1
    have X_2 := hX1.cell 2
    have Y_0 := hY1.cell 0
    have Y_1 := hY1.cell 1
    have Y_2 := hY1.cell 2
    simp only [List.getElem?_toArray, List.getElem?_cons_zero, List.getElem?_cons_succ] at X_0 X_1 X_2 Y_0 Y_1 Y_2
    go_wp2_with fail
    clear X_0 X_1 X_2 Y_0 Y_1 Y_2
    refine (known_any W1).mono ?_
    rintro e W2 ⟨rfl, hk1⟩
    have hB2 := hB1.trans (hk1.mono hB1.size)
    have hX2 := hX1.below hk1 hX1.lt
    have hY2 := hY1.below hk1 hY1.lt
    have X_0 := hX2.cell 0
    have X_1 := hX2.cell 1
    have X_2 := hX2.cell 2
    have Y_0 := hY2.cell 0
    have Y_1 := hY2.cell 1
    have Y_2 := hY2.cell 2
    simp only [List.getElem?_toArray, List.getElem?_cons_zero, List.getElem?_cons_succ] at X_0 X_1 X_2 Y_0 Y_1 Y_2
    go_wp2_with fail
    clear X_0 X_1 X_2 Y_0 Y_1 Y_2
    go_ret
    exact ⟨rfl, hB2⟩
  have HSE := Lib.hid hs
  have es : (sumL R.ps != sumL R2.ps) = false := by simpa using hs
  have hsm := sres_small HV1.out HV2.out hs (by omega) (by omega) (by omega)
  have HSM := Lib.hid hsm
  clear hs hsm
  have X_0 := fun d os => cell_regrown (hX0.cell 0) d os
  have X_1 := fun d os => cell_regrown (hX0.cell 1) d os
  have X_2 := fun d os => cell_regrown (hX0.cell 2) d os
  have Y_0 := fun d os => cell_regrown (hY0.cell 0) d os
  have Y_1 := fun d os => cell_regrown (hY0.cell 1) d os
  have Y_2 := fun d os => cell_regrown (hY0.cell 2) d os
  go_wp2_with fail
  refine wp_region_ch 24 [1, 3, 5, 8, 10, 13, 15, 18, 20, 22] hmo (by kernel_rfl) ?_
  simp only [List.take_succ_cons, List.take_zero, List.drop_succ_cons, List.drop_zero]
  repeat (refine wpC_q (by decide) (by decide) (fun K hK => ?_); go_simp; refine hK _ ?_; clear hK K)
  refine wpC_cg (ι := Unit) 18 #[.agg #[.slice pa pn pc, .slice ca cn cc, .slice ja jn jc]] (fun _ => .bool true) (fun _ _ => True) (by decide) (by decide) (by go_simp) (fun w => by go_simp) stable_true (fun _ => stable_true) (fun W hW hΦ => ?_) (fun i0 hs0 => ?_)
  · obtain ⟨p, rfl⟩ := hW
    have hb := below_regrown W0 p.d p.os
    have hb' := hB0.trans (hb.mono hB0.size)
    refine (small_any pa pn pc ca cn cc ja jn jc R _ (hR.out.grow hb' hb'.size)).mono ?_
    rintro e w' ⟨rfl, hbl⟩
    exact ⟨(), by rw [f0.out], trivial, hbl⟩
  repeat (refine wpC_q (by decide) (by decide) (fun K hK => ?_); go_simp; refine hK _ ?_; clear hK K)
  refine wpC_v (ι := Unit) (fun _ => .bool false) (fun _ _ => True) (by decide) (by decide) rfl hs0 (fun _ => stable_true) (fun W _ _ => ⟨(), W, by go_simp, trivial, Below.refl _ _⟩) (fun i1 hs1 => ?_)
  repeat (refine wpC_q (by decide) (by decide) (fun K hK => ?_); go_simp; refine hK _ ?_; clear hK K)
  refine wpC_cg (ι := Unit) 18 #[.agg #[.slice pa2 pn2 pc2, .slice ca2 cn2 cc2, .slice ja2 jn2 jc2]] (fun _ => .bool true) (fun _ _ => True) (by decide) (by decide) (by go_simp) (fun w => by go_simp) hs1 (fun _ => stable_true) (fun W hW hΦ => ?_) (fun i2 hs2 => ?_)
  · obtain ⟨p, rfl⟩ := hW
    have hb := below_regrown W0 p.d p.os
    have hb' := hB0.trans (hb.mono hB0.size)
    refine (small_any pa2 pn2 pc2 ca2 cn2 cc2 ja2 jn2 jc2 R2 _ (hR2.out.grow hb' hb'.size)).mono ?_
    rintro e w' ⟨rfl, hbl⟩
    exact ⟨(), by rw [f1.out], trivial, hbl⟩
  repeat (refine wpC_q (by decide) (by decide) (fun K hK => ?_); go_simp; refine hK _ ?_; clear hK K)
  refine wpC_v (ι := Unit) (fun _ => .bool false) (fun _ _ => True) (by decide) (by decide) rfl hs2 (fun _ => stable_true) (fun W _ _ => ⟨(), W, by go_simp, trivial, Below.refl _ _⟩) (fun i3 hs3 => ?_)
  repeat (refine wpC_q (by decide) (by decide) (fun K hK => ?_); go_simp; refine hK _ ?_; clear hK K)
  refine wpC_cg (ι := Unit) 19 #[.agg #[.slice pa pn pc, .slice ca cn cc, .slice ja jn jc]] (fun _ => .bool true) (fun _ _ => True) (by decide) (by decide) (by go_simp) (fun w => by go_simp) hs3 (fun _ => stable_true) (fun W hW hΦ => ?_) (fun i4 hs4 => ?_)
  · obtain ⟨p, rfl⟩ := hW
    have hb := below_regrown W0 p.d p.os
    have hb' := hB0.trans (hb.mono hB0.size)
    refine (Valid_any pa pn pc ca cn cc ja jn jc R _ (hR.out.grow hb' hb'.size)).mono ?_
    rintro e w' ⟨rfl, hbl⟩
    exact ⟨(), by rw [f2.out], trivial, hbl⟩
  repeat (refine wpC_q (by decide) (by decide) (fun K hK => ?_); go_simp; refine hK _ ?_; clear hK K)
  refine wpC_v (ι := Unit) (fun _ => .bool false) (fun _ _ => True) (by decide) (by decide) rfl hs4 (fun _ => stable_true) (fun W _ _ => ⟨(), W, by go_simp, trivial, Below.refl _ _⟩) (fun i5 hs5 => ?_)
  repeat (refine wpC_q (by decide) (by decide) (fun K hK => ?_); go_simp; refine hK _ ?_; clear hK K)
  refine wpC_cg (ι := Unit) 19 #[.agg #[.slice pa2 pn2 pc2, .slice ca2 cn2 cc2, .slice ja2 jn2 jc2]] (fun _ => .bool true) (fun _ _ => True) (by decide) (by decide) (by go_simp) (fun w => by go_simp) hs5 (fun _ => stable_true) (fun W hW hΦ => ?_) (fun i6 hs6 => ?_)
  · obtain ⟨p, rfl⟩ := hW
    have hb := below_regrown W0 p.d p.os
    have hb' := hB0.trans (hb.mono hB0.size)
    refine (Valid_any pa2 pn2 pc2 ca2 cn2 cc2 ja2 jn2 jc2 R2 _ (hR2.out.grow hb' hb'.size)).mono ?_
    rintro e w' ⟨rfl, hbl⟩
    exact ⟨(), by rw [f3.out], trivial, hbl⟩
  repeat (refine wpC_q (by decide) (by decide) (fun K hK => ?_); go_simp; refine hK _ ?_; clear hK K)
  refine wpC_v (ι := Unit) (fun _ => .bool false) (fun _ _ => True) (by decide) (by decide) rfl hs6 (fun _ => stable_true) (fun W _ _ => ⟨(), W, by go_simp, trivial, Below.refl _ _⟩) (fun i7 hs7 => ?_)
  repeat (refine wpC_q (by decide) (by decide) (fun K hK => ?_); go_simp; refine hK _ ?_; clear hK K)
  refine wpC_cg (ι := Unit) 22 #[.agg #[.slice pa pn pc, .slice ca cn cc, .slice ja jn jc]] (fun _ => .int .i64 (sumL R.ps)) (fun _ _ => True) (by decide) (by decide) (by go_simp) (fun w => by go_simp) hs7 (fun _ => stable_true) (fun W hW hΦ => ?_) (fun i8 hs8 => ?_)
  · obtain ⟨p, rfl⟩ := hW
    have hb := below_regrown W0 p.d p.os
    have hb' := hB0.trans (hb.mono hB0.size)
    refine (rLength_any pa pn pc ca cn cc ja jn jc R _ (hR.out.grow hb' hb'.size) HV1.out.pk (by omega)).mono ?_
    rintro e w' ⟨rfl, hbl⟩
    exact ⟨(), rfl, trivial, hbl⟩
  repeat (refine wpC_q (by decide) (by decide) (fun K hK => ?_); go_simp; refine hK _ ?_; clear hK K)
  refine wpC_cg (ι := Unit) 22 #[.agg #[.slice pa2 pn2 pc2, .slice ca2 cn2 cc2, .slice ja2 jn2 jc2]] (fun _ => .int .i64 (sumL R2.ps)) (fun _ _ => True) (by decide) (by decide) (by go_simp) (fun w => by go_simp) hs8 (fun _ => stable_true) (fun W hW hΦ => ?_) (fun i9 hs9 => ?_)
  · obtain ⟨p, rfl⟩ := hW
    have hb := below_regrown W0 p.d p.os
    have hb' := hB0.trans (hb.mono hB0.size)
    refine (rLength_any pa2 pn2 pc2 ca2 cn2 cc2 ja2 jn2 jc2 R2 _ (hR2.out.grow hb' hb'.size) HV2.out.pk (by omega)).mono ?_
    rintro e w' ⟨rfl, hbl⟩
    exact ⟨(), rfl, trivial, hbl⟩
  repeat (refine wpC_q (by decide) (by decide) (fun K hK => ?_); go_simp; refine hK _ ?_; clear hK K)
  refine wpC_nil ?_
  intro W1 hk0 _
  clear hs0 hs1 hs2 hs3 hs4 hs5 hs6 hs7 hs8 hs9 X_0 X_1 X_2 Y_0 Y_1 Y_2
  have hB1 := hB0.trans (hk0.mono hB0.size)
  have hX1 := hX0.below hk0 hX0.lt
  have hY1 := hY0.below hk0 hY0.lt
  clear es
  have X_0 := hX1.cell 0
  have X_1 := hX1.cell 1
  have X_2 := hX1.cell 2
  have Y_0 := hY1.cell 0
  have Y_1 := hY1.cell 1
  have Y_2 := hY1.cell 2
  simp only [List.getElem?_toArray, List.getElem?_cons_zero, List.getElem?_cons_succ] at X_0 X_1 X_2 Y_0 Y_1 Y_2
  go_wp2_with fail
  clear X_0 X_1 X_2 Y_0 Y_1 Y_2
  refine (Safer_res pa pn pc ca cn cc ja jn jc R pa2 pn2 pc2 ca2 cn2 cc2 ja2 jn2 jc2 R2 W1 (hR.out.grow hB1 hB1.size) (hR2.out.grow hB1 hB1.size) HV1.out HV2.out HSE.out (by omega)).mono ?_
  rintro e W2 ⟨⟨P1, nP1, cP1, P2, nP2, cP2, P3, nP3, cP3, HE, hd⟩, hk1⟩
  have hB2 := hB1.trans (hk1.mono hB1.size)
  have hX2 := hX1.below hk1 hX1.lt
  have hY2 := hY1.below hk1 hY1.lt
  rcases HSM.out with hz | hn
  case inr =>
    rw [hn] at HE hd
    dsimp only at HE hd
    subst HE
    obtain rfl : nP1 = 0 := hd.p.1
    obtain rfl : nP2 = 0 := hd.c.1
    obtain rfl : nP3 = 0 := hd.j.1
    clear hd hn
    have hlX := hX2.lt
    have hlY := hY2.lt
    have X_0 := hX2.cell 0
    have X_1 := hX2.cell 1
    have X_2 := hX2.cell 2
    have Y_0 := hY2.cell 0
    have Y_1 := hY2.cell 1
    have Y_2 := hY2.cell 2
    simp only [List.getElem?_toArray, List.getElem?_cons_zero, List.getElem?_cons_succ] at X_0 X_1 X_2 Y_0 Y_1 Y_2
    go_wp2_with fail
    clear X_0 X_1 X_2 Y_0 Y_1 Y_2
    obtain ⟨W3, hW3⟩ : ∃ W', W' = W2.alloc (.cells #[.slice P1 0 cP1, .slice P2 0 cP2, .slice P3 0 cP3] 26) := ⟨_, rfl⟩
    have hk2 : Below W2.heap.size W2 W3 := by rw [hW3]; exact (Below.refl _ _).alloc (Nat.le_refl _) _
    have HZX : BK W3 W2.heap.size 26 #[.slice P1 0 cP1, .slice P2 0 cP2, .slice P3 0 cP3] := by rw [hW3]; exact BK.new _ _ _
    rw [← hW3]
    clear hW3
    have hB3 := hB2.trans (hk2.mono hB2.size)
    have hX3 := hX2.below hk2 hX2.lt
    have hY3 := hY2.below hk2 hY2.lt
    have HPN : Hid (BK W3 W2.heap.size 26 #[.slice P1 0 cP1, .slice P2 0 cP2, .slice P3 0 cP3]) := HZX
    have hP3 := HPN.out
    clear HZX
    have X_0 := hX3.cell 0
    have X_1 := hX3.cell 1
    have X_2 := hX3.cell 2
    have Y_0 := hY3.cell 0
    have Y_1 := hY3.cell 1
    have Y_2 := hY3.cell 2
    have P_0 := hP3.cell 0
    have P_1 := hP3.cell 1
    have P_2 := hP3.cell 2
    simp only [List.getElem?_toArray, List.getElem?_cons_zero, List.getElem?_cons_succ] at X_0 X_1 X_2 Y_0 Y_1 Y_2 P_0 P_1 P_2
    go_wp2_with fail
    clear X_0 X_1 X_2 Y_0 Y_1 Y_2 P_0 P_1 P_2
    refine (none_any P1 0 cP1 P2 0 cP2 P3 0 cP3 W3 (by omega) (by omega) (by omega)).mono ?_
    rintro e W4 ⟨rfl, hk3⟩
    have hB4 := hB3.trans (hk3.mono hB3.size)
    have hX4 := hX3.below hk3 hX3.lt
    have hY4 := hY3.below hk3 hY3.lt
    have hP4 := hP3.below hk3 hP3.lt
    have X_0 := hX4.cell 0
    have X_1 := hX4.cell 1
    have X_2 := hX4.cell 2
    have Y_0 := hY4.cell 0
    have Y_1 := hY4.cell 1
    have Y_2 := hY4.cell 2
    have P_0 := hP4.cell 0
    have P_1 := hP4.cell 1
    have P_2 := hP4.cell 2
    simp only [List.getElem?_toArray, List.getElem?_cons_zero, List.getElem?_cons_succ] at X_0 X_1 X_2 Y_0 Y_1 Y_2 P_0 P_1 P_2
    go_wp2_with fail
    clear X_0 X_1 X_2 Y_0 Y_1 Y_2 P_0 P_1 P_2
    refine (known_any W4).mono ?_
    rintro e W5 ⟨rfl, hk4⟩
    have hB5 := hB4.trans (hk4.mono hB4.size)
    have hX5 := hX4.below hk4 hX4.lt
    have hY5 := hY4.below hk4 hY4.lt
    have hP5 := hP4.below hk4 hP4.lt
    have X_0 := hX5.cell 0
    have X_1 := hX5.cell 1
    have X_2 := hX5.cell 2
    have Y_0 := hY5.cell 0
    have Y_1 := hY5.cell 1
    have Y_2 := hY5.cell 2
    have P_0 := hP5.cell 0
    have P_1 := hP5.cell 1
    have P_2 := hP5.cell 2
    simp only [List.getElem?_toArray, List.getElem?_cons_zero, List.getElem?_cons_succ] at X_0 X_1 X_2 Y_0 Y_1 Y_2 P_0 P_1 P_2
    go_wp2_with fail
    clear X_0 X_1 X_2 Y_0 Y_1 Y_2 P_0 P_1 P_2
    go_ret
    exact ⟨rfl, hB5⟩
  obtain ⟨T, er, hte⟩ : ∃ T er, sres R R2 = (T, er) := ⟨_, _, rfl⟩
  have hto : sres R2 R = (T, er) := by rw [← sres_symm HV1.out HV2.out HSE.out, hte]
  have hbd := sres_bd R R2
  have hok := sres_ok HV1.out HV2.out HSE.out hz
  have hm1 := sres_metC hz
  have hm2 := sres_metJ hz
  have HCAR := fun (k i j l : Nat) (p q s : Piece) => sres_car (k := k) (i := i) (j := j) (l := l) (p := p) (q := q) (s := s) HV1.out HV2.out HSE.out hz
  have hz2 : (sres R2 R).2 = 0 := by rw [hto, ← hz, hte]
  have hm3 := sres_metC hz2
  have hm4 := sres_metJ hz2
  rw [hto] at hm3 hm4
  rw [hte] at hz HE hd hbd hok hm1 hm2 HCAR
  dsimp only at hz HE hd hbd hok hm1 hm2 hm3 hm4 HCAR
  subst hz
  subst HE
  obtain ⟨t1, t2, t3⟩ := hbd
  have HOK := Lib.hid hok.1
  have HSU := Lib.hid hok.2
  have HM1 := Lib.hid hm1
  have HM2 := Lib.hid hm2
  have HM3 := Lib.hid hm3
  have HM4 := Lib.hid hm4
  have HCA := Lib.hid HCAR
  have HVT := Lib.hid ((val_iff T).2 hok.1)
  have bP1 : nP1 ≤ 2000 := by rw [hd.p.1]; exact t1
  have bP2 : nP2 ≤ 1000 := by rw [hd.c.1]; exact t2
  have bP3 : nP3 ≤ 200 := by rw [hd.j.1]; exact t3
  have HRP := Lib.hid hd
  clear hd hok hm1 hm2 hm3 hm4 HCAR hte hto hz2 HSM
  have hlX := hX2.lt
  have hlY := hY2.lt
  have X_0 := hX2.cell 0
  have X_1 := hX2.cell 1
  have X_2 := hX2.cell 2
  have Y_0 := hY2.cell 0
  have Y_1 := hY2.cell 1
  have Y_2 := hY2.cell 2
  simp only [List.getElem?_toArray, List.getElem?_cons_zero, List.getElem?_cons_succ] at X_0 X_1 X_2 Y_0 Y_1 Y_2
  go_wp2_with fail
  clear X_0 X_1 X_2 Y_0 Y_1 Y_2
  obtain ⟨W3, hW3⟩ : ∃ W', W' = W2.alloc (.cells #[.slice P1 nP1 cP1, .slice P2 nP2 cP2, .slice P3 nP3 cP3] 26) := ⟨_, rfl⟩
  have hk2 : Below W2.heap.size W2 W3 := by rw [hW3]; exact (Below.refl _ _).alloc (Nat.le_refl _) _
  have HZX : BK W3 W2.heap.size 26 #[.slice P1 nP1 cP1, .slice P2 nP2 cP2, .slice P3 nP3 cP3] := by rw [hW3]; exact BK.new _ _ _
  rw [← hW3]
  clear hW3
  have hB3 := hB2.trans (hk2.mono hB2.size)
  have hX3 := hX2.below hk2 hX2.lt
  have hY3 := hY2.below hk2 hY2.lt
  have HPN : Hid (BK W3 W2.heap.size 26 #[.slice P1 nP1 cP1, .slice P2 nP2 cP2, .slice P3 nP3 cP3]) := HZX
  have hP3 := HPN.out
  have HRP := Lib.hid (HRP.out.grow hk2 hk2.size)
  clear HZX
  have X_0 := fun d os => cell_regrown (hX3.cell 0) d os
  have X_1 := fun d os => cell_regrown (hX3.cell 1) d os
  have X_2 := fun d os => cell_regrown (hX3.cell 2) d os
  have P_0 := fun d os => cell_regrown (hP3.cell 0) d os
  have P_1 := fun d os => cell_regrown (hP3.cell 1) d os
  have P_2 := fun d os => cell_regrown (hP3.cell 2) d os
  go_wp2_with fail
  refine wp_region_ch 9 [1, 3, 5, 7] hmo (by kernel_rfl) ?_
  simp only [List.take_succ_cons, List.take_zero, List.drop_succ_cons, List.drop_zero]
  repeat (refine wpC_q (by decide) (by decide) (fun K hK => ?_); go_simp; refine hK _ ?_; clear hK K)
  refine wpC_cg (ι := Unit) 19 #[.agg #[.slice P1 nP1 cP1, .slice P2 nP2 cP2, .slice P3 nP3 cP3]] (fun _ => .bool true) (fun _ _ => True) (by decide) (by decide) (by go_simp) (fun w => by go_simp) stable_true (fun _ => stable_true) (fun W hW hΦ => ?_) (fun i0 hs0 => ?_)
  · obtain ⟨p, rfl⟩ := hW
    have hb := below_regrown W3 p.d p.os
    have hb' := hB3.trans (hb.mono hB3.size)
    refine (Valid_any P1 nP1 cP1 P2 nP2 cP2 P3 nP3 cP3 T _ (HRP.out.grow hb hb.size)).mono ?_
    rintro e w' ⟨rfl, hbl⟩
    exact ⟨(), by rw [HVT.out], trivial, hbl⟩
  repeat (refine wpC_q (by decide) (by decide) (fun K hK => ?_); go_simp; refine hK _ ?_; clear hK K)
  refine wpC_v (ι := Unit) (fun _ => .bool false) (fun _ _ => True) (by decide) (by decide) rfl hs0 (fun _ => stable_true) (fun W _ _ => ⟨(), W, by go_simp, trivial, Below.refl _ _⟩) (fun i1 hs1 => ?_)
  repeat (refine wpC_q (by decide) (by decide) (fun K hK => ?_); go_simp; refine hK _ ?_; clear hK K)
  refine wpC_cg (ι := Unit) 22 #[.agg #[.slice P1 nP1 cP1, .slice P2 nP2 cP2, .slice P3 nP3 cP3]] (fun _ => .int .i64 (sumL R.ps)) (fun _ _ => True) (by decide) (by decide) (by go_simp) (fun w => by go_simp) hs1 (fun _ => stable_true) (fun W hW hΦ => ?_) (fun i2 hs2 => ?_)
  · obtain ⟨p, rfl⟩ := hW
    have hb := below_regrown W3 p.d p.os
    have hb' := hB3.trans (hb.mono hB3.size)
    refine (rLength_any P1 nP1 cP1 P2 nP2 cP2 P3 nP3 cP3 T _ (HRP.out.grow hb hb.size) HOK.out.pk (by omega)).mono ?_
    rintro e w' ⟨rfl, hbl⟩
    exact ⟨(), by rw [HSU.out], trivial, hbl⟩
  repeat (refine wpC_q (by decide) (by decide) (fun K hK => ?_); go_simp; refine hK _ ?_; clear hK K)
  refine wpC_cg (ι := Unit) 22 #[.agg #[.slice pa pn pc, .slice ca cn cc, .slice ja jn jc]] (fun _ => .int .i64 (sumL R.ps)) (fun _ _ => True) (by decide) (by decide) (by go_simp) (fun w => by go_simp) hs2 (fun _ => stable_true) (fun W hW hΦ => ?_) (fun i3 hs3 => ?_)
  · obtain ⟨p, rfl⟩ := hW
    have hb := below_regrown W3 p.d p.os
    have hb' := hB3.trans (hb.mono hB3.size)
    refine (rLength_any pa pn pc ca cn cc ja jn jc R _ (hR.out.grow hb' hb'.size) HV1.out.pk (by omega)).mono ?_
    rintro e w' ⟨rfl, hbl⟩
    exact ⟨(), rfl, trivial, hbl⟩
  repeat (refine wpC_q (by decide) (by decide) (fun K hK => ?_); go_simp; refine hK _ ?_; clear hK K)
  refine wpC_nil ?_
  intro W4 hk3 _
  clear hs0 hs1 hs2 hs3 X_0 X_1 X_2 P_0 P_1 P_2
  have hB4 := hB3.trans (hk3.mono hB3.size)
  have hX4 := hX3.below hk3 hX3.lt
  have hY4 := hY3.below hk3 hY3.lt
  have hP4 := hP3.below hk3 hP3.lt
  have HRP := Lib.hid (HRP.out.grow hk3 hk3.size)
  go_wp2_with fail
  obtain ⟨N, hN⟩ : ∃ N, N = sumL R.ps := ⟨_, rfl⟩
  have HN := Lib.hid hN
  rw [← hN] at hln ⊢
  obtain ⟨Wd, hWd⟩ : ∃ W', W' = W4 := ⟨_, rfl⟩
  rw [← hWd] at hB4 hX4 hY4 hP4 HRP ⊢
  have hBd := hB4
  have HXd := Lib.hid hX4
  have HYd := Lib.hid hY4
  have HPd := Lib.hid hP4
  clear hWd hB4 hX4 hY4 hP4 hN
  go_loopw [7] (fun i wr => ∃ k : Nat, (k : Int) ≤ N ∧ i = .int .i64 k ∧ Below Wd.heap.size Wd wr)
    (fun i _ => N.toNat - (intOf i).toNat)
  case atStart => exact ⟨0, by omega, rfl, Below.refl _ _⟩
  case round =>
    obtain ⟨k, hk, rfl, hbr⟩ := hrel
    have hBr := hBd.trans (hbr.mono hBd.size)
    have hXr := HXd.out.below hbr HXd.out.lt
    have x0 := hXr.cell 0
    have x1 := hXr.cell 1
    have x2 := hXr.cell 2
    simp only [List.getElem?_toArray, List.getElem?_cons_zero, List.getElem?_cons_succ] at x0 x1 x2
    go_wp2_with fail
    refine (rLength_any pa pn pc ca cn cc ja jn jc R _ (hR.out.grow hBr hBr.size) HV1.out.pk (by omega)).mono ?_
    rintro e We ⟨rfl, hbe⟩
    rw [← HN.out]
    clear x0 x1 x2 hXr
    have hde := hbr.trans (hbe.mono hbr.size)
    have hBe := hBd.trans (hde.mono hBd.size)
    have hXe := HXd.out.below hde HXd.out.lt
    have hYe := HYd.out.below hde HYd.out.lt
    have hPe := HPd.out.below hde HPd.out.lt
    have HPE := Lib.hid (HRP.out.grow hde hde.size)
    have hze := hde.size
    by_cases hlt : (k : Int) < N
    case pos =>
      have hk0 : (0 : Int) ≤ (k : Int) := by omega
      obtain ⟨j, hj⟩ := At.exists_ HV1.out.pk hk0 (by rw [← HN.out]; exact hlt)
      obtain ⟨j2, hj2⟩ := At.exists_ HV2.out.pk hk0 (by rw [← HSE.out, ← HN.out]; exact hlt)
      obtain ⟨j3, hj3⟩ := At.exists_ HOK.out.pk hk0 (by rw [HSU.out, ← HN.out]; exact hlt)
      obtain ⟨p, hp⟩ : ∃ p, R.ps[j]? = some p := ⟨_, List.getElem?_eq_getElem hj.1⟩
      obtain ⟨q, hq⟩ : ∃ q, R2.ps[j2]? = some q := ⟨_, List.getElem?_eq_getElem hj2.1⟩
      obtain ⟨s, hs⟩ : ∃ s, T.ps[j3]? = some s := ⟨_, List.getElem?_eq_getElem hj3.1⟩
      obtain ⟨ca1, ca2, ca3⟩ := HCA.out k j j2 j3 p q s hj hj2 hj3 hp hq hs
      obtain ⟨pl, pt, pr, pw, pu⟩ := p
      obtain ⟨ql, qt, qr, qw, qu⟩ := q
      obtain ⟨sl, st, sr, sw, su⟩ := s
      have HC1 := Lib.hid ca1
      have HC2 := Lib.hid ca2
      have HC3 := Lib.hid ca3
      have HJ := Lib.hid (And.intro hj hp)
      have HJ2 := Lib.hid (And.intro hj2 hq)
      have HJ3 := Lib.hid (And.intro hj3 hs)
      clear hj hj2 hj3 hp hq hs ca1 ca2 ca3
      have x0 := fun d os => cell_regrown (hXe.cell 0) d os
      have x1 := fun d os => cell_regrown (hXe.cell 1) d os
      have x2 := fun d os => cell_regrown (hXe.cell 2) d os
      have y0 := fun d os => cell_regrown (hYe.cell 0) d os
      have y1 := fun d os => cell_regrown (hYe.cell 1) d os
      have y2 := fun d os => cell_regrown (hYe.cell 2) d os
      have z0 := fun d os => cell_regrown (hPe.cell 0) d os
      have z1 := fun d os => cell_regrown (hPe.cell 1) d os
      have z2 := fun d os => cell_regrown (hPe.cell 2) d os
      go_wp2_with fail
      refine wp_region_ch3 12 9 10 11 [2, 5, 8] 52 52 52 #[.int .i64 0, .int .i64 0, .int .i64 0, .int .i64 0, .int .i64 0] #[.int .i64 0, .int .i64 0, .int .i64 0, .int .i64 0, .int .i64 0] #[.int .i64 0, .int .i64 0, .int .i64 0, .int .i64 0, .int .i64 0] 8 9 10 _ _ _ hmo (by decide) (by decide) (by decide) (by decide) (by decide) rfl rfl rfl (fun a w => rfl) rfl rfl rfl (fun a w => rfl) rfl rfl rfl (fun a w => rfl) (by kernel_rfl) ?_
      simp only [List.take_succ_cons, List.take_zero, List.drop_succ_cons, List.drop_zero]
      repeat (refine wpC_q (by decide) (by decide) (fun K hK => ?_); go_simp; refine hK _ ?_; clear hK K)
      refine wpC_c (ι := Unit) 30 #[.agg #[.slice pa pn pc, .slice ca cn cc, .slice ja jn jc], .int .i64 k] (fun _ => .agg #[.int .i64 pl, .int .i64 pt, .int .i64 pr, .int .i64 pw, .int .i64 pu]) (fun _ _ => True) (by decide) (by decide) rfl (fun w => by go_simp) stable_true (fun _ => stable_true) (fun W hW hΦ => ?_) (fun i0 hs0 => ?_)
      · obtain ⟨pp, rfl⟩ := hW
        have hb := below_regrown We pp.d pp.os
        have hb' := hBe.trans (hb.mono hBe.size)
        refine (rAt_in k j pa pn pc ca cn cc ja jn jc R _ (hR.out.grow hb' hb'.size) HV1.out.pk (by omega) HJ.out.1 _ HJ.out.2).mono ?_
        rintro e w' ⟨rfl, hbl⟩
        exact ⟨(), rfl, trivial, hbl⟩
      repeat (refine wpC_q (by decide) (by decide) (fun K hK => ?_); go_simp; refine hK _ ?_; clear hK K)
      refine wpC_c (ι := Unit) 30 #[.agg #[.slice pa2 pn2 pc2, .slice ca2 cn2 cc2, .slice ja2 jn2 jc2], .int .i64 k] (fun _ => .agg #[.int .i64 ql, .int .i64 qt, .int .i64 qr, .int .i64 qw, .int .i64 qu]) (fun _ _ => True) (by decide) (by decide) rfl (fun w => by go_simp) hs0 (fun _ => stable_true) (fun W hW hΦ => ?_) (fun i1 hs1 => ?_)
      · obtain ⟨pp, rfl⟩ := hW
        have hb := below_regrown We pp.d pp.os
        have hb' := hBe.trans (hb.mono hBe.size)
        refine (rAt_in k j2 pa2 pn2 pc2 ca2 cn2 cc2 ja2 jn2 jc2 R2 _ (hR2.out.grow hb' hb'.size) HV2.out.pk (by omega) HJ2.out.1 _ HJ2.out.2).mono ?_
        rintro e w' ⟨rfl, hbl⟩
        exact ⟨(), rfl, trivial, hbl⟩
      repeat (refine wpC_q (by decide) (by decide) (fun K hK => ?_); go_simp; refine hK _ ?_; clear hK K)
      refine wpC_c (ι := Unit) 30 #[.agg #[.slice P1 nP1 cP1, .slice P2 nP2 cP2, .slice P3 nP3 cP3], .int .i64 k] (fun _ => .agg #[.int .i64 sl, .int .i64 st, .int .i64 sr, .int .i64 sw, .int .i64 su]) (fun _ _ => True) (by decide) (by decide) rfl (fun w => by go_simp) hs1 (fun _ => stable_true) (fun W hW hΦ => ?_) (fun i2 hs2 => ?_)
      · obtain ⟨pp, rfl⟩ := hW
        have hb := below_regrown We pp.d pp.os
        have hb' := hBe.trans (hb.mono hBe.size)
        refine (rAt_in k j3 P1 nP1 cP1 P2 nP2 cP2 P3 nP3 cP3 T _ (HPE.out.grow hb hb.size) HOK.out.pk (by omega) HJ3.out.1 _ HJ3.out.2).mono ?_
        rintro e w' ⟨rfl, hbl⟩
        exact ⟨(), rfl, trivial, hbl⟩
      repeat (refine wpC_q (by decide) (by decide) (fun K hK => ?_); go_simp; refine hK _ ?_; clear hK K)
      refine wpC_a (by decide) ?_
      refine wpC_a (by decide) ?_
      refine wpC_a (by decide) ?_
      refine wpC_nil ?_
      intro b1 b2 b3 Wf hbf _ ⟨hg1, hg2, hg3⟩ ⟨hne12, hne13, hne23⟩ K1 K2 K3
      clear hs0 hs1 hs2 x0 x1 x2 y0 y1 y2 z0 z1 z2
      have hdf := hde.trans (hbf.mono hze)
      have hzb1 : Wd.heap.size ≤ b1 := by omega
      have hzb2 : Wd.heap.size ≤ b2 := by omega
      have hzb3 : Wd.heap.size ≤ b3 := by omega
      have hn12 : ¬ b1 = b2 := hne12
      have hn13 : ¬ b1 = b3 := hne13
      have hn23 : ¬ b2 = b3 := hne23
      have hn21 : ¬ b2 = b1 := fun e => hne12 e.symm
      have hn31 : ¬ b3 = b1 := fun e => hne13 e.symm
      have hn32 : ¬ b3 = b2 := fun e => hne23 e.symm
      clear hne12 hne13 hne23
      have f1_ := K1.frozen
      have l1_ := K1.lt
      have s1_0 := K1.cell 0
      have s1_1 := K1.cell 1
      have s1_2 := K1.cell 2
      have s1_3 := K1.cell 3
      have s1_4 := K1.cell 4
      have f2_ := K2.frozen
      have l2_ := K2.lt
      have s2_0 := K2.cell 0
      have s2_1 := K2.cell 1
      have s2_2 := K2.cell 2
      have s2_3 := K2.cell 3
      have s2_4 := K2.cell 4
      have f3_ := K3.frozen
      have l3_ := K3.lt
      have s3_0 := K3.cell 0
      have s3_1 := K3.cell 1
      have s3_2 := K3.cell 2
      have s3_3 := K3.cell 3
      have s3_4 := K3.cell 4
      simp only [List.getElem?_toArray, List.getElem?_cons_zero, List.getElem?_cons_succ] at s1_0 s1_1 s1_2 s1_3 s1_4 s2_0 s2_1 s2_2 s2_3 s2_4 s3_0 s3_1 s3_2 s3_3 s3_4
      go_upto_region 12 with fail
      refine wp_wnamed (fun Wg hWg => ?_)
      have G1 : BK Wg b1 52 #[.int .i64 pl, .int .i64 pt, .int .i64 pr, .int .i64 pw, .int .i64 pu] := by
        rw [hWg]
        exact (((((((((((((((K1.set_ 0 _).set_ 1 _).set_ 2 _).set_ 3 _).set_ 4 _).far (p := ⟨b2, 0, none⟩) hn12 _).far (p := ⟨b2, 1, none⟩) hn12 _).far (p := ⟨b2, 2, none⟩) hn12 _).far (p := ⟨b2, 3, none⟩) hn12 _).far (p := ⟨b2, 4, none⟩) hn12 _).far (p := ⟨b3, 0, none⟩) hn13 _).far (p := ⟨b3, 1, none⟩) hn13 _).far (p := ⟨b3, 2, none⟩) hn13 _).far (p := ⟨b3, 3, none⟩) hn13 _).far (p := ⟨b3, 4, none⟩) hn13 _)
      have G2 : BK Wg b2 52 #[.int .i64 ql, .int .i64 qt, .int .i64 qr, .int .i64 qw, .int .i64 qu] := by
        rw [hWg]
        exact (((((((((((((((K2.far (p := ⟨b1, 0, none⟩) hn21 _).far (p := ⟨b1, 1, none⟩) hn21 _).far (p := ⟨b1, 2, none⟩) hn21 _).far (p := ⟨b1, 3, none⟩) hn21 _).far (p := ⟨b1, 4, none⟩) hn21 _).set_ 0 _).set_ 1 _).set_ 2 _).set_ 3 _).set_ 4 _).far (p := ⟨b3, 0, none⟩) hn23 _).far (p := ⟨b3, 1, none⟩) hn23 _).far (p := ⟨b3, 2, none⟩) hn23 _).far (p := ⟨b3, 3, none⟩) hn23 _).far (p := ⟨b3, 4, none⟩) hn23 _)
      have G3 : BK Wg b3 52 #[.int .i64 sl, .int .i64 st, .int .i64 sr, .int .i64 sw, .int .i64 su] := by
        rw [hWg]
        exact (((((((((((((((K3.far (p := ⟨b1, 0, none⟩) hn31 _).far (p := ⟨b1, 1, none⟩) hn31 _).far (p := ⟨b1, 2, none⟩) hn31 _).far (p := ⟨b1, 3, none⟩) hn31 _).far (p := ⟨b1, 4, none⟩) hn31 _).far (p := ⟨b2, 0, none⟩) hn32 _).far (p := ⟨b2, 1, none⟩) hn32 _).far (p := ⟨b2, 2, none⟩) hn32 _).far (p := ⟨b2, 3, none⟩) hn32 _).far (p := ⟨b2, 4, none⟩) hn32 _).set_ 0 _).set_ 1 _).set_ 2 _).set_ 3 _).set_ 4 _)
      have hdg : Below Wd.heap.size Wd Wg := by
        rw [hWg]
        exact (((((((((((((((hdf.setCell hzb1 _).setCell hzb1 _).setCell hzb1 _).setCell hzb1 _).setCell hzb1 _).setCell hzb2 _).setCell hzb2 _).setCell hzb2 _).setCell hzb2 _).setCell hzb2 _).setCell hzb3 _).setCell hzb3 _).setCell hzb3 _).setCell hzb3 _).setCell hzb3 _)
      clear hWg K1 K2 K3 hdf s1_0 s1_1 s1_2 s1_3 s1_4 s2_0 s2_1 s2_2 s2_3 s2_4 s3_0 s3_1 s3_2 s3_3 s3_4 f1_ l1_ f2_ l2_ f3_ l3_
      have f1_ := G1.frozen
      have l1_ := G1.lt
      have s1_0 := G1.cell 0
      have s1_1 := G1.cell 1
      have s1_2 := G1.cell 2
      have s1_3 := G1.cell 3
      have s1_4 := G1.cell 4
      have f2_ := G2.frozen
      have l2_ := G2.lt
      have s2_0 := G2.cell 0
      have s2_1 := G2.cell 1
      have s2_2 := G2.cell 2
      have s2_3 := G2.cell 3
      have s2_4 := G2.cell 4
      have f3_ := G3.frozen
      have l3_ := G3.lt
      have s3_0 := G3.cell 0
      have s3_1 := G3.cell 1
      have s3_2 := G3.cell 2
      have s3_3 := G3.cell 3
      have s3_4 := G3.cell 4
      simp only [List.getElem?_toArray, List.getElem?_cons_zero, List.getElem?_cons_succ] at s1_0 s1_1 s1_2 s1_3 s1_4 s2_0 s2_1 s2_2 s2_3 s2_4 s3_0 s3_1 s3_2 s3_3 s3_4
      go_wp2_with fail
      clear s1_0 s1_1 s1_2 s1_3 s1_4 s2_0 s2_1 s2_2 s2_3 s2_4 s3_0 s3_1 s3_2 s3_3 s3_4 f1_ l1_ f2_ l2_ f3_ l3_
      refine (careful_true ⟨pl, pt, pr, pw, pu⟩ ⟨sl, st, sr, sw, su⟩ HC1.out Wg).mono ?_
      rintro e Wh ⟨rfl, hkh⟩
      have hdh := hdg.trans (hkh.mono hdg.size)
      have H1 := G1.below hkh G1.lt
      have H2 := G2.below hkh G2.lt
      have H3 := G3.below hkh G3.lt
      clear G1 G2 G3
      have f1_ := H1.frozen
      have l1_ := H1.lt
      have s1_0 := H1.cell 0
      have s1_1 := H1.cell 1
      have s1_2 := H1.cell 2
      have s1_3 := H1.cell 3
      have s1_4 := H1.cell 4
      have f2_ := H2.frozen
      have l2_ := H2.lt
      have s2_0 := H2.cell 0
      have s2_1 := H2.cell 1
      have s2_2 := H2.cell 2
      have s2_3 := H2.cell 3
      have s2_4 := H2.cell 4
      have f3_ := H3.frozen
      have l3_ := H3.lt
      have s3_0 := H3.cell 0
      have s3_1 := H3.cell 1
      have s3_2 := H3.cell 2
      have s3_3 := H3.cell 3
      have s3_4 := H3.cell 4
      simp only [List.getElem?_toArray, List.getElem?_cons_zero, List.getElem?_cons_succ] at s1_0 s1_1 s1_2 s1_3 s1_4 s2_0 s2_1 s2_2 s2_3 s2_4 s3_0 s3_1 s3_2 s3_3 s3_4
      go_wp2_with fail
      clear s1_0 s1_1 s1_2 s1_3 s1_4 s2_0 s2_1 s2_2 s2_3 s2_4 s3_0 s3_1 s3_2 s3_3 s3_4 f1_ l1_ f2_ l2_ f3_ l3_
      refine (careful_true ⟨ql, qt, qr, qw, qu⟩ ⟨sl, st, sr, sw, su⟩ HC2.out Wh).mono ?_
      rintro e Wi ⟨rfl, hki⟩
      have hdi := hdh.trans (hki.mono hdh.size)
      have I1 := H1.below hki H1.lt
      have I2 := H2.below hki H2.lt
      have I3 := H3.below hki H3.lt
      clear H1 H2 H3
      by_cases e0 : pt = qt
      case neg =>
        have d0 : (pt == qt) = false := by simpa using e0
        clear e0
        have f1_ := I1.frozen
        have l1_ := I1.lt
        have s1_0 := I1.cell 0
        have s1_1 := I1.cell 1
        have s1_2 := I1.cell 2
        have s1_3 := I1.cell 3
        have s1_4 := I1.cell 4
        have f2_ := I2.frozen
        have l2_ := I2.lt
        have s2_0 := I2.cell 0
        have s2_1 := I2.cell 1
        have s2_2 := I2.cell 2
        have s2_3 := I2.cell 3
        have s2_4 := I2.cell 4
        have f3_ := I3.frozen
        have l3_ := I3.lt
        have s3_0 := I3.cell 0
        have s3_1 := I3.cell 1
        have s3_2 := I3.cell 2
        have s3_3 := I3.cell 3
        have s3_4 := I3.cell 4
        simp only [List.getElem?_toArray, List.getElem?_cons_zero, List.getElem?_cons_succ] at s1_0 s1_1 s1_2 s1_3 s1_4 s2_0 s2_1 s2_2 s2_3 s2_4 s3_0 s3_1 s3_2 s3_3 s3_4
        go_wp2_with fail
        go_roundw
        case rel => exact ⟨k + 1, by omega, by go_num, ((hdi.setCell hzb1 _).setCell hzb2 _).setCell hzb3 _⟩
        case measure => simp [intOf]; omega
      by_cases e1 : pr = qr
      case neg =>
        have d0 : (pt == qt) = true := by simpa using e0
        have d1 : (pr == qr) = false := by simpa using e1
        clear e0 e1
        have f1_ := I1.frozen
        have l1_ := I1.lt
        have s1_0 := I1.cell 0
        have s1_1 := I1.cell 1
        have s1_2 := I1.cell 2
        have s1_3 := I1.cell 3
        have s1_4 := I1.cell 4
        have f2_ := I2.frozen
        have l2_ := I2.lt
        have s2_0 := I2.cell 0
        have s2_1 := I2.cell 1
        have s2_2 := I2.cell 2
        have s2_3 := I2.cell 3
        have s2_4 := I2.cell 4
        have f3_ := I3.frozen
        have l3_ := I3.lt
        have s3_0 := I3.cell 0
        have s3_1 := I3.cell 1
        have s3_2 := I3.cell 2
        have s3_3 := I3.cell 3
        have s3_4 := I3.cell 4
        simp only [List.getElem?_toArray, List.getElem?_cons_zero, List.getElem?_cons_succ] at s1_0 s1_1 s1_2 s1_3 s1_4 s2_0 s2_1 s2_2 s2_3 s2_4 s3_0 s3_1 s3_2 s3_3 s3_4
        go_wp2_with fail
        go_roundw
        case rel => exact ⟨k + 1, by omega, by go_num, ((hdi.setCell hzb1 _).setCell hzb2 _).setCell hzb3 _⟩
        case measure => simp [intOf]; omega
      by_cases e2 : pw = qw
      case neg =>
        have d0 : (pt == qt) = true := by simpa using e0
        have d1 : (pr == qr) = true := by simpa using e1
        have d2 : (pw == qw) = false := by simpa using e2
        clear e0 e1 e2
        have f1_ := I1.frozen
        have l1_ := I1.lt
        have s1_0 := I1.cell 0
        have s1_1 := I1.cell 1
        have s1_2 := I1.cell 2
        have s1_3 := I1.cell 3
        have s1_4 := I1.cell 4
        have f2_ := I2.frozen
        have l2_ := I2.lt
        have s2_0 := I2.cell 0
        have s2_1 := I2.cell 1
        have s2_2 := I2.cell 2
        have s2_3 := I2.cell 3
        have s2_4 := I2.cell 4
        have f3_ := I3.frozen
        have l3_ := I3.lt
        have s3_0 := I3.cell 0
        have s3_1 := I3.cell 1
        have s3_2 := I3.cell 2
        have s3_3 := I3.cell 3
        have s3_4 := I3.cell 4
        simp only [List.getElem?_toArray, List.getElem?_cons_zero, List.getElem?_cons_succ] at s1_0 s1_1 s1_2 s1_3 s1_4 s2_0 s2_1 s2_2 s2_3 s2_4 s3_0 s3_1 s3_2 s3_3 s3_4
        go_wp2_with fail
        go_roundw
        case rel => exact ⟨k + 1, by omega, by go_num, ((hdi.setCell hzb1 _).setCell hzb2 _).setCell hzb3 _⟩
        case measure => simp [intOf]; omega
      by_cases e3 : pu = qu
      case neg =>
        have d0 : (pt == qt) = true := by simpa using e0
        have d1 : (pr == qr) = true := by simpa using e1
        have d2 : (pw == qw) = true := by simpa using e2
        have d3 : (pu == qu) = false := by simpa using e3
        clear e0 e1 e2 e3
        have f1_ := I1.frozen
        have l1_ := I1.lt
        have s1_0 := I1.cell 0
        have s1_1 := I1.cell 1
        have s1_2 := I1.cell 2
        have s1_3 := I1.cell 3
        have s1_4 := I1.cell 4
        have f2_ := I2.frozen
        have l2_ := I2.lt
        have s2_0 := I2.cell 0
        have s2_1 := I2.cell 1
        have s2_2 := I2.cell 2
        have s2_3 := I2.cell 3
        have s2_4 := I2.cell 4
        have f3_ := I3.frozen
        have l3_ := I3.lt
        have s3_0 := I3.cell 0
        have s3_1 := I3.cell 1
        have s3_2 := I3.cell 2
        have s3_3 := I3.cell 3
        have s3_4 := I3.cell 4
        simp only [List.getElem?_toArray, List.getElem?_cons_zero, List.getElem?_cons_succ] at s1_0 s1_1 s1_2 s1_3 s1_4 s2_0 s2_1 s2_2 s2_3 s2_4 s3_0 s3_1 s3_2 s3_3 s3_4
        go_wp2_with fail
        go_roundw
        case rel => exact ⟨k + 1, by omega, by go_num, ((hdi.setCell hzb1 _).setCell hzb2 _).setCell hzb3 _⟩
        case measure => simp [intOf]; omega
      obtain ⟨e5, e6, e7, e8⟩ : st = pt ∧ sr = pr ∧ sw = pw ∧ su = pu := by have h1 := HC3.out (by simp [one, e0, e1, e2, e3]); simpa [one] using h1
      clear HC1 HC2 HC3 HJ HJ2 HJ3
      subst e0 e1 e2 e3 e5 e6 e7 e8
      have f1_ := I1.frozen
      have l1_ := I1.lt
      have s1_0 := I1.cell 0
      have s1_1 := I1.cell 1
      have s1_2 := I1.cell 2
      have s1_3 := I1.cell 3
      have s1_4 := I1.cell 4
      have f2_ := I2.frozen
      have l2_ := I2.lt
      have s2_0 := I2.cell 0
      have s2_1 := I2.cell 1
      have s2_2 := I2.cell 2
      have s2_3 := I2.cell 3
      have s2_4 := I2.cell 4
      have f3_ := I3.frozen
      have l3_ := I3.lt
      have s3_0 := I3.cell 0
      have s3_1 := I3.cell 1
      have s3_2 := I3.cell 2
      have s3_3 := I3.cell 3
      have s3_4 := I3.cell 4
      simp only [List.getElem?_toArray, List.getElem?_cons_zero, List.getElem?_cons_succ] at s1_0 s1_1 s1_2 s1_3 s1_4 s2_0 s2_1 s2_2 s2_3 s2_4 s3_0 s3_1 s3_2 s3_3 s3_4
      go_wp2_with fail
      go_roundw
      case rel => exact ⟨k + 1, by omega, by go_num, ((hdi.setCell hzb1 _).setCell hzb2 _).setCell hzb3 _⟩
      case measure => simp [intOf]; omega
    have hkN : (k : Int) = N := by omega
    obtain ⟨V0, hV0⟩ : ∃ V, V = We := ⟨_, rfl⟩
    rw [← hV0] at hXe hYe hPe HPE hBe ⊢
    clear hV0 hde hbe hbr hBr hlt
    have hX0 := hXe
    have hY0 := hYe
    have hP0 := hPe
    have hB0 := hBe
    clear hXe hYe hPe hBe
    have X_0 := hX0.cell 0
    have X_1 := hX0.cell 1
    have X_2 := hX0.cell 2
    have Y_0 := hY0.cell 0
    have Y_1 := hY0.cell 1
    have Y_2 := hY0.cell 2
    have P_0 := hP0.cell 0
    have P_1 := hP0.cell 1
    have P_2 := hP0.cell 2
    simp only [List.getElem?_toArray, List.getElem?_cons_zero, List.getElem?_cons_succ] at X_0 X_1 X_2 Y_0 Y_1 Y_2 P_0 P_1 P_2
    go_wp2_with fail
    clear X_0 X_1 X_2 Y_0 Y_1 Y_2 P_0 P_1 P_2
    refine (met_true pa pn pc ca cn cc ja jn jc R P1 nP1 cP1 P2 nP2 cP2 P3 nP3 cP3 T V0 (hR.out.grow hB0 hB0.size) HPE.out HM1.out HM2.out (by omega) (by omega) (by omega) (by omega)).mono ?_
    rintro e V1 ⟨rfl, hk0⟩
    have HPE := Lib.hid (HPE.out.grow hk0 hk0.size)
    have hB1 := hB0.trans (hk0.mono hB0.size)
    have hX1 := hX0.below hk0 hX0.lt
    have hY1 := hY0.below hk0 hY0.lt
    have hP1 := hP0.below hk0 hP0.lt
    have X_0 := hX1.cell 0
    have X_1 := hX1.cell 1
    have X_2 := hX1.cell 2
    have Y_0 := hY1.cell 0
    have Y_1 := hY1.cell 1
    have Y_2 := hY1.cell 2
    have P_0 := hP1.cell 0
    have P_1 := hP1.cell 1
    have P_2 := hP1.cell 2
    simp only [List.getElem?_toArray, List.getElem?_cons_zero, List.getElem?_cons_succ] at X_0 X_1 X_2 Y_0 Y_1 Y_2 P_0 P_1 P_2
    go_wp2_with fail
    clear X_0 X_1 X_2 Y_0 Y_1 Y_2 P_0 P_1 P_2
    refine (met_true pa2 pn2 pc2 ca2 cn2 cc2 ja2 jn2 jc2 R2 P1 nP1 cP1 P2 nP2 cP2 P3 nP3 cP3 T V1 (hR2.out.grow hB1 hB1.size) HPE.out HM3.out HM4.out (by omega) (by omega) (by omega) (by omega)).mono ?_
    rintro e V2 ⟨rfl, hk1⟩
    have hB2 := hB1.trans (hk1.mono hB1.size)
    have hX2 := hX1.below hk1 hX1.lt
    have hY2 := hY1.below hk1 hY1.lt
    have hP2 := hP1.below hk1 hP1.lt
    have X_0 := hX2.cell 0
    have X_1 := hX2.cell 1
    have X_2 := hX2.cell 2
    have Y_0 := hY2.cell 0
    have Y_1 := hY2.cell 1
    have Y_2 := hY2.cell 2
    have P_0 := hP2.cell 0
    have P_1 := hP2.cell 1
    have P_2 := hP2.cell 2
    simp only [List.getElem?_toArray, List.getElem?_cons_zero, List.getElem?_cons_succ] at X_0 X_1 X_2 Y_0 Y_1 Y_2 P_0 P_1 P_2
    go_wp2_with fail
    clear X_0 X_1 X_2 Y_0 Y_1 Y_2 P_0 P_1 P_2
    refine (known_any V2).mono ?_
    rintro e V3 ⟨rfl, hk2⟩
    have hB3 := hB2.trans (hk2.mono hB2.size)
    have hX3 := hX2.below hk2 hX2.lt
    have hY3 := hY2.below hk2 hY2.lt
    have hP3 := hP2.below hk2 hP2.lt
    have X_0 := hX3.cell 0
    have X_1 := hX3.cell 1
    have X_2 := hX3.cell 2
    have Y_0 := hY3.cell 0
    have Y_1 := hY3.cell 1
    have Y_2 := hY3.cell 2
    have P_0 := hP3.cell 0
    have P_1 := hP3.cell 1
    have P_2 := hP3.cell 2
    simp only [List.getElem?_toArray, List.getElem?_cons_zero, List.getElem?_cons_succ] at X_0 X_1 X_2 Y_0 Y_1 Y_2 P_0 P_1 P_2
    go_wp2_with fail
    clear X_0 X_1 X_2 Y_0 Y_1 Y_2 P_0 P_1 P_2
    go_ret
    exact ⟨rfl, hB3⟩
end Go.Proofs.Ytomloklckpcaiaa
