/- The law function RoadDiffers, walked: it returns true. -/
import Derived.Test.YtomloklckpcaiaaKnown
import Derived.Test.YtomloklckpcaiaaCmpOut
namespace Go.Proofs.Ytomloklckpcaiaa
open Go.RowKit Go.Shelf Go.Sort Go.Proofs

theorem DS.at_ {w : World} {B n : Nat} {A : Option Addr} {xs : List Dif} (h : SL dC 2 w B A n xs) {k : Nat} (hk : k < xs.length) : ∃ b off, A = some ⟨b, off, none⟩ ∧ b < B ∧
    w.cell? ⟨b, off + k * 2, none⟩ = some (.int .i64 xs[k].fr) ∧ w.cell? ⟨b, off + k * 2 + 1, none⟩ = some (.int .i64 xs[k].til) := by
  obtain ⟨b, off, e, hb, hc⟩ := h.at_ hk
  exact ⟨b, off, e, hb, hc 0 _ rfl, hc 1 _ rfl⟩
set_option maxRecDepth 100000 in
set_option maxHeartbeats 4000000 in
theorem RoadDiffers_walk (tol : Int) (pa : Option Addr) (pn pc : Nat) (ca : Option Addr) (cn cc : Nat) (ja : Option Addr) (jn jc : Nat) (R : Road) (pa2 : Option Addr) (pn2 pc2 : Nat) (ca2 : Option Addr) (cn2 cc2 : Nat) (ja2 : Option Addr) (jn2 jc2 : Nat) (R2 : Road) (w : World) (h : RD w w.heap.size pa pn ca cn ja jn R) (h2 : RD w w.heap.size pa2 pn2 ca2 cn2 ja2 jn2 R2) :
    Calls Try.prog 11 #[.agg #[.slice pa pn pc, .slice ca cn cc, .slice ja jn jc], .agg #[.slice pa2 pn2 pc2, .slice ca2 cn2 cc2, .slice ja2 jn2 jc2], .int .i64 tol] w fun e w' => e = .returned (.bool true) ∧ Below w.heap.size w w' := by
  have hmo : Try.prog.follows .mixedOrders = true := by kernel_rfl
  have hR := Lib.hid h
  have hpl := Lib.hid h.p.1
  have hR2 := Lib.hid h2
  have hpl2 := Lib.hid h2.p.1
  clear h h2
  go_enter Try.func11, Try.ntmps11
  go_wp2_with fail
  obtain ⟨W0, hW0⟩ : ∃ W0, W0 = (w.alloc (.cells #[.slice pa pn pc, .slice ca cn cc, .slice ja jn jc] 26)).alloc (.cells #[.slice pa2 pn2 pc2, .slice ca2 cn2 cc2, .slice ja2 jn2 jc2] 26) := ⟨_, rfl⟩
  have hB0 : Below w.heap.size w W0 := by rw [hW0]; exact ((Below.refl w.heap.size w).alloc (Nat.le_refl _) _).alloc (by simp) _
  have hX0 : BK W0 w.heap.size 26 #[.slice pa pn pc, .slice ca cn cc, .slice ja jn jc] := by rw [hW0]; exact (BK.new w _ _).alloc _
  have hY0 : BK W0 (w.heap.size + 1) 26 #[.slice pa2 pn2 pc2, .slice ca2 cn2 cc2, .slice ja2 jn2 jc2] := by rw [hW0]; have := BK.new (w.alloc (.cells #[.slice pa pn pc, .slice ca cn cc, .slice ja jn jc] 26)) 26 #[.slice pa2 pn2 pc2, .slice ca2 cn2 cc2, .slice ja2 jn2 jc2]; rw [World.size_alloc] at this; exact this
  rw [← hW0]
  clear hW0
  have X_0 := hX0.cell 0
  have X_1 := hX0.cell 1
  have X_2 := hX0.cell 2
  have Y_0 := hY0.cell 0
  have Y_1 := hY0.cell 1
  have Y_2 := hY0.cell 2
  simp only [List.getElem?_toArray, List.getElem?_cons_zero, List.getElem?_cons_succ] at X_0 X_1 X_2 Y_0 Y_1 Y_2
  go_wp2_with fail
  clear X_0 X_1 X_2 Y_0 Y_1 Y_2
  refine (small_any pa pn pc ca cn cc ja jn jc R W0 (hR.out.grow hB0 hB0.size)).mono ?_
  rintro e W1 ⟨rfl, hk0⟩
  have hB1 := hB0.trans (hk0.mono hB0.size)
  have hX1 := hX0.below hk0 hX0.lt
  have hY1 := hY0.below hk0 hY0.lt
  cases hs : sml R
  · have X_0 := hX1.cell 0
    have X_1 := hX1.cell 1
    have X_2 := hX1.cell 2
    have Y_0 := hY1.cell 0
    have Y_1 := hY1.cell 1
    have Y_2 := hY1.cell 2
    simp only [List.getElem?_toArray, List.getElem?_cons_zero, List.getElem?_cons_succ] at X_0 X_1 X_2 Y_0 Y_1 Y_2
    go_wp2_with fail
    clear X_0 X_1 X_2 Y_0 Y_1 Y_2
    refine (known_any W1).mono ?_
    rintro e W2 ⟨rfl, hk1⟩
    have hB2 := hB1.trans (hk1.mono hB1.size)
    have hX2 := hX1.below hk1 hX1.lt
    have hY2 := hY1.below hk1 hY1.lt
    have X_0 := hX2.cell 0
    have X_1 := hX2.cell 1
    have X_2 := hX2.cell 2
    have Y_0 := hY2.cell 0
    have Y_1 := hY2.cell 1
    have Y_2 := hY2.cell 2
    simp only [List.getElem?_toArray, List.getElem?_cons_zero, List.getElem?_cons_succ] at X_0 X_1 X_2 Y_0 Y_1 Y_2
    go_wp2_with fail
    clear X_0 X_1 X_2 Y_0 Y_1 Y_2
    go_ret
    exact ⟨rfl, hB2⟩
  have HS := Lib.hid hs
  clear hs
  have X_0 := hX1.cell 0
  have X_1 := hX1.cell 1
  have X_2 := hX1.cell 2
  have Y_0 := hY1.cell 0
  have Y_1 := hY1.cell 1
  have Y_2 := hY1.cell 2
  simp only [List.getElem?_toArray, List.getElem?_cons_zero, List.getElem?_cons_succ] at X_0 X_1 X_2 Y_0 Y_1 Y_2
  go_wp2_with fail
  clear X_0 X_1 X_2 Y_0 Y_1 Y_2
  refine (small_any pa2 pn2 pc2 ca2 cn2 cc2 ja2 jn2 jc2 R2 W1 (hR2.out.grow hB1 hB1.size)).mono ?_
  rintro e W2 ⟨rfl, hk1⟩
  have hB2 := hB1.trans (hk1.mono hB1.size)
  have hX2 := hX1.below hk1 hX1.lt
  have hY2 := hY1.below hk1 hY1.lt
  cases hs : sml R2
  · have X_0 := hX2.cell 0
    have X_1 := hX2.cell 1
    have X_2 := hX2.cell 2
    have Y_0 := hY2.cell 0
    have Y_1 := hY2.cell 1
    have Y_2 := hY2.cell 2
    simp only [List.getElem?_toArray, List.getElem?_cons_zero, List.getElem?_cons_succ] at X_0 X_1 X_2 Y_0 Y_1 Y_2
    go_wp2_with fail
    clear X_0 X_1 X_2 Y_0 Y_1 Y_2
    refine (known_any W2).mono ?_
    rintro e W3 ⟨rfl, hk2⟩
    have hB3 := hB2.trans (hk2.mono hB2.size)
    have hX3 := hX2.below hk2 hX2.lt
    have hY3 := hY2.below hk2 hY2.lt
    have X_0 := hX3.cell 0
    have X_1 := hX3.cell 1
    have X_2 := hX3.cell 2
    have Y_0 := hY3.cell 0
    have Y_1 := hY3.cell 1
    have Y_2 := hY3.cell 2
    simp only [List.getElem?_toArray, List.getElem?_cons_zero, List.getElem?_cons_succ] at X_0 X_1 X_2 Y_0 Y_1 Y_2
    go_wp2_with fail
    clear X_0 X_1 X_2 Y_0 Y_1 Y_2
    go_ret
    exact ⟨rfl, hB3⟩
  have HS2 := Lib.hid hs
  clear hs
  have X_0 := hX2.cell 0
  have X_1 := hX2.cell 1
  have X_2 := hX2.cell 2
  have Y_0 := hY2.cell 0
  have Y_1 := hY2.cell 1
  have Y_2 := hY2.cell 2
  simp only [List.getElem?_toArray, List.getElem?_cons_zero, List.getElem?_cons_succ] at X_0 X_1 X_2 Y_0 Y_1 Y_2
  go_wp2_with fail
  clear X_0 X_1 X_2 Y_0 Y_1 Y_2
  refine (Valid_any pa pn pc ca cn cc ja jn jc R W2 (hR.out.grow hB2 hB2.size)).mono ?_
  rintro e W3 ⟨rfl, hk2⟩
  have hB3 := hB2.trans (hk2.mono hB2.size)
  have hX3 := hX2.below hk2 hX2.lt
  have hY3 := hY2.below hk2 hY2.lt
  cases hv : val R
  · have X_0 := hX3.cell 0
    have X_1 := hX3.cell 1
    have X_2 := hX3.cell 2
    have Y_0 := hY3.cell 0
    have Y_1 := hY3.cell 1
    have Y_2 := hY3.cell 2
    simp only [List.getElem?_toArray, List.getElem?_cons_zero, List.getElem?_cons_succ] at X_0 X_1 X_2 Y_0 Y_1 Y_2
    go_wp2_with fail
    clear X_0 X_1 X_2 Y_0 Y_1 Y_2
    refine (known_any W3).mono ?_
    rintro e W4 ⟨rfl, hk3⟩
    have hB4 := hB3.trans (hk3.mono hB3.size)
    have hX4 := hX3.below hk3 hX3.lt
    have hY4 := hY3.below hk3 hY3.lt
    have X_0 := hX4.cell 0
    have X_1 := hX4.cell 1
    have X_2 := hX4.cell 2
    have Y_0 := hY4.cell 0
    have Y_1 := hY4.cell 1
    have Y_2 := hY4.cell 2
    simp only [List.getElem?_toArray, List.getElem?_cons_zero, List.getElem?_cons_succ] at X_0 X_1 X_2 Y_0 Y_1 Y_2
    go_wp2_with fail
    clear X_0 X_1 X_2 Y_0 Y_1 Y_2
    go_ret
    exact ⟨rfl, hB4⟩
  have hv' := Lib.hid ((val_iff R).1 hv)
  clear hv
  have X_0 := hX3.cell 0
  have X_1 := hX3.cell 1
  have X_2 := hX3.cell 2
  have Y_0 := hY3.cell 0
  have Y_1 := hY3.cell 1
  have Y_2 := hY3.cell 2
  simp only [List.getElem?_toArray, List.getElem?_cons_zero, List.getElem?_cons_succ] at X_0 X_1 X_2 Y_0 Y_1 Y_2
  go_wp2_with fail
  clear X_0 X_1 X_2 Y_0 Y_1 Y_2
  refine (Valid_any pa2 pn2 pc2 ca2 cn2 cc2 ja2 jn2 jc2 R2 W3 (hR2.out.grow hB3 hB3.size)).mono ?_
  rintro e W4 ⟨rfl, hk3⟩
  have hB4 := hB3.trans (hk3.mono hB3.size)
  have hX4 := hX3.below hk3 hX3.lt
  have hY4 := hY3.below hk3 hY3.lt
  cases hv : val R2
  · have X_0 := hX4.cell 0
    have X_1 := hX4.cell 1
    have X_2 := hX4.cell 2
    have Y_0 := hY4.cell 0
    have Y_1 := hY4.cell 1
    have Y_2 := hY4.cell 2
    simp only [List.getElem?_toArray, List.getElem?_cons_zero, List.getElem?_cons_succ] at X_0 X_1 X_2 Y_0 Y_1 Y_2
    go_wp2_with fail
    clear X_0 X_1 X_2 Y_0 Y_1 Y_2
    refine (known_any W4).mono ?_
    rintro e W5 ⟨rfl, hk4⟩
    have hB5 := hB4.trans (hk4.mono hB4.size)
    have hX5 := hX4.below hk4 hX4.lt
    have hY5 := hY4.below hk4 hY4.lt
    have X_0 := hX5.cell 0
    have X_1 := hX5.cell 1
    have X_2 := hX5.cell 2
    have Y_0 := hY5.cell 0
    have Y_1 := hY5.cell 1
    have Y_2 := hY5.cell 2
    simp only [List.getElem?_toArray, List.getElem?_cons_zero, List.getElem?_cons_succ] at X_0 X_1 X_2 Y_0 Y_1 Y_2
    go_wp2_with fail
    clear X_0 X_1 X_2 Y_0 Y_1 Y_2
    go_ret
    exact ⟨rfl, hB5⟩
  have hv2' := Lib.hid ((val_iff R2).1 hv)
  clear hv
  have hpn : pn ≤ 2000 := by rw [hpl.out]; exact hv'.out.p2
  have hpn2 : pn2 ≤ 2000 := by rw [hpl2.out]; exact hv2'.out.p2
  have hln := hv'.out.len
  have hln2 := hv2'.out.len
  by_cases hs : sumL R.ps = sumL R2.ps
  case neg =>
    have HO : Hid (sumL R.ps = sumL R2.ps → inR tol 0 2000 = false) := fun h => absurd h hs
    have X_0 := hX4.cell 0
    have X_1 := hX4.cell 1
    have X_2 := hX4.cell 2
    have Y_0 := hY4.cell 0
    have Y_1 := hY4.cell 1
    have Y_2 := hY4.cell 2
    simp only [List.getElem?_toArray, List.getElem?_cons_zero, List.getElem?_cons_succ] at X_0 X_1 X_2 Y_0 Y_1 Y_2
    go_wp2_with fail
    clear X_0 X_1 X_2 Y_0 Y_1 Y_2
    refine (Compare_out tol pa pn pc ca cn cc ja jn jc R pa2 pn2 pc2 ca2 cn2 cc2 ja2 jn2 jc2 R2 W4 (hR.out.grow hB4 hB4.size) (hR2.out.grow hB4 hB4.size) hv'.out hv2'.out HO.out).mono ?_
    rintro e W5 ⟨rfl, hk4⟩
    have hB5 := hB4.trans (hk4.mono hB4.size)
    have hX5 := hX4.below hk4 hX4.lt
    have hY5 := hY4.below hk4 hY4.lt
    have X_0 := fun d os => cell_regrown (hX5.cell 0) d os
    have X_1 := fun d os => cell_regrown (hX5.cell 1) d os
    have X_2 := fun d os => cell_regrown (hX5.cell 2) d os
    have Y_0 := fun d os => cell_regrown (hY5.cell 0) d os
    have Y_1 := fun d os => cell_regrown (hY5.cell 1) d os
    have Y_2 := fun d os => cell_regrown (hY5.cell 2) d os
    have es : (sumL R.ps != sumL R2.ps) = true := by simpa using hs
    go_wp2_with fail
    refine wp_region_ch 12 [1, 3] hmo (by kernel_rfl) ?_
    simp only [List.take_succ_cons, List.take_zero, List.drop_succ_cons, List.drop_zero]
    repeat (refine wpC_q (by decide) (by decide) (fun K hK => ?_); go_simp; refine hK _ ?_; clear hK K)
    refine wpC_c (ι := Unit) 22 #[.agg #[.slice pa pn pc, .slice ca cn cc, .slice ja jn jc]] (fun _ => .int .i64 (sumL R.ps)) (fun _ _ => True) (by decide) (by decide) rfl (fun w => by go_simp) stable_true (fun _ => stable_true) (fun W hW hΦ => ?_) (fun i1 hs1 => ?_)
    · obtain ⟨p, rfl⟩ := hW
      have hb := below_regrown W5 p.d p.os
      have hb' := hB5.trans (hb.mono hB5.size)
      refine (rLength_any pa pn pc ca cn cc ja jn jc R _ (hR.out.grow hb' hb'.size) hv'.out.pk (by omega)).mono ?_
      rintro e w' ⟨rfl, hbl⟩
      exact ⟨(), rfl, trivial, hbl⟩
    repeat (refine wpC_q (by decide) (by decide) (fun K hK => ?_); go_simp; refine hK _ ?_; clear hK K)
    refine wpC_c (ι := Unit) 22 #[.agg #[.slice pa2 pn2 pc2, .slice ca2 cn2 cc2, .slice ja2 jn2 jc2]] (fun _ => .int .i64 (sumL R2.ps)) (fun _ _ => True) (by decide) (by decide) rfl (fun w => by go_simp) hs1 (fun _ => stable_true) (fun W hW hΦ => ?_) (fun i2 hs2 => ?_)
    · obtain ⟨p, rfl⟩ := hW
      have hb := below_regrown W5 p.d p.os
      have hb' := hB5.trans (hb.mono hB5.size)
      refine (rLength_any pa2 pn2 pc2 ca2 cn2 cc2 ja2 jn2 jc2 R2 _ (hR2.out.grow hb' hb'.size) hv2'.out.pk (by omega)).mono ?_
      rintro e w' ⟨rfl, hbl⟩
      exact ⟨(), rfl, trivial, hbl⟩
    repeat (refine wpC_q (by decide) (by decide) (fun K hK => ?_); go_simp; refine hK _ ?_; clear hK K)
    refine wpC_nil ?_
    intro W6 hk5 _
    clear hs1 hs2 X_0 X_1 X_2 Y_0 Y_1 Y_2
    have hB6 := hB5.trans (hk5.mono hB5.size)
    have hX6 := hX5.below hk5 hX5.lt
    have hY6 := hY5.below hk5 hY5.lt
    have X_0 := hX6.cell 0
    have X_1 := hX6.cell 1
    have X_2 := hX6.cell 2
    have Y_0 := hY6.cell 0
    have Y_1 := hY6.cell 1
    have Y_2 := hY6.cell 2
    simp only [List.getElem?_toArray, List.getElem?_cons_zero, List.getElem?_cons_succ] at X_0 X_1 X_2 Y_0 Y_1 Y_2
    go_wp2_with fail
    clear X_0 X_1 X_2 Y_0 Y_1 Y_2
    refine (known_any W6).mono ?_
    rintro e W7 ⟨rfl, hk6⟩
    have hB7 := hB6.trans (hk6.mono hB6.size)
    have hX7 := hX6.below hk6 hX6.lt
    have hY7 := hY6.below hk6 hY6.lt
    have X_0 := hX7.cell 0
    have X_1 := hX7.cell 1
    have X_2 := hX7.cell 2
    have Y_0 := hY7.cell 0
    have Y_1 := hY7.cell 1
    have Y_2 := hY7.cell 2
    simp only [List.getElem?_toArray, List.getElem?_cons_zero, List.getElem?_cons_succ] at X_0 X_1 X_2 Y_0 Y_1 Y_2
    go_wp2_with fail
    clear X_0 X_1 X_2 Y_0 Y_1 Y_2
    go_ret
    exact ⟨rfl, hB7⟩
  have es : (sumL R.ps != sumL R2.ps) = false := by simpa using hs
  have hs' := Lib.hid hs
  clear hs
  by_cases ht0 : tol < 0
  case pos =>
    have HO : Hid (sumL R.ps = sumL R2.ps → inR tol 0 2000 = false) := fun _ => by simp [inR]; omega
    have X_0 := hX4.cell 0
    have X_1 := hX4.cell 1
    have X_2 := hX4.cell 2
    have Y_0 := hY4.cell 0
    have Y_1 := hY4.cell 1
    have Y_2 := hY4.cell 2
    simp only [List.getElem?_toArray, List.getElem?_cons_zero, List.getElem?_cons_succ] at X_0 X_1 X_2 Y_0 Y_1 Y_2
    go_wp2_with fail
    clear X_0 X_1 X_2 Y_0 Y_1 Y_2
    refine (Compare_out tol pa pn pc ca cn cc ja jn jc R pa2 pn2 pc2 ca2 cn2 cc2 ja2 jn2 jc2 R2 W4 (hR.out.grow hB4 hB4.size) (hR2.out.grow hB4 hB4.size) hv'.out hv2'.out HO.out).mono ?_
    rintro e W5 ⟨rfl, hk4⟩
    have hB5 := hB4.trans (hk4.mono hB4.size)
    have hX5 := hX4.below hk4 hX4.lt
    have hY5 := hY4.below hk4 hY4.lt
    have X_0 := fun d os => cell_regrown (hX5.cell 0) d os
    have X_1 := fun d os => cell_regrown (hX5.cell 1) d os
    have X_2 := fun d os => cell_regrown (hX5.cell 2) d os
    have Y_0 := fun d os => cell_regrown (hY5.cell 0) d os
    have Y_1 := fun d os => cell_regrown (hY5.cell 1) d os
    have Y_2 := fun d os => cell_regrown (hY5.cell 2) d os
    have e0 : decide (tol < 0) = true := by simpa using ht0
    go_wp2_with fail
    refine wp_region_ch 12 [1, 3] hmo (by kernel_rfl) ?_
    simp only [List.take_succ_cons, List.take_zero, List.drop_succ_cons, List.drop_zero]
    repeat (refine wpC_q (by decide) (by decide) (fun K hK => ?_); go_simp; refine hK _ ?_; clear hK K)
    refine wpC_c (ι := Unit) 22 #[.agg #[.slice pa pn pc, .slice ca cn cc, .slice ja jn jc]] (fun _ => .int .i64 (sumL R.ps)) (fun _ _ => True) (by decide) (by decide) rfl (fun w => by go_simp) stable_true (fun _ => stable_true) (fun W hW hΦ => ?_) (fun i1 hs1 => ?_)
    · obtain ⟨p, rfl⟩ := hW
      have hb := below_regrown W5 p.d p.os
      have hb' := hB5.trans (hb.mono hB5.size)
      refine (rLength_any pa pn pc ca cn cc ja jn jc R _ (hR.out.grow hb' hb'.size) hv'.out.pk (by omega)).mono ?_
      rintro e w' ⟨rfl, hbl⟩
      exact ⟨(), rfl, trivial, hbl⟩
    repeat (refine wpC_q (by decide) (by decide) (fun K hK => ?_); go_simp; refine hK _ ?_; clear hK K)
    refine wpC_c (ι := Unit) 22 #[.agg #[.slice pa2 pn2 pc2, .slice ca2 cn2 cc2, .slice ja2 jn2 jc2]] (fun _ => .int .i64 (sumL R2.ps)) (fun _ _ => True) (by decide) (by decide) rfl (fun w => by go_simp) hs1 (fun _ => stable_true) (fun W hW hΦ => ?_) (fun i2 hs2 => ?_)
    · obtain ⟨p, rfl⟩ := hW
      have hb := below_regrown W5 p.d p.os
      have hb' := hB5.trans (hb.mono hB5.size)
      refine (rLength_any pa2 pn2 pc2 ca2 cn2 cc2 ja2 jn2 jc2 R2 _ (hR2.out.grow hb' hb'.size) hv2'.out.pk (by omega)).mono ?_
      rintro e w' ⟨rfl, hbl⟩
      exact ⟨(), rfl, trivial, hbl⟩
    repeat (refine wpC_q (by decide) (by decide) (fun K hK => ?_); go_simp; refine hK _ ?_; clear hK K)
    refine wpC_nil ?_
    intro W6 hk5 _
    clear hs1 hs2 X_0 X_1 X_2 Y_0 Y_1 Y_2
    have hB6 := hB5.trans (hk5.mono hB5.size)
    have hX6 := hX5.below hk5 hX5.lt
    have hY6 := hY5.below hk5 hY5.lt
    have X_0 := hX6.cell 0
    have X_1 := hX6.cell 1
    have X_2 := hX6.cell 2
    have Y_0 := hY6.cell 0
    have Y_1 := hY6.cell 1
    have Y_2 := hY6.cell 2
    simp only [List.getElem?_toArray, List.getElem?_cons_zero, List.getElem?_cons_succ] at X_0 X_1 X_2 Y_0 Y_1 Y_2
    go_wp2_with fail
    clear X_0 X_1 X_2 Y_0 Y_1 Y_2
    refine (known_any W6).mono ?_
    rintro e W7 ⟨rfl, hk6⟩
    have hB7 := hB6.trans (hk6.mono hB6.size)
    have hX7 := hX6.below hk6 hX6.lt
    have hY7 := hY6.below hk6 hY6.lt
    have X_0 := hX7.cell 0
    have X_1 := hX7.cell 1
    have X_2 := hX7.cell 2
    have Y_0 := hY7.cell 0
    have Y_1 := hY7.cell 1
    have Y_2 := hY7.cell 2
    simp only [List.getElem?_toArray, List.getElem?_cons_zero, List.getElem?_cons_succ] at X_0 X_1 X_2 Y_0 Y_1 Y_2
    go_wp2_with fail
    clear X_0 X_1 X_2 Y_0 Y_1 Y_2
    go_ret
    exact ⟨rfl, hB7⟩
  have e0 : decide (tol < 0) = false := by simpa using ht0
  by_cases ht1 : 2000 < tol
  case pos =>
    have HO : Hid (sumL R.ps = sumL R2.ps → inR tol 0 2000 = false) := fun _ => by simp [inR]; omega
    have X_0 := hX4.cell 0
    have X_1 := hX4.cell 1
    have X_2 := hX4.cell 2
    have Y_0 := hY4.cell 0
    have Y_1 := hY4.cell 1
    have Y_2 := hY4.cell 2
    simp only [List.getElem?_toArray, List.getElem?_cons_zero, List.getElem?_cons_succ] at X_0 X_1 X_2 Y_0 Y_1 Y_2
    go_wp2_with fail
    clear X_0 X_1 X_2 Y_0 Y_1 Y_2
    refine (Compare_out tol pa pn pc ca cn cc ja jn jc R pa2 pn2 pc2 ca2 cn2 cc2 ja2 jn2 jc2 R2 W4 (hR.out.grow hB4 hB4.size) (hR2.out.grow hB4 hB4.size) hv'.out hv2'.out HO.out).mono ?_
    rintro e W5 ⟨rfl, hk4⟩
    have hB5 := hB4.trans (hk4.mono hB4.size)
    have hX5 := hX4.below hk4 hX4.lt
    have hY5 := hY4.below hk4 hY4.lt
    have X_0 := fun d os => cell_regrown (hX5.cell 0) d os
    have X_1 := fun d os => cell_regrown (hX5.cell 1) d os
    have X_2 := fun d os => cell_regrown (hX5.cell 2) d os
    have Y_0 := fun d os => cell_regrown (hY5.cell 0) d os
    have Y_1 := fun d os => cell_regrown (hY5.cell 1) d os
    have Y_2 := fun d os => cell_regrown (hY5.cell 2) d os
    have e1 : decide (2000 < tol) = true := by simpa using ht1
    go_wp2_with fail
    refine wp_region_ch 12 [1, 3] hmo (by kernel_rfl) ?_
    simp only [List.take_succ_cons, List.take_zero, List.drop_succ_cons, List.drop_zero]
    repeat (refine wpC_q (by decide) (by decide) (fun K hK => ?_); go_simp; refine hK _ ?_; clear hK K)
    refine wpC_c (ι := Unit) 22 #[.agg #[.slice pa pn pc, .slice ca cn cc, .slice ja jn jc]] (fun _ => .int .i64 (sumL R.ps)) (fun _ _ => True) (by decide) (by decide) rfl (fun w => by go_simp) stable_true (fun _ => stable_true) (fun W hW hΦ => ?_) (fun i1 hs1 => ?_)
    · obtain ⟨p, rfl⟩ := hW
      have hb := below_regrown W5 p.d p.os
      have hb' := hB5.trans (hb.mono hB5.size)
      refine (rLength_any pa pn pc ca cn cc ja jn jc R _ (hR.out.grow hb' hb'.size) hv'.out.pk (by omega)).mono ?_
      rintro e w' ⟨rfl, hbl⟩
      exact ⟨(), rfl, trivial, hbl⟩
    repeat (refine wpC_q (by decide) (by decide) (fun K hK => ?_); go_simp; refine hK _ ?_; clear hK K)
    refine wpC_c (ι := Unit) 22 #[.agg #[.slice pa2 pn2 pc2, .slice ca2 cn2 cc2, .slice ja2 jn2 jc2]] (fun _ => .int .i64 (sumL R2.ps)) (fun _ _ => True) (by decide) (by decide) rfl (fun w => by go_simp) hs1 (fun _ => stable_true) (fun W hW hΦ => ?_) (fun i2 hs2 => ?_)
    · obtain ⟨p, rfl⟩ := hW
      have hb := below_regrown W5 p.d p.os
      have hb' := hB5.trans (hb.mono hB5.size)
      refine (rLength_any pa2 pn2 pc2 ca2 cn2 cc2 ja2 jn2 jc2 R2 _ (hR2.out.grow hb' hb'.size) hv2'.out.pk (by omega)).mono ?_
      rintro e w' ⟨rfl, hbl⟩
      exact ⟨(), rfl, trivial, hbl⟩
    repeat (refine wpC_q (by decide) (by decide) (fun K hK => ?_); go_simp; refine hK _ ?_; clear hK K)
    refine wpC_nil ?_
    intro W6 hk5 _
    clear hs1 hs2 X_0 X_1 X_2 Y_0 Y_1 Y_2
    have hB6 := hB5.trans (hk5.mono hB5.size)
    have hX6 := hX5.below hk5 hX5.lt
    have hY6 := hY5.below hk5 hY5.lt
    have X_0 := hX6.cell 0
    have X_1 := hX6.cell 1
    have X_2 := hX6.cell 2
    have Y_0 := hY6.cell 0
    have Y_1 := hY6.cell 1
    have Y_2 := hY6.cell 2
    simp only [List.getElem?_toArray, List.getElem?_cons_zero, List.getElem?_cons_succ] at X_0 X_1 X_2 Y_0 Y_1 Y_2
    go_wp2_with fail
    clear X_0 X_1 X_2 Y_0 Y_1 Y_2
    refine (known_any W6).mono ?_
    rintro e W7 ⟨rfl, hk6⟩
    have hB7 := hB6.trans (hk6.mono hB6.size)
    have hX7 := hX6.below hk6 hX6.lt
    have hY7 := hY6.below hk6 hY6.lt
    have X_0 := hX7.cell 0
    have X_1 := hX7.cell 1
    have X_2 := hX7.cell 2
    have Y_0 := hY7.cell 0
    have Y_1 := hY7.cell 1
    have Y_2 := hY7.cell 2
    simp only [List.getElem?_toArray, List.getElem?_cons_zero, List.getElem?_cons_succ] at X_0 X_1 X_2 Y_0 Y_1 Y_2
    go_wp2_with fail
    clear X_0 X_1 X_2 Y_0 Y_1 Y_2
    go_ret
    exact ⟨rfl, hB7⟩
  have e1 : decide (2000 < tol) = false := by simpa using ht1
  have HT : Hid (inR tol 0 2000 = true) := by show _ = _; simp [inR]; omega
  have X_0 := hX4.cell 0
  have X_1 := hX4.cell 1
  have X_2 := hX4.cell 2
  have Y_0 := hY4.cell 0
  have Y_1 := hY4.cell 1
  have Y_2 := hY4.cell 2
  simp only [List.getElem?_toArray, List.getElem?_cons_zero, List.getElem?_cons_succ] at X_0 X_1 X_2 Y_0 Y_1 Y_2
  go_wp2_with fail
  clear X_0 X_1 X_2 Y_0 Y_1 Y_2
  refine (Compare_in tol pa pn pc ca cn cc ja jn jc R pa2 pn2 pc2 ca2 cn2 cc2 ja2 jn2 jc2 R2 W4 (hR.out.grow hB4 hB4.size) (hR2.out.grow hB4 hB4.size) hv'.out hv2'.out hs'.out HT.out).mono ?_
  rintro e W5 ⟨A, n, c, rfl, ho, hk4⟩
  have hB5 := hB4.trans (hk4.mono hB4.size)
  have hX5 := hX4.below hk4 hX4.lt
  have hY5 := hY4.below hk4 hY4.lt
  have HSL := Lib.hid (ho.sl dC_len)
  have HNC := Lib.hid ho.2
  have hcl := cmpK_len tol (units R.ps) (units R2.ps) (sumL R.ps).toNat
  have hn2000 : n ≤ 10000000 := by rw [ho.2]; omega
  clear ho hcl
  have X_0 := fun d os => cell_regrown (hX5.cell 0) d os
  have X_1 := fun d os => cell_regrown (hX5.cell 1) d os
  have X_2 := fun d os => cell_regrown (hX5.cell 2) d os
  have Y_0 := fun d os => cell_regrown (hY5.cell 0) d os
  have Y_1 := fun d os => cell_regrown (hY5.cell 1) d os
  have Y_2 := fun d os => cell_regrown (hY5.cell 2) d os
  go_wp2_with fail
  refine wp_region_ch 12 [1, 3] hmo (by kernel_rfl) ?_
  simp only [List.take_succ_cons, List.take_zero, List.drop_succ_cons, List.drop_zero]
  repeat (refine wpC_q (by decide) (by decide) (fun K hK => ?_); go_simp; refine hK _ ?_; clear hK K)
  refine wpC_c (ι := Unit) 22 #[.agg #[.slice pa pn pc, .slice ca cn cc, .slice ja jn jc]] (fun _ => .int .i64 (sumL R.ps)) (fun _ _ => True) (by decide) (by decide) rfl (fun w => by go_simp) stable_true (fun _ => stable_true) (fun W hW hΦ => ?_) (fun i1 hs1 => ?_)
  · obtain ⟨p, rfl⟩ := hW
    have hb := below_regrown W5 p.d p.os
    have hb' := hB5.trans (hb.mono hB5.size)
    refine (rLength_any pa pn pc ca cn cc ja jn jc R _ (hR.out.grow hb' hb'.size) hv'.out.pk (by omega)).mono ?_
    rintro e w' ⟨rfl, hbl⟩
    exact ⟨(), rfl, trivial, hbl⟩
  repeat (refine wpC_q (by decide) (by decide) (fun K hK => ?_); go_simp; refine hK _ ?_; clear hK K)
  refine wpC_c (ι := Unit) 22 #[.agg #[.slice pa2 pn2 pc2, .slice ca2 cn2 cc2, .slice ja2 jn2 jc2]] (fun _ => .int .i64 (sumL R2.ps)) (fun _ _ => True) (by decide) (by decide) rfl (fun w => by go_simp) hs1 (fun _ => stable_true) (fun W hW hΦ => ?_) (fun i2 hs2 => ?_)
  · obtain ⟨p, rfl⟩ := hW
    have hb := below_regrown W5 p.d p.os
    have hb' := hB5.trans (hb.mono hB5.size)
    refine (rLength_any pa2 pn2 pc2 ca2 cn2 cc2 ja2 jn2 jc2 R2 _ (hR2.out.grow hb' hb'.size) hv2'.out.pk (by omega)).mono ?_
    rintro e w' ⟨rfl, hbl⟩
    exact ⟨(), rfl, trivial, hbl⟩
  repeat (refine wpC_q (by decide) (by decide) (fun K hK => ?_); go_simp; refine hK _ ?_; clear hK K)
  refine wpC_nil ?_
  intro W6 hk5 _
  clear hs1 hs2 X_0 X_1 X_2 Y_0 Y_1 Y_2
  have hB6 := hB5.trans (hk5.mono hB5.size)
  have hX6 := hX5.below hk5 hX5.lt
  have hY6 := hY5.below hk5 hY5.lt
  have HSL := Lib.hid (HSL.out.grow hk5 hk5.size)
  have X_0 := hX6.cell 0
  have X_1 := hX6.cell 1
  have X_2 := hX6.cell 2
  have Y_0 := hY6.cell 0
  have Y_1 := hY6.cell 1
  have Y_2 := hY6.cell 2
  simp only [List.getElem?_toArray, List.getElem?_cons_zero, List.getElem?_cons_succ] at X_0 X_1 X_2 Y_0 Y_1 Y_2
  go_wp2_with fail
  clear X_0 X_1 X_2 Y_0 Y_1 Y_2
  refine (rCompare_in tol pa pn pc ca cn cc ja jn jc R pa2 pn2 pc2 ca2 cn2 cc2 ja2 jn2 jc2 R2 W6 (hR.out.grow hB6 hB6.size) (hR2.out.grow hB6 hB6.size) hv'.out hv2'.out hs'.out.symm).mono ?_
  rintro e W7 ⟨A2, n2, c2, rfl, ho2, hk6⟩
  have HSL := Lib.hid (HSL.out.grow hk6 hk6.size)
  obtain rfl : n2 = n := by rw [ho2.2, HNC.out]
  have HSL2 := Lib.hid (ho2.sl dC_len)
  clear ho2
  have hB7 := hB6.trans (hk6.mono hB6.size)
  have hX7 := hX6.below hk6 hX6.lt
  have hY7 := hY6.below hk6 hY6.lt
  obtain ⟨n, rfl⟩ : ∃ n, n = n2 := ⟨_, rfl⟩
  obtain ⟨Wc, hWc⟩ : ∃ Wc, Wc = W7 := ⟨_, rfl⟩
  rw [← hWc] at hB7 hX7 hY7 HSL HSL2 ⊢
  have hBc := hB7
  have hXc := hX7
  have hYc := hY7
  clear hWc es e0 e1
  go_wp2_with fail
  go_loopw [10] (fun i wr => ∃ k : Nat, k ≤ n ∧ i = .int .i64 k ∧ Below Wc.heap.size Wc wr)
    (fun i _ => n - (intOf i).toNat)
  case atStart => exact ⟨0, Nat.zero_le _, rfl, Below.refl _ _⟩
  case round =>
    obtain ⟨k, hk, rfl, hb⟩ := hrel
    have hz := hb.size
    by_cases hlt : k < n
    · have hkl : k < (cmpK tol (units R.ps) (units R2.ps) (sumL R.ps).toNat).length := by rw [← HNC.out]; exact hlt
      obtain ⟨b, off, hA, hbB, c0, c1⟩ := DS.at_ (HSL.out.grow hb hz) (k := k) hkl
      obtain ⟨b', off', hA', hbB', d0, d1⟩ := DS.at_ (HSL2.out.grow hb hz) (k := k) hkl
      generalize (cmpK tol (units R.ps) (units R2.ps) (sumL R.ps).toNat)[k]'hkl = x at c0 c1 d0 d1
      clear hkl
      have hi1 : (0 : Int) ≤ (k : Int) := by omega
      have hi2 : (k : Int) < (n : Int) := by omega
      subst hA
      subst hA'
      go_wp2_with fail
      go_quiet (fail)
      go_wp2_with fail
      go_roundw
      case rel => exact ⟨k + 1, by omega, by go_num, below_drewN hb _⟩
      case measure => simp [intOf]; omega
    · obtain rfl : k = n := by omega
      have hB0' := hBc.trans (hb.mono hBc.size)
      have hX0' := hXc.below hb hXc.lt
      have hY0' := hYc.below hb hYc.lt
      clear HSL HSL2
      obtain ⟨V0, hV0⟩ : ∃ V0, V0 = wr := ⟨_, rfl⟩
      rw [← hV0] at hB0' hX0' hY0' ⊢
      clear hV0 hb hz hBc hXc hYc
      have z_0 := hX0'.cell 0
      have z_1 := hX0'.cell 1
      have z_2 := hX0'.cell 2
      simp only [List.getElem?_toArray, List.getElem?_cons_zero, List.getElem?_cons_succ] at z_0 z_1 z_2
      go_wp2_with fail
      clear z_0 z_1 z_2
      refine (Compare_in 0 pa pn pc ca cn cc ja jn jc R pa pn pc ca cn cc ja jn jc R V0 (hR.out.grow hB0' hB0'.size) (hR.out.grow hB0' hB0'.size) hv'.out hv'.out rfl rfl).mono ?_
      rintro e V1 ⟨A3, n3, c3, rfl, ho3, hq1⟩
      have hB1' := hB0'.trans (hq1.mono hB0'.size)
      obtain rfl : n3 = 0 := by rw [ho3.2, cmpK_own _ (Int.le_refl 0)]; rfl
      clear ho3
      go_wp2_with fail
      refine (known_any V1).mono ?_
      rintro e V2 ⟨rfl, hq2⟩
      have hB2' := hB1'.trans (hq2.mono hB1'.size)
      go_wp2_with fail
      go_ret
      exact ⟨rfl, hB2'⟩
end Go.Proofs.Ytomloklckpcaiaa
