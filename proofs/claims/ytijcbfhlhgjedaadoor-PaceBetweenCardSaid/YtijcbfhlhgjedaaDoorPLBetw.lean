/- The law function PaceBetween, walked: it returns true. -/
import Derived.Test.YtijcbfhlhgjedaaDoorPKnown
import Derived.Test.YtijcbfhlhgjedaaDoorPBetwB
namespace Go.Proofs.YtijcbfhlhgjedaaDoor
open Go.RowKit Go.Shelf Go.Sort Go.Proofs

theorem btwA_good {S : Spd} {R : Road} {f t : Nat} (hv : val R = true) (hs : spB S = true) (h1 : f ≤ t) (h2 : (t : Int) ≤ sumL R.ps) : btwA S R f t = (tQ S R.ps t - tQ S R.ps f, tSl S R.ps t - tSl S R.ps f, 0) := by
  unfold btwA
  rw [if_pos (by rw [hv, hs]; rfl)]
  unfold btw
  rw [if_pos (by simp [inR]; omega), Int.toNat_natCast, Int.toNat_natCast]
theorem btwA_out {S : Spd} {R : Road} {f t : Int} (h : ¬ (0 ≤ f ∧ f ≤ t ∧ t ≤ sumL R.ps)) : btwA S R f t = (0, 0, 2) := by
  unfold btwA
  split
  · unfold btw
    rw [if_neg]
    intro q
    simp only [inR, Bool.and_eq_true, decide_eq_true_eq] at q
    omega
  · rfl
theorem btwA_bad {S : Spd} {R : Road} {f t : Int} (h : (val R && spB S) = false) : btwA S R f t = (0, 0, 2) := by
  unfold btwA
  rw [h]
  rfl
set_option maxRecDepth 100000 in
set_option maxHeartbeats 8000000 in
theorem LBetw_walk (f t : Int) (pa : Option Addr) (pn pc : Nat) (ca : Option Addr) (cn cc : Nat) (ja : Option Addr) (jn jc : Nat) (R : Road) (ra : Option Addr) (rn rc : Nat) (sa : Option Addr) (sn sc : Nat) (S : Spd) (w : World)
    (h : RD w w.heap.size pa pn ca cn ja jn R) (hD : SD w w.heap.size ra rn sa sn S) (hmx : pn ≤ 9223372036854775807) :
    Calls Tryd.prog 3 #[.agg #[.slice pa pn pc, .slice ca cn cc, .slice ja jn jc], .agg #[.int .i64 S.least, .int .i64 S.most, .slice ra rn rc, .slice sa sn sc], .int .i64 f, .int .i64 t] w fun e w' => e = .returned (.bool true) ∧ Below w.heap.size w w' := by
  have HR := Lib.hid h
  have HD := Lib.hid hD
  have hmo : Tryd.prog.follows .mixedOrders = true := by kernel_rfl
  clear h hD
  obtain ⟨w0, hw0⟩ : ∃ w0, w0 = (w.alloc (.cells #[.slice pa pn pc, .slice ca cn cc, .slice ja jn jc] 26)).alloc (.cells #[.int .i64 S.least, .int .i64 S.most, .slice ra rn rc, .slice sa sn sc] 30) := ⟨_, rfl⟩
  have hB0 : Below w.heap.size w w0 := by rw [hw0]; exact ((Below.refl w.heap.size w).alloc (Nat.le_refl _) _).alloc (by simp) _
  have hX0 : BK w0 w.heap.size 26 #[.slice pa pn pc, .slice ca cn cc, .slice ja jn jc] := by rw [hw0]; exact (BK.new w _ _).alloc _
  have hY0 : BK w0 (w.heap.size + 1) 30 #[.int .i64 S.least, .int .i64 S.most, .slice ra rn rc, .slice sa sn sc] := by
    rw [hw0]; have := BK.new (w.alloc (.cells #[.slice pa pn pc, .slice ca cn cc, .slice ja jn jc] 26)) 30 #[.int .i64 S.least, .int .i64 S.most, .slice ra rn rc, .slice sa sn sc]; rw [World.size_alloc] at this; exact this
  go_enter Tryd.func3, Tryd.ntmps3
  go_wp2_with fail
  rw [← hw0]
  clear hw0
  have x0 := hX0.cell 0
  have x1 := hX0.cell 1
  have x2 := hX0.cell 2
  have y0 := hY0.cell 0
  have y1 := hY0.cell 1
  have y2 := hY0.cell 2
  have y3 := hY0.cell 3
  simp only [List.getElem?_toArray, List.getElem?_cons_zero, List.getElem?_cons_succ] at x0 x1 x2 y0 y1 y2 y3
  go_wp2_with fail
  clear x0 x1 x2 y0 y1 y2 y3
  refine (few_any pa pn pc ca cn cc ja jn jc R w0 (HR.out.grow hB0 hB0.size) hmx).mono ?_
  rintro e w1 ⟨rfl, hk⟩
  have hB1 := hB0.trans (hk.mono hB0.size)
  have hX1 := hX0.below hk hX0.lt
  have hY1 := hY0.below hk hY0.lt
  clear hX0 hY0 hB0 hk
  cases hfew : fewB R
  case false =>
    go_wp2_with fail
    have hBX := hB1
    refine (known_any _).mono ?_
    rintro e w9 ⟨rfl, hk⟩
    go_wp2_with fail
    go_ret
    exact ⟨rfl, hBX.trans (hk.mono hBX.size)⟩
  have x0 := hX1.cell 0
  have x1 := hX1.cell 1
  have x2 := hX1.cell 2
  have y0 := hY1.cell 0
  have y1 := hY1.cell 1
  have y2 := hY1.cell 2
  have y3 := hY1.cell 3
  simp only [List.getElem?_toArray, List.getElem?_cons_zero, List.getElem?_cons_succ] at x0 x1 x2 y0 y1 y2 y3
  go_wp2_with fail
  clear x0 x1 x2 y0 y1 y2 y3
  refine (quick_any3 ra rn rc sa sn sc S w1 (HD.out.grow hB1 hB1.size)).mono ?_
  rintro e w2 ⟨rfl, hk⟩
  have hB2 := hB1.trans (hk.mono hB1.size)
  have hX2 := hX1.below hk hX1.lt
  have hY2 := hY1.below hk hY1.lt
  clear hX1 hY1 hB1 hk
  cases hqu : quickB S
  case false =>
    go_wp2_with fail
    have hBX := hB2
    refine (known_any _).mono ?_
    rintro e w9 ⟨rfl, hk⟩
    go_wp2_with fail
    go_ret
    exact ⟨rfl, hBX.trans (hk.mono hBX.size)⟩
  have x0 := hX2.cell 0
  have x1 := hX2.cell 1
  have x2 := hX2.cell 2
  have y0 := hY2.cell 0
  have y1 := hY2.cell 1
  have y2 := hY2.cell 2
  have y3 := hY2.cell 3
  simp only [List.getElem?_toArray, List.getElem?_cons_zero, List.getElem?_cons_succ] at x0 x1 x2 y0 y1 y2 y3
  go_wp2_with fail
  clear x0 x1 x2 y0 y1 y2 y3
  clear hfew hqu
  cases hsb : spB S
  case false =>
    have HSB := Lib.hid hsb
    have HSE : Hid (spE S = 2) := by show _ = _; unfold spE; rw [hsb]; rfl
    have hvs : (val R && spB S) = false := by rw [hsb, Bool.and_false]
    clear hsb
    have HVS := Lib.hid hvs
    clear hvs
    obtain ⟨vb, HVB⟩ : ∃ vb, Hid (val R = vb) := ⟨_, rfl⟩
    have hbe : btwA S R f t = (0, 0, 2) := btwA_bad HVS.out
    have HBE := Lib.hid hbe
    clear hbe
    refine (Between_all f t pa pn pc ca cn cc ja jn jc R ra rn rc sa sn sc S w2 (HR.out.grow hB2 hB2.size) (HD.out.grow hB2 hB2.size)).mono ?_
    rintro e w3 ⟨rfl, hk⟩
    rw [HBE.out]
    clear HBE
    have hB3 := hB2.trans (hk.mono hB2.size)
    have hX3 := hX2.below hk hX2.lt
    have hY3 := hY2.below hk hY2.lt
    clear hX2 hY2 hB2 hk
    have y0 := fun d os => cell_regrown (hY3.cell 0) d os
    have y1 := fun d os => cell_regrown (hY3.cell 1) d os
    have y2 := fun d os => cell_regrown (hY3.cell 2) d os
    have y3 := fun d os => cell_regrown (hY3.cell 3) d os
    have HG2 := Lib.hid (fun d os => HD.out.grow (hB3.trans ((below_regrown w3 d os).mono hB3.size)) (Nat.le_trans hB3.size (below_regrown w3 d os).size))
    have HSp := Lib.hid (fun (W : World) (hW : SD W W.heap.size ra rn sa sn S) => RSpeeds_any ra rn rc sa sn sc S W hW)
    have HCk := Lib.hid (fun (W : World) (hW : SD W W.heap.size ra rn sa sn S) => SpCheck_any ra rn rc sa sn sc S W hW)
    have hlX := hX3.lt
    have hlY := hY3.lt
    go_wp2_with fail
    refine wp_region_ch 15 [1, 4, 6, 8, 10, 12] hmo (by kernel_rfl) ?_
    simp only [List.take_succ_cons, List.take_zero, List.drop_succ_cons, List.drop_zero]
    repeat (with_reducible refine wpC_q (by decide) (by decide) (fun K hK => ?_); go_simp; (try rw [if_neg (by simp [undef])]); refine hK _ ?_; clear hK K)
    with_reducible refine wpC_cg (ι := Unit) 20 #[.agg #[.int .i64 S.least, .int .i64 S.most, .slice ra rn rc, .slice sa sn sc]] (fun _ => .int .i64 2) (fun _ _ => True) (by decide) (by decide) (by go_simp) (fun w => by go_simp) stable_true (fun _ => stable_true) (fun W hW _ => ?_) (fun i0 hs0 => ?_)
    · obtain ⟨pp, rfl⟩ := hW
      refine (HCk.out _ (HG2.out _ _)).mono ?_
      rintro e w' ⟨rfl, hbl⟩
      exact ⟨(), by rw [HSE.out], trivial, hbl⟩
    repeat (with_reducible refine wpC_q (by decide) (by decide) (fun K hK => ?_); go_simp; (try rw [if_neg (by simp [undef])]); refine hK _ ?_; clear hK K)
    with_reducible refine wpC_cg (ι := Unit) 21 #[.agg #[.int .i64 S.least, .int .i64 S.most, .slice ra rn rc, .slice sa sn sc]] (fun _ => .bool false) (fun _ _ => True) (by decide) (by decide) (by go_simp) (fun w => by go_simp) hs0 (fun _ => stable_true) (fun W hW _ => ?_) (fun i1 hs1 => ?_)
    · obtain ⟨pp, rfl⟩ := hW
      refine (HSp.out _ (HG2.out _ _)).mono ?_
      rintro e w' ⟨rfl, hbl⟩
      exact ⟨(), by rw [HSB.out], trivial, hbl⟩
    repeat (with_reducible refine wpC_q (by decide) (by decide) (fun K hK => ?_); go_simp; (try rw [if_neg (by simp [undef])]); refine hK _ ?_; clear hK K)
    with_reducible refine wpC_vg (ι := Unit) (fun _ => .bool false) (fun _ _ => True) (by decide) (by decide) (by go_simp) hs1 (fun _ => stable_true) (fun W _ _ => ⟨(), W, by go_simp, trivial, Below.refl _ _⟩) (fun i2 hs2 => ?_)
    repeat (with_reducible refine wpC_q (by decide) (by decide) (fun K hK => ?_); go_simp; (try rw [if_neg (by simp [undef])]); refine hK _ ?_; clear hK K)
    with_reducible refine wpC_cg (ι := Unit) 21 #[.agg #[.int .i64 S.least, .int .i64 S.most, .slice ra rn rc, .slice sa sn sc]] (fun _ => .bool false) (fun _ _ => True) (by decide) (by decide) (by go_simp) (fun w => by go_simp) hs2 (fun _ => stable_true) (fun W hW _ => ?_) (fun i3 hs3 => ?_)
    · obtain ⟨pp, rfl⟩ := hW
      refine (HSp.out _ (HG2.out _ _)).mono ?_
      rintro e w' ⟨rfl, hbl⟩
      exact ⟨(), by rw [HSB.out], trivial, hbl⟩
    repeat (with_reducible refine wpC_q (by decide) (by decide) (fun K hK => ?_); go_simp; (try rw [if_neg (by simp [undef])]); refine hK _ ?_; clear hK K)
    with_reducible refine wpC_vg (ι := Unit) (fun _ => .bool true) (fun _ _ => True) (by decide) (by decide) (by go_simp) hs3 (fun _ => stable_true) (fun W _ _ => ⟨(), W, by go_simp, trivial, Below.refl _ _⟩) (fun i4 hs4 => ?_)
    repeat (with_reducible refine wpC_q (by decide) (by decide) (fun K hK => ?_); go_simp; (try rw [if_neg (by simp [undef])]); refine hK _ ?_; clear hK K)
    with_reducible refine wpC_cg (ι := Unit) 20 #[.agg #[.int .i64 S.least, .int .i64 S.most, .slice ra rn rc, .slice sa sn sc]] (fun _ => .int .i64 2) (fun _ _ => True) (by decide) (by decide) (by go_simp) (fun w => by go_simp) hs4 (fun _ => stable_true) (fun W hW _ => ?_) (fun i5 hs5 => ?_)
    · obtain ⟨pp, rfl⟩ := hW
      refine (HCk.out _ (HG2.out _ _)).mono ?_
      rintro e w' ⟨rfl, hbl⟩
      exact ⟨(), by rw [HSE.out], trivial, hbl⟩
    repeat (with_reducible refine wpC_q (by decide) (by decide) (fun K hK => ?_); go_simp; (try rw [if_neg (by simp [undef])]); refine hK _ ?_; clear hK K)
    refine wpC_nil ?_
    intro w4 hb4 _
    clear y0 y1 y2 y3 HG2 HCk HSp hs0 hs1 hs2 hs3 hs4 hs5
    have hk := hb4
    have hB4 := hB3.trans (hk.mono hB3.size)
    have hX4 := hX3.below hk hX3.lt
    have hY4 := hY3.below hk hY3.lt
    clear hX3 hY3 hB3 hk
    have x0 := hX4.cell 0
    have x1 := hX4.cell 1
    have x2 := hX4.cell 2
    have y0 := hY4.cell 0
    have y1 := hY4.cell 1
    have y2 := hY4.cell 2
    have y3 := hY4.cell 3
    simp only [List.getElem?_toArray, List.getElem?_cons_zero, List.getElem?_cons_succ] at x0 x1 x2 y0 y1 y2 y3
    go_wp2_with fail
    clear x0 x1 x2 y0 y1 y2 y3
    refine (fine_any pa pn pc ca cn cc ja jn jc R ra rn rc sa sn sc S w4 (HR.out.grow hB4 hB4.size) (HD.out.grow hB4 hB4.size)).mono ?_
    rintro e w5 ⟨rfl, hk⟩
    have hB5 := hB4.trans (hk.mono hB4.size)
    have hX5 := hX4.below hk hX4.lt
    have hY5 := hY4.below hk hY4.lt
    clear hX4 hY4 hB4 hk
    rw [HVS.out]
    have x0 := hX5.cell 0
    have x1 := hX5.cell 1
    have x2 := hX5.cell 2
    have y0 := hY5.cell 0
    have y1 := hY5.cell 1
    have y2 := hY5.cell 2
    have y3 := hY5.cell 3
    simp only [List.getElem?_toArray, List.getElem?_cons_zero, List.getElem?_cons_succ] at x0 x1 x2 y0 y1 y2 y3
    go_wp2_with fail
    clear x0 x1 x2 y0 y1 y2 y3
    have hBX := hB5
    refine (known_any _).mono ?_
    rintro e w9 ⟨rfl, hk⟩
    go_wp2_with fail
    go_ret
    exact ⟨rfl, hBX.trans (hk.mono hBX.size)⟩
  have HSB := Lib.hid hsb
  have HSE : Hid (spE S = 0) := by show _ = _; unfold spE; rw [hsb]; rfl
  clear hsb
  cases hvb : val R
  case false =>
    have HVB := Lib.hid hvb
    clear hvb
    have hbe : btwA S R f t = (0, 0, 2) := btwA_bad (by rw [HVB.out]; rfl)
    have HBE := Lib.hid hbe
    clear hbe
    refine (Between_all f t pa pn pc ca cn cc ja jn jc R ra rn rc sa sn sc S w2 (HR.out.grow hB2 hB2.size) (HD.out.grow hB2 hB2.size)).mono ?_
    rintro e w3 ⟨rfl, hk⟩
    rw [HBE.out]
    clear HBE
    have hB3 := hB2.trans (hk.mono hB2.size)
    have hX3 := hX2.below hk hX2.lt
    have hY3 := hY2.below hk hY2.lt
    clear hX2 hY2 hB2 hk
    have y0 := fun d os => cell_regrown (hY3.cell 0) d os
    have y1 := fun d os => cell_regrown (hY3.cell 1) d os
    have y2 := fun d os => cell_regrown (hY3.cell 2) d os
    have y3 := fun d os => cell_regrown (hY3.cell 3) d os
    have HG2 := Lib.hid (fun d os => HD.out.grow (hB3.trans ((below_regrown w3 d os).mono hB3.size)) (Nat.le_trans hB3.size (below_regrown w3 d os).size))
    have HSp := Lib.hid (fun (W : World) (hW : SD W W.heap.size ra rn sa sn S) => RSpeeds_any ra rn rc sa sn sc S W hW)
    have HCk := Lib.hid (fun (W : World) (hW : SD W W.heap.size ra rn sa sn S) => SpCheck_any ra rn rc sa sn sc S W hW)
    have hlX := hX3.lt
    have hlY := hY3.lt
    go_wp2_with fail
    refine wp_region_ch 15 [1, 4, 6, 8, 10, 12] hmo (by kernel_rfl) ?_
    simp only [List.take_succ_cons, List.take_zero, List.drop_succ_cons, List.drop_zero]
    repeat (with_reducible refine wpC_q (by decide) (by decide) (fun K hK => ?_); go_simp; (try rw [if_neg (by simp [undef])]); refine hK _ ?_; clear hK K)
    with_reducible refine wpC_cg (ι := Unit) 20 #[.agg #[.int .i64 S.least, .int .i64 S.most, .slice ra rn rc, .slice sa sn sc]] (fun _ => .int .i64 0) (fun _ _ => True) (by decide) (by decide) (by go_simp) (fun w => by go_simp) stable_true (fun _ => stable_true) (fun W hW _ => ?_) (fun i0 hs0 => ?_)
    · obtain ⟨pp, rfl⟩ := hW
      refine (HCk.out _ (HG2.out _ _)).mono ?_
      rintro e w' ⟨rfl, hbl⟩
      exact ⟨(), by rw [HSE.out], trivial, hbl⟩
    repeat (with_reducible refine wpC_q (by decide) (by decide) (fun K hK => ?_); go_simp; (try rw [if_neg (by simp [undef])]); refine hK _ ?_; clear hK K)
    with_reducible refine wpC_cg (ι := Unit) 21 #[.agg #[.int .i64 S.least, .int .i64 S.most, .slice ra rn rc, .slice sa sn sc]] (fun _ => .bool true) (fun _ _ => True) (by decide) (by decide) (by go_simp) (fun w => by go_simp) hs0 (fun _ => stable_true) (fun W hW _ => ?_) (fun i1 hs1 => ?_)
    · obtain ⟨pp, rfl⟩ := hW
      refine (HSp.out _ (HG2.out _ _)).mono ?_
      rintro e w' ⟨rfl, hbl⟩
      exact ⟨(), by rw [HSB.out], trivial, hbl⟩
    repeat (with_reducible refine wpC_q (by decide) (by decide) (fun K hK => ?_); go_simp; (try rw [if_neg (by simp [undef])]); refine hK _ ?_; clear hK K)
    with_reducible refine wpC_vg (ι := Unit) (fun _ => .bool false) (fun _ _ => True) (by decide) (by decide) (by go_simp) hs1 (fun _ => stable_true) (fun W _ _ => ⟨(), W, by go_simp, trivial, Below.refl _ _⟩) (fun i2 hs2 => ?_)
    repeat (with_reducible refine wpC_q (by decide) (by decide) (fun K hK => ?_); go_simp; (try rw [if_neg (by simp [undef])]); refine hK _ ?_; clear hK K)
    with_reducible refine wpC_cg (ι := Unit) 21 #[.agg #[.int .i64 S.least, .int .i64 S.most, .slice ra rn rc, .slice sa sn sc]] (fun _ => .bool true) (fun _ _ => True) (by decide) (by decide) (by go_simp) (fun w => by go_simp) hs2 (fun _ => stable_true) (fun W hW _ => ?_) (fun i3 hs3 => ?_)
    · obtain ⟨pp, rfl⟩ := hW
      refine (HSp.out _ (HG2.out _ _)).mono ?_
      rintro e w' ⟨rfl, hbl⟩
      exact ⟨(), by rw [HSB.out], trivial, hbl⟩
    repeat (with_reducible refine wpC_q (by decide) (by decide) (fun K hK => ?_); go_simp; (try rw [if_neg (by simp [undef])]); refine hK _ ?_; clear hK K)
    with_reducible refine wpC_vg (ι := Unit) (fun _ => .bool false) (fun _ _ => True) (by decide) (by decide) (by go_simp) hs3 (fun _ => stable_true) (fun W _ _ => ⟨(), W, by go_simp, trivial, Below.refl _ _⟩) (fun i4 hs4 => ?_)
    repeat (with_reducible refine wpC_q (by decide) (by decide) (fun K hK => ?_); go_simp; (try rw [if_neg (by simp [undef])]); refine hK _ ?_; clear hK K)
    with_reducible refine wpC_off (by decide) (by go_simp) ?_
    repeat (with_reducible refine wpC_q (by decide) (by decide) (fun K hK => ?_); go_simp; (try rw [if_neg (by simp [undef])]); refine hK _ ?_; clear hK K)
    refine wpC_nil ?_
    intro w4 hb4 _
    clear y0 y1 y2 y3 HG2 HCk HSp hs0 hs1 hs2 hs3 hs4
    have hk := hb4
    have hB4 := hB3.trans (hk.mono hB3.size)
    have hX4 := hX3.below hk hX3.lt
    have hY4 := hY3.below hk hY3.lt
    clear hX3 hY3 hB3 hk
    have x0 := hX4.cell 0
    have x1 := hX4.cell 1
    have x2 := hX4.cell 2
    have y0 := hY4.cell 0
    have y1 := hY4.cell 1
    have y2 := hY4.cell 2
    have y3 := hY4.cell 3
    simp only [List.getElem?_toArray, List.getElem?_cons_zero, List.getElem?_cons_succ] at x0 x1 x2 y0 y1 y2 y3
    go_wp2_with fail
    clear x0 x1 x2 y0 y1 y2 y3
    refine (fine_any pa pn pc ca cn cc ja jn jc R ra rn rc sa sn sc S w4 (HR.out.grow hB4 hB4.size) (HD.out.grow hB4 hB4.size)).mono ?_
    rintro e w5 ⟨rfl, hk⟩
    have hB5 := hB4.trans (hk.mono hB4.size)
    have hX5 := hX4.below hk hX4.lt
    have hY5 := hY4.below hk hY4.lt
    clear hX4 hY4 hB4 hk
    rw [HVB.out, HSB.out]
    dsimp only [Bool.and_true, Bool.and_false, Bool.true_and, Bool.false_and]
    have x0 := hX5.cell 0
    have x1 := hX5.cell 1
    have x2 := hX5.cell 2
    have y0 := hY5.cell 0
    have y1 := hY5.cell 1
    have y2 := hY5.cell 2
    have y3 := hY5.cell 3
    simp only [List.getElem?_toArray, List.getElem?_cons_zero, List.getElem?_cons_succ] at x0 x1 x2 y0 y1 y2 y3
    go_wp2_with fail
    clear x0 x1 x2 y0 y1 y2 y3
    have hBX := hB5
    refine (known_any _).mono ?_
    rintro e w9 ⟨rfl, hk⟩
    go_wp2_with fail
    go_ret
    exact ⟨rfl, hBX.trans (hk.mono hBX.size)⟩
  have HVB := Lib.hid hvb
  have HV := Lib.hid ((val_iff R).1 hvb)
  clear hvb
  by_cases hf0 : f < 0
  case pos =>
    have g1 : decide (f < 0) = true := decide_eq_true hf0
    have hbe : btwA S R f t = (0, 0, 2) := btwA_out (by omega)
    have HBE := Lib.hid hbe
    clear hbe
    refine (Between_all f t pa pn pc ca cn cc ja jn jc R ra rn rc sa sn sc S w2 (HR.out.grow hB2 hB2.size) (HD.out.grow hB2 hB2.size)).mono ?_
    rintro e w3 ⟨rfl, hk⟩
    rw [HBE.out]
    clear HBE hf0
    have hB3 := hB2.trans (hk.mono hB2.size)
    have hX3 := hX2.below hk hX2.lt
    have hY3 := hY2.below hk hY2.lt
    clear hX2 hY2 hB2 hk
    have y0 := fun d os => cell_regrown (hY3.cell 0) d os
    have y1 := fun d os => cell_regrown (hY3.cell 1) d os
    have y2 := fun d os => cell_regrown (hY3.cell 2) d os
    have y3 := fun d os => cell_regrown (hY3.cell 3) d os
    have HG2 := Lib.hid (fun d os => HD.out.grow (hB3.trans ((below_regrown w3 d os).mono hB3.size)) (Nat.le_trans hB3.size (below_regrown w3 d os).size))
    have HSp := Lib.hid (fun (W : World) (hW : SD W W.heap.size ra rn sa sn S) => RSpeeds_any ra rn rc sa sn sc S W hW)
    have HCk := Lib.hid (fun (W : World) (hW : SD W W.heap.size ra rn sa sn S) => SpCheck_any ra rn rc sa sn sc S W hW)
    have hlX := hX3.lt
    have hlY := hY3.lt
    go_wp2_with fail
    refine wp_region_ch 15 [1, 4, 6, 8, 10, 12] hmo (by kernel_rfl) ?_
    simp only [List.take_succ_cons, List.take_zero, List.drop_succ_cons, List.drop_zero]
    repeat (with_reducible refine wpC_q (by decide) (by decide) (fun K hK => ?_); go_simp; (try rw [if_neg (by simp [undef])]); refine hK _ ?_; clear hK K)
    with_reducible refine wpC_cg (ι := Unit) 20 #[.agg #[.int .i64 S.least, .int .i64 S.most, .slice ra rn rc, .slice sa sn sc]] (fun _ => .int .i64 0) (fun _ _ => True) (by decide) (by decide) (by go_simp) (fun w => by go_simp) stable_true (fun _ => stable_true) (fun W hW _ => ?_) (fun i0 hs0 => ?_)
    · obtain ⟨pp, rfl⟩ := hW
      refine (HCk.out _ (HG2.out _ _)).mono ?_
      rintro e w' ⟨rfl, hbl⟩
      exact ⟨(), by rw [HSE.out], trivial, hbl⟩
    repeat (with_reducible refine wpC_q (by decide) (by decide) (fun K hK => ?_); go_simp; (try rw [if_neg (by simp [undef])]); refine hK _ ?_; clear hK K)
    with_reducible refine wpC_cg (ι := Unit) 21 #[.agg #[.int .i64 S.least, .int .i64 S.most, .slice ra rn rc, .slice sa sn sc]] (fun _ => .bool true) (fun _ _ => True) (by decide) (by decide) (by go_simp) (fun w => by go_simp) hs0 (fun _ => stable_true) (fun W hW _ => ?_) (fun i1 hs1 => ?_)
    · obtain ⟨pp, rfl⟩ := hW
      refine (HSp.out _ (HG2.out _ _)).mono ?_
      rintro e w' ⟨rfl, hbl⟩
      exact ⟨(), by rw [HSB.out], trivial, hbl⟩
    repeat (with_reducible refine wpC_q (by decide) (by decide) (fun K hK => ?_); go_simp; (try rw [if_neg (by simp [undef])]); refine hK _ ?_; clear hK K)
    with_reducible refine wpC_vg (ι := Unit) (fun _ => .bool false) (fun _ _ => True) (by decide) (by decide) (by go_simp) hs1 (fun _ => stable_true) (fun W _ _ => ⟨(), W, by go_simp, trivial, Below.refl _ _⟩) (fun i2 hs2 => ?_)
    repeat (with_reducible refine wpC_q (by decide) (by decide) (fun K hK => ?_); go_simp; (try rw [if_neg (by simp [undef])]); refine hK _ ?_; clear hK K)
    with_reducible refine wpC_cg (ι := Unit) 21 #[.agg #[.int .i64 S.least, .int .i64 S.most, .slice ra rn rc, .slice sa sn sc]] (fun _ => .bool true) (fun _ _ => True) (by decide) (by decide) (by go_simp) (fun w => by go_simp) hs2 (fun _ => stable_true) (fun W hW _ => ?_) (fun i3 hs3 => ?_)
    · obtain ⟨pp, rfl⟩ := hW
      refine (HSp.out _ (HG2.out _ _)).mono ?_
      rintro e w' ⟨rfl, hbl⟩
      exact ⟨(), by rw [HSB.out], trivial, hbl⟩
    repeat (with_reducible refine wpC_q (by decide) (by decide) (fun K hK => ?_); go_simp; (try rw [if_neg (by simp [undef])]); refine hK _ ?_; clear hK K)
    with_reducible refine wpC_vg (ι := Unit) (fun _ => .bool false) (fun _ _ => True) (by decide) (by decide) (by go_simp) hs3 (fun _ => stable_true) (fun W _ _ => ⟨(), W, by go_simp, trivial, Below.refl _ _⟩) (fun i4 hs4 => ?_)
    repeat (with_reducible refine wpC_q (by decide) (by decide) (fun K hK => ?_); go_simp; (try rw [if_neg (by simp [undef])]); refine hK _ ?_; clear hK K)
    with_reducible refine wpC_off (by decide) (by go_simp) ?_
    repeat (with_reducible refine wpC_q (by decide) (by decide) (fun K hK => ?_); go_simp; (try rw [if_neg (by simp [undef])]); refine hK _ ?_; clear hK K)
    refine wpC_nil ?_
    intro w4 hb4 _
    clear y0 y1 y2 y3 HG2 HCk HSp hs0 hs1 hs2 hs3 hs4
    have hk := hb4
    have hB4 := hB3.trans (hk.mono hB3.size)
    have hX4 := hX3.below hk hX3.lt
    have hY4 := hY3.below hk hY3.lt
    clear hX3 hY3 hB3 hk
    have x0 := hX4.cell 0
    have x1 := hX4.cell 1
    have x2 := hX4.cell 2
    have y0 := hY4.cell 0
    have y1 := hY4.cell 1
    have y2 := hY4.cell 2
    have y3 := hY4.cell 3
    simp only [List.getElem?_toArray, List.getElem?_cons_zero, List.getElem?_cons_succ] at x0 x1 x2 y0 y1 y2 y3
    go_wp2_with fail
    clear x0 x1 x2 y0 y1 y2 y3
    refine (fine_any pa pn pc ca cn cc ja jn jc R ra rn rc sa sn sc S w4 (HR.out.grow hB4 hB4.size) (HD.out.grow hB4 hB4.size)).mono ?_
    rintro e w5 ⟨rfl, hk⟩
    have hB5 := hB4.trans (hk.mono hB4.size)
    have hX5 := hX4.below hk hX4.lt
    have hY5 := hY4.below hk hY4.lt
    clear hX4 hY4 hB4 hk
    rw [HVB.out, HSB.out]
    dsimp only [Bool.and_true, Bool.and_false, Bool.true_and, Bool.false_and]
    have x0 := hX5.cell 0
    have x1 := hX5.cell 1
    have x2 := hX5.cell 2
    have y0 := hY5.cell 0
    have y1 := hY5.cell 1
    have y2 := hY5.cell 2
    have y3 := hY5.cell 3
    simp only [List.getElem?_toArray, List.getElem?_cons_zero, List.getElem?_cons_succ] at x0 x1 x2 y0 y1 y2 y3
    go_wp2_with fail
    clear x0 x1 x2 y0 y1 y2 y3
    have hBX := hB5
    refine (known_any _).mono ?_
    rintro e w9 ⟨rfl, hk⟩
    go_wp2_with fail
    go_ret
    exact ⟨rfl, hBX.trans (hk.mono hBX.size)⟩
  have g1 : decide (f < 0) = false := decide_eq_false hf0
  by_cases htf : t < f
  case pos =>
    have g2 : decide (t < f) = true := decide_eq_true htf
    have hbe : btwA S R f t = (0, 0, 2) := btwA_out (by omega)
    have HBE := Lib.hid hbe
    clear hbe
    refine (Between_all f t pa pn pc ca cn cc ja jn jc R ra rn rc sa sn sc S w2 (HR.out.grow hB2 hB2.size) (HD.out.grow hB2 hB2.size)).mono ?_
    rintro e w3 ⟨rfl, hk⟩
    rw [HBE.out]
    clear HBE hf0 htf
    have hB3 := hB2.trans (hk.mono hB2.size)
    have hX3 := hX2.below hk hX2.lt
    have hY3 := hY2.below hk hY2.lt
    clear hX2 hY2 hB2 hk
    have y0 := fun d os => cell_regrown (hY3.cell 0) d os
    have y1 := fun d os => cell_regrown (hY3.cell 1) d os
    have y2 := fun d os => cell_regrown (hY3.cell 2) d os
    have y3 := fun d os => cell_regrown (hY3.cell 3) d os
    have HG2 := Lib.hid (fun d os => HD.out.grow (hB3.trans ((below_regrown w3 d os).mono hB3.size)) (Nat.le_trans hB3.size (below_regrown w3 d os).size))
    have HSp := Lib.hid (fun (W : World) (hW : SD W W.heap.size ra rn sa sn S) => RSpeeds_any ra rn rc sa sn sc S W hW)
    have HCk := Lib.hid (fun (W : World) (hW : SD W W.heap.size ra rn sa sn S) => SpCheck_any ra rn rc sa sn sc S W hW)
    have hlX := hX3.lt
    have hlY := hY3.lt
    go_wp2_with fail
    refine wp_region_ch 15 [1, 4, 6, 8, 10, 12] hmo (by kernel_rfl) ?_
    simp only [List.take_succ_cons, List.take_zero, List.drop_succ_cons, List.drop_zero]
    repeat (with_reducible refine wpC_q (by decide) (by decide) (fun K hK => ?_); go_simp; (try rw [if_neg (by simp [undef])]); refine hK _ ?_; clear hK K)
    with_reducible refine wpC_cg (ι := Unit) 20 #[.agg #[.int .i64 S.least, .int .i64 S.most, .slice ra rn rc, .slice sa sn sc]] (fun _ => .int .i64 0) (fun _ _ => True) (by decide) (by decide) (by go_simp) (fun w => by go_simp) stable_true (fun _ => stable_true) (fun W hW _ => ?_) (fun i0 hs0 => ?_)
    · obtain ⟨pp, rfl⟩ := hW
      refine (HCk.out _ (HG2.out _ _)).mono ?_
      rintro e w' ⟨rfl, hbl⟩
      exact ⟨(), by rw [HSE.out], trivial, hbl⟩
    repeat (with_reducible refine wpC_q (by decide) (by decide) (fun K hK => ?_); go_simp; (try rw [if_neg (by simp [undef])]); refine hK _ ?_; clear hK K)
    with_reducible refine wpC_cg (ι := Unit) 21 #[.agg #[.int .i64 S.least, .int .i64 S.most, .slice ra rn rc, .slice sa sn sc]] (fun _ => .bool true) (fun _ _ => True) (by decide) (by decide) (by go_simp) (fun w => by go_simp) hs0 (fun _ => stable_true) (fun W hW _ => ?_) (fun i1 hs1 => ?_)
    · obtain ⟨pp, rfl⟩ := hW
      refine (HSp.out _ (HG2.out _ _)).mono ?_
      rintro e w' ⟨rfl, hbl⟩
      exact ⟨(), by rw [HSB.out], trivial, hbl⟩
    repeat (with_reducible refine wpC_q (by decide) (by decide) (fun K hK => ?_); go_simp; (try rw [if_neg (by simp [undef])]); refine hK _ ?_; clear hK K)
    with_reducible refine wpC_vg (ι := Unit) (fun _ => .bool false) (fun _ _ => True) (by decide) (by decide) (by go_simp) hs1 (fun _ => stable_true) (fun W _ _ => ⟨(), W, by go_simp, trivial, Below.refl _ _⟩) (fun i2 hs2 => ?_)
    repeat (with_reducible refine wpC_q (by decide) (by decide) (fun K hK => ?_); go_simp; (try rw [if_neg (by simp [undef])]); refine hK _ ?_; clear hK K)
    with_reducible refine wpC_cg (ι := Unit) 21 #[.agg #[.int .i64 S.least, .int .i64 S.most, .slice ra rn rc, .slice sa sn sc]] (fun _ => .bool true) (fun _ _ => True) (by decide) (by decide) (by go_simp) (fun w => by go_simp) hs2 (fun _ => stable_true) (fun W hW _ => ?_) (fun i3 hs3 => ?_)
    · obtain ⟨pp, rfl⟩ := hW
      refine (HSp.out _ (HG2.out _ _)).mono ?_
      rintro e w' ⟨rfl, hbl⟩
      exact ⟨(), by rw [HSB.out], trivial, hbl⟩
    repeat (with_reducible refine wpC_q (by decide) (by decide) (fun K hK => ?_); go_simp; (try rw [if_neg (by simp [undef])]); refine hK _ ?_; clear hK K)
    with_reducible refine wpC_vg (ι := Unit) (fun _ => .bool false) (fun _ _ => True) (by decide) (by decide) (by go_simp) hs3 (fun _ => stable_true) (fun W _ _ => ⟨(), W, by go_simp, trivial, Below.refl _ _⟩) (fun i4 hs4 => ?_)
    repeat (with_reducible refine wpC_q (by decide) (by decide) (fun K hK => ?_); go_simp; (try rw [if_neg (by simp [undef])]); refine hK _ ?_; clear hK K)
    with_reducible refine wpC_off (by decide) (by go_simp) ?_
    repeat (with_reducible refine wpC_q (by decide) (by decide) (fun K hK => ?_); go_simp; (try rw [if_neg (by simp [undef])]); refine hK _ ?_; clear hK K)
    refine wpC_nil ?_
    intro w4 hb4 _
    clear y0 y1 y2 y3 HG2 HCk HSp hs0 hs1 hs2 hs3 hs4
    have hk := hb4
    have hB4 := hB3.trans (hk.mono hB3.size)
    have hX4 := hX3.below hk hX3.lt
    have hY4 := hY3.below hk hY3.lt
    clear hX3 hY3 hB3 hk
    have x0 := hX4.cell 0
    have x1 := hX4.cell 1
    have x2 := hX4.cell 2
    have y0 := hY4.cell 0
    have y1 := hY4.cell 1
    have y2 := hY4.cell 2
    have y3 := hY4.cell 3
    simp only [List.getElem?_toArray, List.getElem?_cons_zero, List.getElem?_cons_succ] at x0 x1 x2 y0 y1 y2 y3
    go_wp2_with fail
    clear x0 x1 x2 y0 y1 y2 y3
    refine (fine_any pa pn pc ca cn cc ja jn jc R ra rn rc sa sn sc S w4 (HR.out.grow hB4 hB4.size) (HD.out.grow hB4 hB4.size)).mono ?_
    rintro e w5 ⟨rfl, hk⟩
    have hB5 := hB4.trans (hk.mono hB4.size)
    have hX5 := hX4.below hk hX4.lt
    have hY5 := hY4.below hk hY4.lt
    clear hX4 hY4 hB4 hk
    rw [HVB.out, HSB.out]
    dsimp only [Bool.and_true, Bool.and_false, Bool.true_and, Bool.false_and]
    have x0 := hX5.cell 0
    have x1 := hX5.cell 1
    have x2 := hX5.cell 2
    have y0 := hY5.cell 0
    have y1 := hY5.cell 1
    have y2 := hY5.cell 2
    have y3 := hY5.cell 3
    simp only [List.getElem?_toArray, List.getElem?_cons_zero, List.getElem?_cons_succ] at x0 x1 x2 y0 y1 y2 y3
    go_wp2_with fail
    clear x0 x1 x2 y0 y1 y2 y3
    have hBX := hB5
    refine (known_any _).mono ?_
    rintro e w9 ⟨rfl, hk⟩
    go_wp2_with fail
    go_ret
    exact ⟨rfl, hBX.trans (hk.mono hBX.size)⟩
  have g2 : decide (t < f) = false := decide_eq_false htf
  have hsm1 := HV.out.n1
  by_cases hts : sumL R.ps < t
  case pos =>
    have g3 : decide (sumL R.ps < t) = true := decide_eq_true hts
    have hbe : btwA S R f t = (0, 0, 2) := btwA_out (by omega)
    have HBE := Lib.hid hbe
    clear hbe
    refine (Between_all f t pa pn pc ca cn cc ja jn jc R ra rn rc sa sn sc S w2 (HR.out.grow hB2 hB2.size) (HD.out.grow hB2 hB2.size)).mono ?_
    rintro e w3 ⟨rfl, hk⟩
    rw [HBE.out]
    clear HBE hf0 htf hts
    have hB3 := hB2.trans (hk.mono hB2.size)
    have hX3 := hX2.below hk hX2.lt
    have hY3 := hY2.below hk hY2.lt
    clear hX2 hY2 hB2 hk
    have y0 := fun d os => cell_regrown (hY3.cell 0) d os
    have y1 := fun d os => cell_regrown (hY3.cell 1) d os
    have y2 := fun d os => cell_regrown (hY3.cell 2) d os
    have y3 := fun d os => cell_regrown (hY3.cell 3) d os
    have HG2 := Lib.hid (fun d os => HD.out.grow (hB3.trans ((below_regrown w3 d os).mono hB3.size)) (Nat.le_trans hB3.size (below_regrown w3 d os).size))
    have HSp := Lib.hid (fun (W : World) (hW : SD W W.heap.size ra rn sa sn S) => RSpeeds_any ra rn rc sa sn sc S W hW)
    have HCk := Lib.hid (fun (W : World) (hW : SD W W.heap.size ra rn sa sn S) => SpCheck_any ra rn rc sa sn sc S W hW)
    have hlX := hX3.lt
    have hlY := hY3.lt
    go_wp2_with fail
    refine wp_region_ch 15 [1, 4, 6, 8, 10, 12] hmo (by kernel_rfl) ?_
    simp only [List.take_succ_cons, List.take_zero, List.drop_succ_cons, List.drop_zero]
    repeat (with_reducible refine wpC_q (by decide) (by decide) (fun K hK => ?_); go_simp; (try rw [if_neg (by simp [undef])]); refine hK _ ?_; clear hK K)
    with_reducible refine wpC_cg (ι := Unit) 20 #[.agg #[.int .i64 S.least, .int .i64 S.most, .slice ra rn rc, .slice sa sn sc]] (fun _ => .int .i64 0) (fun _ _ => True) (by decide) (by decide) (by go_simp) (fun w => by go_simp) stable_true (fun _ => stable_true) (fun W hW _ => ?_) (fun i0 hs0 => ?_)
    · obtain ⟨pp, rfl⟩ := hW
      refine (HCk.out _ (HG2.out _ _)).mono ?_
      rintro e w' ⟨rfl, hbl⟩
      exact ⟨(), by rw [HSE.out], trivial, hbl⟩
    repeat (with_reducible refine wpC_q (by decide) (by decide) (fun K hK => ?_); go_simp; (try rw [if_neg (by simp [undef])]); refine hK _ ?_; clear hK K)
    with_reducible refine wpC_cg (ι := Unit) 21 #[.agg #[.int .i64 S.least, .int .i64 S.most, .slice ra rn rc, .slice sa sn sc]] (fun _ => .bool true) (fun _ _ => True) (by decide) (by decide) (by go_simp) (fun w => by go_simp) hs0 (fun _ => stable_true) (fun W hW _ => ?_) (fun i1 hs1 => ?_)
    · obtain ⟨pp, rfl⟩ := hW
      refine (HSp.out _ (HG2.out _ _)).mono ?_
      rintro e w' ⟨rfl, hbl⟩
      exact ⟨(), by rw [HSB.out], trivial, hbl⟩
    repeat (with_reducible refine wpC_q (by decide) (by decide) (fun K hK => ?_); go_simp; (try rw [if_neg (by simp [undef])]); refine hK _ ?_; clear hK K)
    with_reducible refine wpC_vg (ι := Unit) (fun _ => .bool false) (fun _ _ => True) (by decide) (by decide) (by go_simp) hs1 (fun _ => stable_true) (fun W _ _ => ⟨(), W, by go_simp, trivial, Below.refl _ _⟩) (fun i2 hs2 => ?_)
    repeat (with_reducible refine wpC_q (by decide) (by decide) (fun K hK => ?_); go_simp; (try rw [if_neg (by simp [undef])]); refine hK _ ?_; clear hK K)
    with_reducible refine wpC_cg (ι := Unit) 21 #[.agg #[.int .i64 S.least, .int .i64 S.most, .slice ra rn rc, .slice sa sn sc]] (fun _ => .bool true) (fun _ _ => True) (by decide) (by decide) (by go_simp) (fun w => by go_simp) hs2 (fun _ => stable_true) (fun W hW _ => ?_) (fun i3 hs3 => ?_)
    · obtain ⟨pp, rfl⟩ := hW
      refine (HSp.out _ (HG2.out _ _)).mono ?_
      rintro e w' ⟨rfl, hbl⟩
      exact ⟨(), by rw [HSB.out], trivial, hbl⟩
    repeat (with_reducible refine wpC_q (by decide) (by decide) (fun K hK => ?_); go_simp; (try rw [if_neg (by simp [undef])]); refine hK _ ?_; clear hK K)
    with_reducible refine wpC_vg (ι := Unit) (fun _ => .bool false) (fun _ _ => True) (by decide) (by decide) (by go_simp) hs3 (fun _ => stable_true) (fun W _ _ => ⟨(), W, by go_simp, trivial, Below.refl _ _⟩) (fun i4 hs4 => ?_)
    repeat (with_reducible refine wpC_q (by decide) (by decide) (fun K hK => ?_); go_simp; (try rw [if_neg (by simp [undef])]); refine hK _ ?_; clear hK K)
    with_reducible refine wpC_off (by decide) (by go_simp) ?_
    repeat (with_reducible refine wpC_q (by decide) (by decide) (fun K hK => ?_); go_simp; (try rw [if_neg (by simp [undef])]); refine hK _ ?_; clear hK K)
    refine wpC_nil ?_
    intro w4 hb4 _
    clear y0 y1 y2 y3 HG2 HCk HSp hs0 hs1 hs2 hs3 hs4
    have hk := hb4
    have hB4 := hB3.trans (hk.mono hB3.size)
    have hX4 := hX3.below hk hX3.lt
    have hY4 := hY3.below hk hY3.lt
    clear hX3 hY3 hB3 hk
    have x0 := hX4.cell 0
    have x1 := hX4.cell 1
    have x2 := hX4.cell 2
    have y0 := hY4.cell 0
    have y1 := hY4.cell 1
    have y2 := hY4.cell 2
    have y3 := hY4.cell 3
    simp only [List.getElem?_toArray, List.getElem?_cons_zero, List.getElem?_cons_succ] at x0 x1 x2 y0 y1 y2 y3
    go_wp2_with fail
    clear x0 x1 x2 y0 y1 y2 y3
    refine (fine_any pa pn pc ca cn cc ja jn jc R ra rn rc sa sn sc S w4 (HR.out.grow hB4 hB4.size) (HD.out.grow hB4 hB4.size)).mono ?_
    rintro e w5 ⟨rfl, hk⟩
    have hB5 := hB4.trans (hk.mono hB4.size)
    have hX5 := hX4.below hk hX4.lt
    have hY5 := hY4.below hk hY4.lt
    clear hX4 hY4 hB4 hk
    rw [HVB.out, HSB.out]
    dsimp only [Bool.and_true, Bool.and_false, Bool.true_and, Bool.false_and]
    have x0 := hX5.cell 0
    have x1 := hX5.cell 1
    have x2 := hX5.cell 2
    have y0 := hY5.cell 0
    have y1 := hY5.cell 1
    have y2 := hY5.cell 2
    have y3 := hY5.cell 3
    simp only [List.getElem?_toArray, List.getElem?_cons_zero, List.getElem?_cons_succ] at x0 x1 x2 y0 y1 y2 y3
    go_wp2_with fail
    clear x0 x1 x2 y0 y1 y2 y3
    refine (R3Length_any pa pn pc ca cn cc ja jn jc R w5 (HR.out.grow hB5 hB5.size) HV.out).mono ?_
    rintro e w6 ⟨rfl, hk⟩
    have hB6 := hB5.trans (hk.mono hB5.size)
    have hX6 := hX5.below hk hX5.lt
    have hY6 := hY5.below hk hY5.lt
    clear hX5 hY5 hB5 hk
    have x0 := hX6.cell 0
    have x1 := hX6.cell 1
    have x2 := hX6.cell 2
    have y0 := hY6.cell 0
    have y1 := hY6.cell 1
    have y2 := hY6.cell 2
    have y3 := hY6.cell 3
    simp only [List.getElem?_toArray, List.getElem?_cons_zero, List.getElem?_cons_succ] at x0 x1 x2 y0 y1 y2 y3
    go_wp2_with fail
    clear x0 x1 x2 y0 y1 y2 y3
    have hBX := hB6
    refine (known_any _).mono ?_
    rintro e w9 ⟨rfl, hk⟩
    go_wp2_with fail
    go_ret
    exact ⟨rfl, hBX.trans (hk.mono hBX.size)⟩
  have g3 : decide (sumL R.ps < t) = false := decide_eq_false hts
  obtain ⟨q, rfl⟩ : ∃ q : Nat, f = (q : Int) := ⟨f.toNat, by omega⟩
  obtain ⟨z, rfl⟩ : ∃ z : Nat, t = (z : Int) := ⟨t.toNat, by omega⟩
  have hqz : q ≤ z := by omega
  have hzs : (z : Int) ≤ sumL R.ps := by omega
  have HZS := Lib.hid hzs
  have HEQ := Lib.hid (btwA_good HVB.out HSB.out hqz hzs)
  have hbe : btwA S R q z = (tQ S R.ps z - tQ S R.ps q, tSl S R.ps z - tSl S R.ps q, 0) := HEQ.out
  have HBE := Lib.hid hbe
  clear hbe
  refine (Between_all q z pa pn pc ca cn cc ja jn jc R ra rn rc sa sn sc S w2 (HR.out.grow hB2 hB2.size) (HD.out.grow hB2 hB2.size)).mono ?_
  rintro e w3 ⟨rfl, hk⟩
  rw [HBE.out]
  clear HBE hf0 htf hts
  have hB3 := hB2.trans (hk.mono hB2.size)
  have hX3 := hX2.below hk hX2.lt
  have hY3 := hY2.below hk hY2.lt
  clear hX2 hY2 hB2 hk
  have y0 := fun d os => cell_regrown (hY3.cell 0) d os
  have y1 := fun d os => cell_regrown (hY3.cell 1) d os
  have y2 := fun d os => cell_regrown (hY3.cell 2) d os
  have y3 := fun d os => cell_regrown (hY3.cell 3) d os
  have HG2 := Lib.hid (fun d os => HD.out.grow (hB3.trans ((below_regrown w3 d os).mono hB3.size)) (Nat.le_trans hB3.size (below_regrown w3 d os).size))
  have HSp := Lib.hid (fun (W : World) (hW : SD W W.heap.size ra rn sa sn S) => RSpeeds_any ra rn rc sa sn sc S W hW)
  have HCk := Lib.hid (fun (W : World) (hW : SD W W.heap.size ra rn sa sn S) => SpCheck_any ra rn rc sa sn sc S W hW)
  have hlX := hX3.lt
  have hlY := hY3.lt
  go_wp2_with fail
  refine wp_region_ch 15 [1, 4, 6, 8, 10, 12] hmo (by kernel_rfl) ?_
  simp only [List.take_succ_cons, List.take_zero, List.drop_succ_cons, List.drop_zero]
  repeat (with_reducible refine wpC_q (by decide) (by decide) (fun K hK => ?_); go_simp; (try rw [if_neg (by simp [undef])]); refine hK _ ?_; clear hK K)
  with_reducible refine wpC_cg (ι := Unit) 20 #[.agg #[.int .i64 S.least, .int .i64 S.most, .slice ra rn rc, .slice sa sn sc]] (fun _ => .int .i64 0) (fun _ _ => True) (by decide) (by decide) (by go_simp) (fun w => by go_simp) stable_true (fun _ => stable_true) (fun W hW _ => ?_) (fun i0 hs0 => ?_)
  · obtain ⟨pp, rfl⟩ := hW
    refine (HCk.out _ (HG2.out _ _)).mono ?_
    rintro e w' ⟨rfl, hbl⟩
    exact ⟨(), by rw [HSE.out], trivial, hbl⟩
  repeat (with_reducible refine wpC_q (by decide) (by decide) (fun K hK => ?_); go_simp; (try rw [if_neg (by simp [undef])]); refine hK _ ?_; clear hK K)
  with_reducible refine wpC_cg (ι := Unit) 21 #[.agg #[.int .i64 S.least, .int .i64 S.most, .slice ra rn rc, .slice sa sn sc]] (fun _ => .bool true) (fun _ _ => True) (by decide) (by decide) (by go_simp) (fun w => by go_simp) hs0 (fun _ => stable_true) (fun W hW _ => ?_) (fun i1 hs1 => ?_)
  · obtain ⟨pp, rfl⟩ := hW
    refine (HSp.out _ (HG2.out _ _)).mono ?_
    rintro e w' ⟨rfl, hbl⟩
    exact ⟨(), by rw [HSB.out], trivial, hbl⟩
  repeat (with_reducible refine wpC_q (by decide) (by decide) (fun K hK => ?_); go_simp; (try rw [if_neg (by simp [undef])]); refine hK _ ?_; clear hK K)
  with_reducible refine wpC_vg (ι := Unit) (fun _ => .bool false) (fun _ _ => True) (by decide) (by decide) (by go_simp) hs1 (fun _ => stable_true) (fun W _ _ => ⟨(), W, by go_simp, trivial, Below.refl _ _⟩) (fun i2 hs2 => ?_)
  repeat (with_reducible refine wpC_q (by decide) (by decide) (fun K hK => ?_); go_simp; (try rw [if_neg (by simp [undef])]); refine hK _ ?_; clear hK K)
  with_reducible refine wpC_cg (ι := Unit) 21 #[.agg #[.int .i64 S.least, .int .i64 S.most, .slice ra rn rc, .slice sa sn sc]] (fun _ => .bool true) (fun _ _ => True) (by decide) (by decide) (by go_simp) (fun w => by go_simp) hs2 (fun _ => stable_true) (fun W hW _ => ?_) (fun i3 hs3 => ?_)
  · obtain ⟨pp, rfl⟩ := hW
    refine (HSp.out _ (HG2.out _ _)).mono ?_
    rintro e w' ⟨rfl, hbl⟩
    exact ⟨(), by rw [HSB.out], trivial, hbl⟩
  repeat (with_reducible refine wpC_q (by decide) (by decide) (fun K hK => ?_); go_simp; (try rw [if_neg (by simp [undef])]); refine hK _ ?_; clear hK K)
  with_reducible refine wpC_vg (ι := Unit) (fun _ => .bool false) (fun _ _ => True) (by decide) (by decide) (by go_simp) hs3 (fun _ => stable_true) (fun W _ _ => ⟨(), W, by go_simp, trivial, Below.refl _ _⟩) (fun i4 hs4 => ?_)
  repeat (with_reducible refine wpC_q (by decide) (by decide) (fun K hK => ?_); go_simp; (try rw [if_neg (by simp [undef])]); refine hK _ ?_; clear hK K)
  with_reducible refine wpC_off (by decide) (by go_simp) ?_
  repeat (with_reducible refine wpC_q (by decide) (by decide) (fun K hK => ?_); go_simp; (try rw [if_neg (by simp [undef])]); refine hK _ ?_; clear hK K)
  refine wpC_nil ?_
  intro w4 hb4 _
  clear y0 y1 y2 y3 HG2 HCk HSp hs0 hs1 hs2 hs3 hs4
  have hk := hb4
  have hB4 := hB3.trans (hk.mono hB3.size)
  have hX4 := hX3.below hk hX3.lt
  have hY4 := hY3.below hk hY3.lt
  clear hX3 hY3 hB3 hk
  have x0 := hX4.cell 0
  have x1 := hX4.cell 1
  have x2 := hX4.cell 2
  have y0 := hY4.cell 0
  have y1 := hY4.cell 1
  have y2 := hY4.cell 2
  have y3 := hY4.cell 3
  simp only [List.getElem?_toArray, List.getElem?_cons_zero, List.getElem?_cons_succ] at x0 x1 x2 y0 y1 y2 y3
  go_wp2_with fail
  clear x0 x1 x2 y0 y1 y2 y3
  refine (fine_any pa pn pc ca cn cc ja jn jc R ra rn rc sa sn sc S w4 (HR.out.grow hB4 hB4.size) (HD.out.grow hB4 hB4.size)).mono ?_
  rintro e w5 ⟨rfl, hk⟩
  have hB5 := hB4.trans (hk.mono hB4.size)
  have hX5 := hX4.below hk hX4.lt
  have hY5 := hY4.below hk hY4.lt
  clear hX4 hY4 hB4 hk
  rw [HVB.out, HSB.out]
  dsimp only [Bool.and_true, Bool.and_false, Bool.true_and, Bool.false_and]
  have x0 := hX5.cell 0
  have x1 := hX5.cell 1
  have x2 := hX5.cell 2
  have y0 := hY5.cell 0
  have y1 := hY5.cell 1
  have y2 := hY5.cell 2
  have y3 := hY5.cell 3
  simp only [List.getElem?_toArray, List.getElem?_cons_zero, List.getElem?_cons_succ] at x0 x1 x2 y0 y1 y2 y3
  go_wp2_with fail
  clear x0 x1 x2 y0 y1 y2 y3
  refine (R3Length_any pa pn pc ca cn cc ja jn jc R w5 (HR.out.grow hB5 hB5.size) HV.out).mono ?_
  rintro e w6 ⟨rfl, hk⟩
  have hB6 := hB5.trans (hk.mono hB5.size)
  have hX6 := hX5.below hk hX5.lt
  have hY6 := hY5.below hk hY5.lt
  clear hX5 hY5 hB5 hk
  have x0 := hX6.cell 0
  have x1 := hX6.cell 1
  have x2 := hX6.cell 2
  have y0 := hY6.cell 0
  have y1 := hY6.cell 1
  have y2 := hY6.cell 2
  have y3 := hY6.cell 3
  simp only [List.getElem?_toArray, List.getElem?_cons_zero, List.getElem?_cons_succ] at x0 x1 x2 y0 y1 y2 y3
  go_wp2_with fail
  clear x0 x1 x2 y0 y1 y2 y3
  refine (R3Between_any q z pa pn pc ca cn cc ja jn jc R ra rn rc sa sn sc S w6 (HR.out.grow hB6 hB6.size) (HD.out.grow hB6 hB6.size) HV.out ((spB_iff S).1 HSB.out) hqz HZS.out).mono ?_
  rintro e w7 ⟨rfl, hk⟩
  have hB7 := hB6.trans (hk.mono hB6.size)
  have hX7 := hX6.below hk hX6.lt
  have hY7 := hY6.below hk hY6.lt
  clear hX6 hY6 hB6 hk
  go_wp2_with fail
  have hBX := hB7
  refine (known_any _).mono ?_
  rintro e w9 ⟨rfl, hk⟩
  go_wp2_with fail
  go_ret
  exact ⟨rfl, hBX.trans (hk.mono hBX.size)⟩
end Go.Proofs.YtijcbfhlhgjedaaDoor
