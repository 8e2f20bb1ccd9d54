/- hairpinref08.Card and Cards, at a plan of one stage and plain cards. Printed by genrf8.py. -/
import Derived.Test.YtafclpmnpamipaaGreatQRfA
import Derived.Test.YtafclpmnpamipaaGreatQScE
namespace Go.Proofs.YtafclpmnpamipaaGreat
open Go.RowKit Go.Shelf Go.Sort Go.Proofs

theorem rf8AllB (A : Option Addr) (n c : Nat) (xs : List Int) (lo hi mn mx : Int) (w : World) (h : SL iC 1 w w.heap.size A n xs) (hn : n ≤ 1000) (h1 : lo ≤ n ∧ (n : Int) ≤ hi) (h2 : ∀ x ∈ xs, mn ≤ x ∧ x ≤ mx) :
    Calls Tryz.prog 35 #[.slice A n c, .int .i64 lo, .int .i64 hi, .int .i64 mn, .int .i64 mx] w fun e w' => e = .returned (.bool true) ∧ Below w.heap.size w w' :=
  (rf8All A n c xs lo hi mn mx w h hn h1 h2).mono fun _ _ ⟨a, b⟩ => ⟨a, b ▸ Below.refl _ _⟩
set_option maxRecDepth 100000 in
set_option maxHeartbeats 8000000 in
theorem rf8Legs (L : PlF) (w : World) (h : PD w w.heap.size L) :
    Calls Tryz.prog 84 #[plA L] w fun e w' => e = .returned (.int .i64 1) ∧ Below w.heap.size w w' := by
  obtain ⟨w0, hw0⟩ : ∃ w0, w0 = w.alloc (.cells #[.slice (some ⟨L.ib, 0, none⟩) 1 L.ic, .int .i64 1, .int .i64 0, .int .i64 0, .int .i64 L.ml, .int .i64 L.ll, .slice (some ⟨L.jb, 0, none⟩) 1 L.jc, .bool false, .int .i64 0, .int .i64 1, .int .i64 100, .int .i64 L.pow, .slice L.pa L.ps.length L.pc, .slice none 0 0] 42) := ⟨_, rfl⟩
  have hX0 : BK w0 w.heap.size 42 #[.slice (some ⟨L.ib, 0, none⟩) 1 L.ic, .int .i64 1, .int .i64 0, .int .i64 0, .int .i64 L.ml, .int .i64 L.ll, .slice (some ⟨L.jb, 0, none⟩) 1 L.jc, .bool false, .int .i64 0, .int .i64 1, .int .i64 100, .int .i64 L.pow, .slice L.pa L.ps.length L.pc, .slice none 0 0] := by rw [hw0]; exact BK.new w _ _
  have hB0 : Below w.heap.size w w0 := by rw [hw0]; exact (Below.refl _ w).alloc (Nat.le_refl _) _
  have HP0 := Lib.hid (h.grow hB0 hB0.size)
  obtain ⟨i0, i1, i2, i3⟩ := HP0.out.it
  rw [hw0] at i0 i1 i2 i3
  clear h hX0
  unfold plA
  go_enter Tryz.func84, Tryz.ntmps84
  go_wp2_with fail
  go_ret
  exact ⟨rfl, hw0 ▸ hB0⟩
set_option maxRecDepth 100000 in
set_option maxHeartbeats 8000000 in
theorem rf8Line (x : CdV) (w : World) (h : (0 ≤ x.mi ∧ x.mi ≤ 100000) ∧ (1 ≤ x.t ∧ x.t ≤ 36000000)) :
    Calls Tryz.prog 85 #[.agg #[.int .i64 2, .int .i64 0, .int .i64 0, .bool false], .agg #[.int .i64 x.mi, .int .i64 x.t, .bool false, .int .i64 0]] w fun e w' => e = .returned (.bool true) ∧ Below w.heap.size w w' := by
  obtain ⟨w0, hw0⟩ : ∃ w0, w0 = (w.alloc (.cells #[.int .i64 2, .int .i64 0, .int .i64 0, .bool false] 36)).alloc (.cells #[.int .i64 x.mi, .int .i64 x.t, .bool false, .int .i64 0] 55) := ⟨_, rfl⟩
  have hX0 : BK w0 w.heap.size 36 #[.int .i64 2, .int .i64 0, .int .i64 0, .bool false] := by rw [hw0]; exact (BK.new w _ _).alloc _
  have hZ0 : BK w0 (w.heap.size + 1) 55 #[.int .i64 x.mi, .int .i64 x.t, .bool false, .int .i64 0] := by
    have := BK.new (w.alloc (.cells #[.int .i64 2, .int .i64 0, .int .i64 0, .bool false] 36)) 55 #[.int .i64 x.mi, .int .i64 x.t, .bool false, .int .i64 0]
    rw [World.size_alloc] at this
    rw [hw0]; exact this
  have hB0 : Below w.heap.size w w0 := by rw [hw0]; exact ((Below.refl _ w).alloc (Nat.le_refl _) _).alloc (by simp) _
  obtain ⟨z0, z1, z2, z3⟩ := bk4 hZ0
  have i0 := hX0.cell 0
  have i1 := hX0.cell 1
  have i2 := hX0.cell 2
  have i3 := hX0.cell 3
  simp only [List.getElem?_toArray, List.getElem?_cons_zero, List.getElem?_cons_succ] at i0 i1 i2 i3
  have ht : decide (0 < x.t) = true := by simp; omega
  have ht0 : 0 ≤ x.t := by omega
  clear hX0 hZ0
  go_enter Tryz.func85, Tryz.ntmps85
  go_wp2_with fail
  rw [← hw0]
  clear hw0
  go_wp2_with (go_at_call 34; refine (rf8In_yes _ _ _ _ (by constructor <;> omega)).mono ?_; rintro e w' ⟨rfl, rfl⟩)
  go_ret
  exact ⟨rfl, hB0⟩
set_option maxRecDepth 100000 in
set_option maxHeartbeats 8000000 in
theorem rf8Card (L : PlF) (x : CdV) (w : World) (hp : PD w w.heap.size L) (h : CD w w.heap.size x) :
    Calls Tryz.prog 36 #[plA L, .agg #[.int .i64 0, .slice (some ⟨x.sb, 0, none⟩) 1 x.sc, .slice (some ⟨x.lb, 0, none⟩) 1 x.lc]] w fun e w' => e = .returned (.bool true) ∧ Below w.heap.size w w' := by
  have hmo : Tryz.prog.follows .mixedOrders = true := by kernel_rfl
  obtain ⟨w0, hw0⟩ : ∃ w0, w0 = (w.alloc (.cells #[.slice (some ⟨L.ib, 0, none⟩) 1 L.ic, .int .i64 1, .int .i64 0, .int .i64 0, .int .i64 L.ml, .int .i64 L.ll, .slice (some ⟨L.jb, 0, none⟩) 1 L.jc, .bool false, .int .i64 0, .int .i64 1, .int .i64 100, .int .i64 L.pow, .slice L.pa L.ps.length L.pc, .slice none 0 0] 42)).alloc (.cells #[.int .i64 0, .slice (some ⟨x.sb, 0, none⟩) 1 x.sc, .slice (some ⟨x.lb, 0, none⟩) 1 x.lc] 58) := ⟨_, rfl⟩
  have hX0 : BK w0 w.heap.size 42 #[.slice (some ⟨L.ib, 0, none⟩) 1 L.ic, .int .i64 1, .int .i64 0, .int .i64 0, .int .i64 L.ml, .int .i64 L.ll, .slice (some ⟨L.jb, 0, none⟩) 1 L.jc, .bool false, .int .i64 0, .int .i64 1, .int .i64 100, .int .i64 L.pow, .slice L.pa L.ps.length L.pc, .slice none 0 0] := by rw [hw0]; exact (BK.new w _ _).alloc _
  have hY0 : BK w0 (w.heap.size + 1) 58 #[.int .i64 0, .slice (some ⟨x.sb, 0, none⟩) 1 x.sc, .slice (some ⟨x.lb, 0, none⟩) 1 x.lc] := by
    have := BK.new (w.alloc (.cells #[.slice (some ⟨L.ib, 0, none⟩) 1 L.ic, .int .i64 1, .int .i64 0, .int .i64 0, .int .i64 L.ml, .int .i64 L.ll, .slice (some ⟨L.jb, 0, none⟩) 1 L.jc, .bool false, .int .i64 0, .int .i64 1, .int .i64 100, .int .i64 L.pow, .slice L.pa L.ps.length L.pc, .slice none 0 0] 42)) 58 #[.int .i64 0, .slice (some ⟨x.sb, 0, none⟩) 1 x.sc, .slice (some ⟨x.lb, 0, none⟩) 1 x.lc]
    rw [World.size_alloc] at this
    rw [hw0]; exact this
  have hB0 : Below w.heap.size w w0 := by rw [hw0]; exact ((Below.refl _ w).alloc (Nat.le_refl _) _).alloc (by simp) _
  have HP0 := Lib.hid (hp.grow hB0 hB0.size)
  have HC0 := Lib.hid (h.grow hB0 hB0.size)
  have HX0 := Lib.hid hX0
  have HY0 := Lib.hid hY0
  have HB0 := Lib.hid hB0
  have HC : Hid (0 ≤ x.st ∧ x.st ≤ 100000) := h.st
  have HCL : Hid ((0 ≤ x.mi ∧ x.mi ≤ 100000) ∧ (1 ≤ x.t ∧ x.t ≤ 36000000)) := ⟨h.mi, h.t⟩
  obtain ⟨x0, x1, x2, x3, x4, x5, x6, x7, x8, x9, x10, x11, x12, x13⟩ := bk14 hX0
  obtain ⟨y0, y1, y2⟩ := bk3 hY0
  obtain ⟨i0, i1, i2, i3⟩ := HP0.out.it
  clear h hp hX0 hY0 hB0
  have hwz : IntKind.i64.wrap 0 = 0 := by decide
  unfold plA
  go_enter Tryz.func36, Tryz.ntmps36
  go_wp2_with fail
  rw [← hw0]
  clear hw0
  go_wp2_with fail
  have x0 := fun d os => cell_regrown x0 d os
  have x1 := fun d os => cell_regrown x1 d os
  have x2 := fun d os => cell_regrown x2 d os
  have x3 := fun d os => cell_regrown x3 d os
  have x4 := fun d os => cell_regrown x4 d os
  have x5 := fun d os => cell_regrown x5 d os
  have x6 := fun d os => cell_regrown x6 d os
  have x7 := fun d os => cell_regrown x7 d os
  have x8 := fun d os => cell_regrown x8 d os
  have x9 := fun d os => cell_regrown x9 d os
  have x10 := fun d os => cell_regrown x10 d os
  have x11 := fun d os => cell_regrown x11 d os
  have x12 := fun d os => cell_regrown x12 d os
  have x13 := fun d os => cell_regrown x13 d os
  have y0 := fun d os => cell_regrown y0 d os
  have y1 := fun d os => cell_regrown y1 d os
  have y2 := fun d os => cell_regrown y2 d os
  have i0 := fun d os => cell_regrown i0 d os
  have i1 := fun d os => cell_regrown i1 d os
  have i2 := fun d os => cell_regrown i2 d os
  have i3 := fun d os => cell_regrown i3 d os
  have HPG := Lib.hid (fun d os => HP0.out.grow (below_regrown w0 d os) (below_regrown w0 d os).size)
  have HCG := Lib.hid (fun d os => HC0.out.grow (below_regrown w0 d os) (below_regrown w0 d os).size)
  refine wp_region_ch 25 [5, 7, 11, 13, 14, 17] hmo (by kernel_rfl) ?_
  simp only [List.take_succ_cons, List.take_zero, List.drop_succ_cons, List.drop_zero]
  repeat (with_reducible refine wpC_q (by decide) (by decide) (fun K hK => ?_); go_simp; (try rw [if_neg (by simp [undef])]); refine hK _ ?_; clear hK K)
  with_reducible refine wpC_cg (ι := Unit) 34 #[.int .i64 0, .int .i64 0, .int .i64 0] (fun _ => .bool true) (fun _ _ => True) (by decide) (by decide) (by go_simp) (fun w => by go_simp) stable_true (fun _ => stable_true) (fun W hW _ => ?_) (fun i0 hs0 => ?_)
  · obtain ⟨pp, rfl⟩ := hW
    refine (rf8In_yesB _ _ _ _ (by decide)).mono ?_
    rintro e w' ⟨rfl, hbl⟩
    exact ⟨(), rfl, trivial, hbl⟩
  repeat (with_reducible refine wpC_q (by decide) (by decide) (fun K hK => ?_); go_simp; (try rw [if_neg (by simp [undef])]); refine hK _ ?_; clear hK K)
  with_reducible refine wpC_vg (ι := Unit) (fun _ => .bool false) (fun _ _ => True) (by decide) (by decide) (by go_simp) hs0 (fun _ => stable_true) (fun W _ _ => ⟨(), W, by go_simp, trivial, Below.refl _ _⟩) (fun i1 hs1 => ?_)
  repeat (with_reducible refine wpC_q (by decide) (by decide) (fun K hK => ?_); go_simp; (try rw [if_neg (by simp [undef])]); refine hK _ ?_; clear hK K)
  with_reducible refine wpC_cg (ι := Unit) 84 #[.agg #[.slice (some ⟨L.ib, 0, none⟩) 1 L.ic, .int .i64 1, .int .i64 0, .int .i64 0, .int .i64 L.ml, .int .i64 L.ll, .slice (some ⟨L.jb, 0, none⟩) 1 L.jc, .bool false, .int .i64 0, .int .i64 1, .int .i64 100, .int .i64 L.pow, .slice L.pa L.ps.length L.pc, .slice none 0 0]] (fun _ => .int .i64 1) (fun _ _ => True) (by decide) (by decide) (by go_simp) (fun w => by go_simp) hs1 (fun _ => stable_true) (fun W hW _ => ?_) (fun i2 hs2 => ?_)
  · obtain ⟨pp, rfl⟩ := hW
    refine (rf8Legs L _ (HPG.out _ _)).mono ?_
    rintro e w' ⟨rfl, hbl⟩
    exact ⟨(), rfl, trivial, hbl⟩
  repeat (with_reducible refine wpC_q (by decide) (by decide) (fun K hK => ?_); go_simp; (try rw [if_neg (by simp [undef])]); refine hK _ ?_; clear hK K)
  with_reducible refine wpC_cg (ι := Unit) 84 #[.agg #[.slice (some ⟨L.ib, 0, none⟩) 1 L.ic, .int .i64 1, .int .i64 0, .int .i64 0, .int .i64 L.ml, .int .i64 L.ll, .slice (some ⟨L.jb, 0, none⟩) 1 L.jc, .bool false, .int .i64 0, .int .i64 1, .int .i64 100, .int .i64 L.pow, .slice L.pa L.ps.length L.pc, .slice none 0 0]] (fun _ => .int .i64 1) (fun _ _ => True) (by decide) (by decide) (by go_simp) (fun w => by go_simp) hs2 (fun _ => stable_true) (fun W hW _ => ?_) (fun i3 hs3 => ?_)
  · obtain ⟨pp, rfl⟩ := hW
    refine (rf8Legs L _ (HPG.out _ _)).mono ?_
    rintro e w' ⟨rfl, hbl⟩
    exact ⟨(), rfl, trivial, hbl⟩
  repeat (with_reducible refine wpC_q (by decide) (by decide) (fun K hK => ?_); go_simp; (try rw [if_neg (by simp [undef])]); refine hK _ ?_; clear hK K)
  with_reducible refine wpC_cg (ι := Unit) 35 #[.slice (some ⟨x.sb, 0, none⟩) 1 x.sc, .int .i64 1, .int .i64 1, .int .i64 0, .int .i64 100000] (fun _ => .bool true) (fun _ _ => True) (by decide) (by decide) (by go_simp) (fun w => by go_simp) hs3 (fun _ => stable_true) (fun W hW _ => ?_) (fun i4 hs4 => ?_)
  · obtain ⟨pp, rfl⟩ := hW
    refine (rf8AllB _ _ _ [x.st] _ _ _ _ _ (CX.ints (xs := [x.st]) (HCG.out _ _).s) (by simp) (by simp) (by have := HC.out; simp; omega)).mono ?_
    rintro e w' ⟨rfl, hbl⟩
    exact ⟨(), rfl, trivial, hbl⟩
  repeat (with_reducible refine wpC_q (by decide) (by decide) (fun K hK => ?_); go_simp; (try rw [if_neg (by simp [undef])]); refine hK _ ?_; clear hK K)
  with_reducible refine wpC_vg (ι := Unit) (fun _ => .bool false) (fun _ _ => True) (by decide) (by decide) (by go_simp) hs4 (fun _ => stable_true) (fun W _ _ => ⟨(), W, by go_simp, trivial, Below.refl _ _⟩) (fun i5 hs5 => ?_)
  repeat (with_reducible refine wpC_q (by decide) (by decide) (fun K hK => ?_); go_simp; (try rw [if_neg (by simp [undef])]); refine hK _ ?_; clear hK K)
  refine wpC_nil ?_
  intro w1 hb1 _
  clear x0 x1 x2 x3 x4 x5 x6 x7 x8 x9 x10 x11 x12 x13 y0 y1 y2 i0 i1 i2 i3 HPG HCG hs0 hs1 hs2 hs3 hs4 hs5
  have HX1 := Lib.hid (HX0.out.below hb1 HX0.out.lt)
  have HY1 := Lib.hid (HY0.out.below hb1 HY0.out.lt)
  have HP1 := Lib.hid (HP0.out.grow hb1 hb1.size)
  have HC1 := Lib.hid (HC0.out.grow hb1 hb1.size)
  have HB1 := Lib.hid (HB0.out.trans (hb1.mono HB0.out.size))
  clear hb1 HB0 HX0 HY0 HP0 HC0
  obtain ⟨x0, x1, x2, x3, x4, x5, x6, x7, x8, x9, x10, x11, x12, x13⟩ := bk14 HX1.out
  obtain ⟨y0, y1, y2⟩ := bk3 HY1.out
  obtain ⟨i0, i1, i2, i3⟩ := HP1.out.it
  obtain ⟨l0, l1, l2, l3⟩ := HC1.out.ln
  go_wp2_with fail
  refine wp_loop_rounds 2 ?_
  rw [rounds_succ]
  go_wp2_with fail
  have x0 := fun d os => cell_regrown x0 d os
  have x1 := fun d os => cell_regrown x1 d os
  have x2 := fun d os => cell_regrown x2 d os
  have x3 := fun d os => cell_regrown x3 d os
  have x4 := fun d os => cell_regrown x4 d os
  have x5 := fun d os => cell_regrown x5 d os
  have x6 := fun d os => cell_regrown x6 d os
  have x7 := fun d os => cell_regrown x7 d os
  have x8 := fun d os => cell_regrown x8 d os
  have x9 := fun d os => cell_regrown x9 d os
  have x10 := fun d os => cell_regrown x10 d os
  have x11 := fun d os => cell_regrown x11 d os
  have x12 := fun d os => cell_regrown x12 d os
  have x13 := fun d os => cell_regrown x13 d os
  have y0 := fun d os => cell_regrown y0 d os
  have y1 := fun d os => cell_regrown y1 d os
  have y2 := fun d os => cell_regrown y2 d os
  have i0 := fun d os => cell_regrown i0 d os
  have i1 := fun d os => cell_regrown i1 d os
  have i2 := fun d os => cell_regrown i2 d os
  have i3 := fun d os => cell_regrown i3 d os
  have l0 := fun d os => cell_regrown l0 d os
  have l1 := fun d os => cell_regrown l1 d os
  have l2 := fun d os => cell_regrown l2 d os
  have l3 := fun d os => cell_regrown l3 d os
  refine wp_region_ch 11 [10] hmo (by kernel_rfl) ?_
  simp only [List.take_succ_cons, List.take_zero, List.drop_succ_cons, List.drop_zero]
  repeat (with_reducible refine wpC_q (by decide) (by decide) (fun K hK => ?_); go_simp; (try rw [if_neg (by simp [undef])]); refine hK _ ?_; clear hK K)
  with_reducible refine wpC_cg (ι := Unit) 85 #[.agg #[.int .i64 2, .int .i64 0, .int .i64 0, .bool false], .agg #[.int .i64 x.mi, .int .i64 x.t, .bool false, .int .i64 0]] (fun _ => .bool true) (fun _ _ => True) (by decide) (by decide) (by go_simp) (fun w => by go_simp) stable_true (fun _ => stable_true) (fun W hW _ => ?_) (fun i0 hs0 => ?_)
  · obtain ⟨pp, rfl⟩ := hW
    refine (rf8Line x _ HCL.out).mono ?_
    rintro e w' ⟨rfl, hbl⟩
    exact ⟨(), rfl, trivial, hbl⟩
  repeat (with_reducible refine wpC_q (by decide) (by decide) (fun K hK => ?_); go_simp; (try rw [if_neg (by simp [undef])]); refine hK _ ?_; clear hK K)
  refine wpC_nil ?_
  intro w2 hb2 _
  clear x0 x1 x2 x3 x4 x5 x6 x7 x8 x9 x10 x11 x12 x13 y0 y1 y2 i0 i1 i2 i3 l0 l1 l2 l3 hs0
  have HX2 := Lib.hid (HX1.out.below hb2 HX1.out.lt)
  have HY2 := Lib.hid (HY1.out.below hb2 HY1.out.lt)
  have HP2 := Lib.hid (HP1.out.grow hb2 hb2.size)
  have HC2 := Lib.hid (HC1.out.grow hb2 hb2.size)
  have HB2 := Lib.hid (HB1.out.trans (hb2.mono HB1.out.size))
  clear hb2 HB1 HX1 HY1 HP1 HC1
  obtain ⟨x0, x1, x2, x3, x4, x5, x6, x7, x8, x9, x10, x11, x12, x13⟩ := bk14 HX2.out
  obtain ⟨y0, y1, y2⟩ := bk3 HY2.out
  obtain ⟨i0, i1, i2, i3⟩ := HP2.out.it
  obtain ⟨l0, l1, l2, l3⟩ := HC2.out.ln
  go_wp2_with fail
  go_quiet (fail)
  go_wp2_with fail
  obtain ⟨w3, hw3⟩ : ∃ w3, w3 = w2.drewN nq := ⟨_, rfl⟩
  have hb3 : Below w2.heap.size w2 w3 := by rw [hw3]; exact below_drewN (Below.refl _ w2) _
  have HX3 := Lib.hid (HX2.out.below hb3 HX2.out.lt)
  have HY3 := Lib.hid (HY2.out.below hb3 HY2.out.lt)
  have HP3 := Lib.hid (HP2.out.grow hb3 hb3.size)
  have HC3 := Lib.hid (HC2.out.grow hb3 hb3.size)
  have HB3 := Lib.hid (HB2.out.trans (hb3.mono HB2.out.size))
  clear hb3 HB2 HX2 HY2 HP2 HC2
  rw [← hw3]
  clear hw3 x0 x1 x2 x3 x4 x5 x6 x7 x8 x9 x10 x11 x12 x13 y0 y1 y2 i0 i1 i2 i3 l0 l1 l2 l3
  obtain ⟨x0, x1, x2, x3, x4, x5, x6, x7, x8, x9, x10, x11, x12, x13⟩ := bk14 HX3.out
  rw [rounds_succ]
  go_wp2_with fail
  go_ret
  exact ⟨rfl, HB3.out⟩
set_option maxRecDepth 100000 in
set_option maxHeartbeats 8000000 in
theorem rf8Cards (L : PlF) (ca : Option Addr) (cn cc : Nat) (xs : List CdV) (w : World) (hp : PD w w.heap.size L) (h : CDS w w.heap.size ca cn xs) (hn : cn ≤ 200) :
    Calls Tryz.prog 12 #[plA L, .slice ca cn cc] w fun e w' => e = .returned (.bool true) ∧ Below w.heap.size w w' := by
  have hmo : Tryz.prog.follows .mixedOrders = true := by kernel_rfl
  obtain ⟨w0, hw0⟩ : ∃ w0, w0 = w.alloc (.cells #[.slice (some ⟨L.ib, 0, none⟩) 1 L.ic, .int .i64 1, .int .i64 0, .int .i64 0, .int .i64 L.ml, .int .i64 L.ll, .slice (some ⟨L.jb, 0, none⟩) 1 L.jc, .bool false, .int .i64 0, .int .i64 1, .int .i64 100, .int .i64 L.pow, .slice L.pa L.ps.length L.pc, .slice none 0 0] 42) := ⟨_, rfl⟩
  have hX0 : BK w0 w.heap.size 42 #[.slice (some ⟨L.ib, 0, none⟩) 1 L.ic, .int .i64 1, .int .i64 0, .int .i64 0, .int .i64 L.ml, .int .i64 L.ll, .slice (some ⟨L.jb, 0, none⟩) 1 L.jc, .bool false, .int .i64 0, .int .i64 1, .int .i64 100, .int .i64 L.pow, .slice L.pa L.ps.length L.pc, .slice none 0 0] := by rw [hw0]; exact BK.new w _ _
  have hB0 : Below w.heap.size w w0 := by rw [hw0]; exact (Below.refl _ w).alloc (Nat.le_refl _) _
  have HP0 := Lib.hid (hp.grow hB0 hB0.size)
  have HC0 := Lib.hid (h.grow hB0 hB0.size)
  have HX0 := Lib.hid hX0
  have HB0 := Lib.hid hB0
  have HL := Lib.hid h.s.1
  have gn : decide ((200 : Int) < (cn : Int)) = false := by simp; omega
  clear h hp hX0 hB0
  unfold plA
  go_enter Tryz.func12, Tryz.ntmps12
  go_wp2_with fail
  rw [← hw0]
  clear hw0
  go_wp2_with fail
  go_loopw [5] (fun i wr => ∃ k : Nat, k ≤ cn ∧ i = .int .i64 k ∧ Below w0.heap.size w0 wr)
    (fun i _ => cn - (intOf i).toNat)
  case atStart => exact ⟨0, Nat.zero_le _, rfl, Below.refl _ _⟩
  case round =>
    obtain ⟨k, hk, rfl, hbr⟩ := hrel
    by_cases hlt : k < cn
    · obtain ⟨w1, hw1⟩ : ∃ w1, w1 = wr := ⟨_, rfl⟩
      subst hw1
      have hb1 := hbr
      have HX1 := Lib.hid (HX0.out.below hb1 HX0.out.lt)
      have HP1 := Lib.hid (HP0.out.grow hb1 hb1.size)
      have HC1 := Lib.hid (HC0.out.grow hb1 hb1.size)
      have HBr := Lib.hid hb1
      clear hb1 hbr
      have hkl : k < xs.length := by rw [← HL.out]; exact hlt
      obtain ⟨b, off, hA, hbB, c0, c1, c2, hcd⟩ := HC1.out.at_ (k := k) hkl
      generalize xs[k]'hkl = x at c1 c2 hcd
      have HD1 := Lib.hid hcd
      have hk1 : (0 : Int) ≤ (k : Int) := by omega
      have hk2 : (k : Int) < (cn : Int) := by omega
      clear hkl hcd
      subst hA
      obtain ⟨x0, x1, x2, x3, x4, x5, x6, x7, x8, x9, x10, x11, x12, x13⟩ := bk14 HX1.out
      go_wp2_with fail
      have x0 := fun d os => cell_regrown x0 d os
      have x1 := fun d os => cell_regrown x1 d os
      have x2 := fun d os => cell_regrown x2 d os
      have x3 := fun d os => cell_regrown x3 d os
      have x4 := fun d os => cell_regrown x4 d os
      have x5 := fun d os => cell_regrown x5 d os
      have x6 := fun d os => cell_regrown x6 d os
      have x7 := fun d os => cell_regrown x7 d os
      have x8 := fun d os => cell_regrown x8 d os
      have x9 := fun d os => cell_regrown x9 d os
      have x10 := fun d os => cell_regrown x10 d os
      have x11 := fun d os => cell_regrown x11 d os
      have x12 := fun d os => cell_regrown x12 d os
      have x13 := fun d os => cell_regrown x13 d os
      have c0 := fun d os => cell_regrown c0 d os
      have c1 := fun d os => cell_regrown c1 d os
      have c2 := fun d os => cell_regrown c2 d os
      have HPG := Lib.hid (fun d os => HP1.out.grow (below_regrown w1 d os) (below_regrown w1 d os).size)
      have HCG := Lib.hid (fun d os => HD1.out.grow (below_regrown w1 d os) (below_regrown w1 d os).size)

      refine wp_region_ch 6 [5] hmo (by kernel_rfl) ?_
      simp only [List.take_succ_cons, List.take_zero, List.drop_succ_cons, List.drop_zero]
      repeat (with_reducible refine wpC_q (by decide) (by decide) (fun K hK => ?_); go_simp; (try rw [if_neg (by simp [undef])]); refine hK _ ?_; clear hK K)
      with_reducible refine wpC_cg (ι := Unit) 36 #[.agg #[.slice (some ⟨L.ib, 0, none⟩) 1 L.ic, .int .i64 1, .int .i64 0, .int .i64 0, .int .i64 L.ml, .int .i64 L.ll, .slice (some ⟨L.jb, 0, none⟩) 1 L.jc, .bool false, .int .i64 0, .int .i64 1, .int .i64 100, .int .i64 L.pow, .slice L.pa L.ps.length L.pc, .slice none 0 0], .agg #[.int .i64 0, .slice (some ⟨x.sb, 0, none⟩) 1 x.sc, .slice (some ⟨x.lb, 0, none⟩) 1 x.lc]] (fun _ => .bool true) (fun _ _ => True) (by decide) (by decide) (by go_simp) (fun w => by go_simp) stable_true (fun _ => stable_true) (fun W hW _ => ?_) (fun i0 hs0 => ?_)
      · obtain ⟨pp, rfl⟩ := hW
        refine (rf8Card L x _ (HPG.out _ _) (HCG.out _ _)).mono ?_
        rintro e w' ⟨rfl, hbl⟩
        exact ⟨(), rfl, trivial, hbl⟩
      repeat (with_reducible refine wpC_q (by decide) (by decide) (fun K hK => ?_); go_simp; (try rw [if_neg (by simp [undef])]); refine hK _ ?_; clear hK K)
      refine wpC_nil ?_
      intro w2 hb2 _
      clear x0 x1 x2 x3 x4 x5 x6 x7 x8 x9 x10 x11 x12 x13 c0 c1 c2 HPG HCG hs0
      go_wp2_with fail
      go_roundw
      case rel => exact ⟨k + 1, by omega, by go_num, HBr.out.trans (hb2.mono HBr.out.size)⟩
      case measure => simp [intOf]; omega
    · obtain rfl : k = cn := by omega
      go_wp2_with fail
      go_ret
      exact ⟨rfl, HB0.out.trans (hbr.mono HB0.out.size)⟩
end Go.Proofs.YtafclpmnpamipaaGreat
