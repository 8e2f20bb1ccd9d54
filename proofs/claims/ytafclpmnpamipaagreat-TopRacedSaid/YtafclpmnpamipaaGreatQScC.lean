/- Package score: which cards are as defined, at a plan of one stage and plain cards. Printed by genscore.py. -/
import Derived.Test.YtafclpmnpamipaaGreatQScB
import Derived.Test.YtafclpmnpamipaaGreatQRegV
namespace Go.Proofs.YtafclpmnpamipaaGreat
open Go.RowKit Go.Shelf Go.Sort Go.Proofs

theorem scw_yesB (x lo hi : Int) (w : World) (h : lo ≤ x ∧ x ≤ hi) :
    Calls Tryz.prog 132 #[.int .i64 x, .int .i64 lo, .int .i64 hi] w fun e w' => e = .returned (.bool true) ∧ Below w.heap.size w w' :=
  (scw_yes x lo hi w h).mono fun _ _ ⟨h1, h2⟩ => ⟨h1, h2 ▸ Below.refl _ _⟩
theorem bk3 {w : World} {b : Nat} {x : CdV} {t : TypeId} (h : BK w b t #[.int .i64 0, .slice (some ⟨x.sb, 0, none⟩) 1 x.sc, .slice (some ⟨x.lb, 0, none⟩) 1 x.lc]) : w.cell? ⟨b, 0, none⟩ = some (.int .i64 0) ∧ w.cell? ⟨b, 1, none⟩ = some (.slice (some ⟨x.sb, 0, none⟩) 1 x.sc) ∧ w.cell? ⟨b, 2, none⟩ = some (.slice (some ⟨x.lb, 0, none⟩) 1 x.lc) :=
  ⟨h.cell 0, h.cell 1, h.cell 2⟩
theorem bk4 {w : World} {b : Nat} {x : CdV} {t : TypeId} (h : BK w b t #[.int .i64 x.mi, .int .i64 x.t, .bool false, .int .i64 0]) : w.cell? ⟨b, 0, none⟩ = some (.int .i64 x.mi) ∧ w.cell? ⟨b, 1, none⟩ = some (.int .i64 x.t) ∧ w.cell? ⟨b, 2, none⟩ = some (.bool false) ∧ w.cell? ⟨b, 3, none⟩ = some (.int .i64 0) :=
  ⟨h.cell 0, h.cell 1, h.cell 2, h.cell 3⟩
set_option maxRecDepth 100000 in
set_option maxHeartbeats 8000000 in
theorem scLine (x : CdV) (w : World) (h : (0 ≤ x.mi ∧ x.mi ≤ 100000) ∧ (1 ≤ x.t ∧ x.t ≤ 36000000)) :
    Calls Tryz.prog 134 #[.agg #[.int .i64 2, .int .i64 0, .int .i64 0, .bool false], .agg #[.int .i64 x.mi, .int .i64 x.t, .bool false, .int .i64 0]] w fun e w' => e = .returned (.bool true) ∧ Below w.heap.size w w' := by
  have hb1 : Below w.heap.size w ((w.alloc (.cells #[.int .i64 2, .int .i64 0, .int .i64 0, .bool false] 36)).alloc (.cells #[.int .i64 x.mi, .int .i64 x.t, .bool false, .int .i64 0] 55)) := ((Below.refl _ w).alloc (Nat.le_refl _) _).alloc (by simp) _
  have h0 : 0 < x.t := by omega
  have h1 : (x.t == 0) = false := by simp; omega
  go_enter Tryz.func134, Tryz.ntmps134
  go_wp2_with (go_at_call 132; refine (scw_yes _ _ _ _ (by constructor <;> omega)).mono ?_; rintro e w' ⟨rfl, rfl⟩)
  go_ret
  exact ⟨rfl, hb1⟩
set_option maxRecDepth 100000 in
set_option maxHeartbeats 8000000 in
theorem scCard (L : PlF) (x : CdV) (w : World) (hp : PD w w.heap.size L) (h : CD w w.heap.size x) :
    Calls Tryz.prog 89 #[plA L, .agg #[.int .i64 0, .slice (some ⟨x.sb, 0, none⟩) 1 x.sc, .slice (some ⟨x.lb, 0, none⟩) 1 x.lc]] w fun e w' => e = .returned (.int .i64 0) ∧ Below w.heap.size w w' := by
  have hmo : Tryz.prog.follows .mixedOrders = true := by kernel_rfl
  obtain ⟨w0, hw0⟩ : ∃ w0, w0 = (w.alloc (.cells #[.slice (some ⟨L.ib, 0, none⟩) 1 L.ic, .int .i64 1, .int .i64 0, .int .i64 0, .int .i64 L.ml, .int .i64 L.ll, .slice (some ⟨L.jb, 0, none⟩) 1 L.jc, .bool false, .int .i64 0, .int .i64 1, .int .i64 100, .int .i64 L.pow, .slice L.pa L.ps.length L.pc, .slice none 0 0] 42)).alloc (.cells #[.int .i64 0, .slice (some ⟨x.sb, 0, none⟩) 1 x.sc, .slice (some ⟨x.lb, 0, none⟩) 1 x.lc] 58) := ⟨_, rfl⟩
  have hX0 : BK w0 w.heap.size 42 #[.slice (some ⟨L.ib, 0, none⟩) 1 L.ic, .int .i64 1, .int .i64 0, .int .i64 0, .int .i64 L.ml, .int .i64 L.ll, .slice (some ⟨L.jb, 0, none⟩) 1 L.jc, .bool false, .int .i64 0, .int .i64 1, .int .i64 100, .int .i64 L.pow, .slice L.pa L.ps.length L.pc, .slice none 0 0] := by rw [hw0]; exact (BK.new w _ _).alloc _
  have hY0 : BK w0 (w.heap.size + 1) 58 #[.int .i64 0, .slice (some ⟨x.sb, 0, none⟩) 1 x.sc, .slice (some ⟨x.lb, 0, none⟩) 1 x.lc] := by
    have := BK.new (w.alloc (.cells #[.slice (some ⟨L.ib, 0, none⟩) 1 L.ic, .int .i64 1, .int .i64 0, .int .i64 0, .int .i64 L.ml, .int .i64 L.ll, .slice (some ⟨L.jb, 0, none⟩) 1 L.jc, .bool false, .int .i64 0, .int .i64 1, .int .i64 100, .int .i64 L.pow, .slice L.pa L.ps.length L.pc, .slice none 0 0] 42)) 58 #[.int .i64 0, .slice (some ⟨x.sb, 0, none⟩) 1 x.sc, .slice (some ⟨x.lb, 0, none⟩) 1 x.lc]
    rw [World.size_alloc] at this
    rw [hw0]; exact this
  have hB0 : Below w.heap.size w w0 := by rw [hw0]; exact ((Below.refl _ w).alloc (Nat.le_refl _) _).alloc (by simp) _
  have HP0 := Lib.hid (hp.grow hB0 hB0.size)
  have HC0 := Lib.hid (h.grow hB0 hB0.size)
  have HX0 := Lib.hid hX0
  have HY0 := Lib.hid hY0
  have HB0 := Lib.hid hB0
  have HC : Hid (0 ≤ x.st ∧ x.st ≤ 100000) := h.st
  have HCL : Hid ((0 ≤ x.mi ∧ x.mi ≤ 100000) ∧ (1 ≤ x.t ∧ x.t ≤ 36000000)) := ⟨h.mi, h.t⟩
  obtain ⟨x0, x1, x2, x3, x4, x5, x6, x7, x8, x9, x10, x11, x12, x13⟩ := bk14 hX0
  obtain ⟨y0, y1, y2⟩ := bk3 hY0
  obtain ⟨i0, i1, i2, i3⟩ := HP0.out.it
  clear h hp hX0 hY0 hB0
  have hwz : IntKind.i64.wrap 0 = 0 := by decide
  have hwo : IntKind.i64.wrap 1 = 1 := by decide
  unfold plA
  go_enter Tryz.func89, Tryz.ntmps89
  go_wp2_with fail
  rw [← hw0]
  clear hw0
  go_wp2_with fail
  have x0 := fun d os => cell_regrown x0 d os
  have x1 := fun d os => cell_regrown x1 d os
  have x2 := fun d os => cell_regrown x2 d os
  have x3 := fun d os => cell_regrown x3 d os
  have x4 := fun d os => cell_regrown x4 d os
  have x5 := fun d os => cell_regrown x5 d os
  have x6 := fun d os => cell_regrown x6 d os
  have x7 := fun d os => cell_regrown x7 d os
  have x8 := fun d os => cell_regrown x8 d os
  have x9 := fun d os => cell_regrown x9 d os
  have x10 := fun d os => cell_regrown x10 d os
  have x11 := fun d os => cell_regrown x11 d os
  have x12 := fun d os => cell_regrown x12 d os
  have x13 := fun d os => cell_regrown x13 d os
  have y0 := fun d os => cell_regrown y0 d os
  have y1 := fun d os => cell_regrown y1 d os
  have y2 := fun d os => cell_regrown y2 d os
  have i0 := fun d os => cell_regrown i0 d os
  have i1 := fun d os => cell_regrown i1 d os
  have i2 := fun d os => cell_regrown i2 d os
  have i3 := fun d os => cell_regrown i3 d os
  have HPG := Lib.hid (fun d os => HP0.out.grow (below_regrown w0 d os) (below_regrown w0 d os).size)
  have HCG := Lib.hid (fun d os => HC0.out.grow (below_regrown w0 d os) (below_regrown w0 d os).size)
  refine wp_region_ch 42 [1, 3, 9, 12, 21, 37, 40] hmo (by kernel_rfl) ?_
  simp only [List.take_succ_cons, List.take_zero, List.drop_succ_cons, List.drop_zero]
  repeat (with_reducible refine wpC_q (by decide) (by decide) (fun K hK => ?_); go_simp; (try rw [if_neg (by simp [undef])]); refine hK _ ?_; clear hK K)
  with_reducible refine wpC_cg (ι := Unit) 86 #[.agg #[.slice (some ⟨L.ib, 0, none⟩) 1 L.ic, .int .i64 1, .int .i64 0, .int .i64 0, .int .i64 L.ml, .int .i64 L.ll, .slice (some ⟨L.jb, 0, none⟩) 1 L.jc, .bool false, .int .i64 0, .int .i64 1, .int .i64 100, .int .i64 L.pow, .slice L.pa L.ps.length L.pc, .slice none 0 0]] (fun _ => .int .i64 0) (fun _ _ => True) (by decide) (by decide) (by go_simp) (fun w => by go_simp) stable_true (fun _ => stable_true) (fun W hW _ => ?_) (fun i0 hs0 => ?_)
  · obtain ⟨pp, rfl⟩ := hW
    refine (scCheck L _ (HPG.out _ _)).mono ?_
    rintro e w' ⟨rfl, hbl⟩
    exact ⟨(), rfl, trivial, hbl⟩
  repeat (with_reducible refine wpC_q (by decide) (by decide) (fun K hK => ?_); go_simp; (try rw [if_neg (by simp [undef])]); refine hK _ ?_; clear hK K)
  with_reducible refine wpC_vg (ι := Unit) (fun _ => .bool false) (fun _ _ => True) (by decide) (by decide) (by go_simp) hs0 (fun _ => stable_true) (fun W _ _ => ⟨(), W, by go_simp, trivial, Below.refl _ _⟩) (fun i1 hs1 => ?_)
  repeat (with_reducible refine wpC_q (by decide) (by decide) (fun K hK => ?_); go_simp; (try rw [if_neg (by simp [undef])]); refine hK _ ?_; clear hK K)
  with_reducible refine wpC_cg (ι := Unit) 132 #[.int .i64 0, .int .i64 0, .int .i64 0] (fun _ => .bool true) (fun _ _ => True) (by decide) (by decide) (by go_simp) (fun w => by go_simp) hs1 (fun _ => stable_true) (fun W hW _ => ?_) (fun i2 hs2 => ?_)
  · obtain ⟨pp, rfl⟩ := hW
    refine (scw_yesB _ _ _ _ (by decide)).mono ?_
    rintro e w' ⟨rfl, hbl⟩
    exact ⟨(), rfl, trivial, hbl⟩
  repeat (with_reducible refine wpC_q (by decide) (by decide) (fun K hK => ?_); go_simp; (try rw [if_neg (by simp [undef])]); refine hK _ ?_; clear hK K)
  with_reducible refine wpC_vg (ι := Unit) (fun _ => .bool false) (fun _ _ => True) (by decide) (by decide) (by go_simp) hs2 (fun _ => stable_true) (fun W _ _ => ⟨(), W, by go_simp, trivial, Below.refl _ _⟩) (fun i3 hs3 => ?_)
  repeat (with_reducible refine wpC_q (by decide) (by decide) (fun K hK => ?_); go_simp; (try rw [if_neg (by simp [undef])]); refine hK _ ?_; clear hK K)
  with_reducible refine wpC_vg (ι := Unit) (fun _ => .bool false) (fun _ _ => True) (by decide) (by decide) (by go_simp) hs3 (fun _ => stable_true) (fun W _ _ => ⟨(), W, by go_simp, trivial, Below.refl _ _⟩) (fun i4 hs4 => ?_)
  repeat (with_reducible refine wpC_q (by decide) (by decide) (fun K hK => ?_); go_simp; (try rw [if_neg (by simp [undef])]); refine hK _ ?_; clear hK K)
  with_reducible refine wpC_vg (ι := Unit) (fun _ => .bool false) (fun _ _ => True) (by decide) (by decide) (by go_simp) hs4 (fun _ => stable_true) (fun W _ _ => ⟨(), W, by go_simp, trivial, Below.refl _ _⟩) (fun i5 hs5 => ?_)
  repeat (with_reducible refine wpC_q (by decide) (by decide) (fun K hK => ?_); go_simp; (try rw [if_neg (by simp [undef])]); refine hK _ ?_; clear hK K)
  with_reducible refine wpC_cg (ι := Unit) 106 #[.slice (some ⟨x.sb, 0, none⟩) 1 x.sc, .int .i64 1, .int .i64 6, .int .i64 100000] (fun _ => .bool true) (fun _ _ => True) (by decide) (by decide) (by go_simp) (fun w => by go_simp) hs5 (fun _ => stable_true) (fun W hW _ => ?_) (fun i6 hs6 => ?_)
  · obtain ⟨pp, rfl⟩ := hW
    refine (sct_yes _ _ _ [x.st] _ _ _ _ (CX.ints (xs := [x.st]) (HCG.out _ _).s) (by simp) (by simp) (by have := HC.out; simp; omega)).mono ?_
    rintro e w' ⟨rfl, hbl⟩
    exact ⟨(), rfl, trivial, hbl⟩
  repeat (with_reducible refine wpC_q (by decide) (by decide) (fun K hK => ?_); go_simp; (try rw [if_neg (by simp [undef])]); refine hK _ ?_; clear hK K)
  refine wpC_nil ?_
  intro w1 hb1 _
  clear x0 x1 x2 x3 x4 x5 x6 x7 x8 x9 x10 x11 x12 x13 y0 y1 y2 i0 i1 i2 i3 HPG HCG hs0 hs1 hs2 hs3 hs4 hs5 hs6
  have HX1 := Lib.hid (HX0.out.below hb1 HX0.out.lt)
  have HY1 := Lib.hid (HY0.out.below hb1 HY0.out.lt)
  have HP1 := Lib.hid (HP0.out.grow hb1 hb1.size)
  have HC1 := Lib.hid (HC0.out.grow hb1 hb1.size)
  have HB1 := Lib.hid (HB0.out.trans (hb1.mono HB0.out.size))
  clear hb1 HB0 HX0 HY0 HP0 HC0
  obtain ⟨x0, x1, x2, x3, x4, x5, x6, x7, x8, x9, x10, x11, x12, x13⟩ := bk14 HX1.out
  obtain ⟨y0, y1, y2⟩ := bk3 HY1.out
  obtain ⟨i0, i1, i2, i3⟩ := HP1.out.it
  obtain ⟨l0, l1, l2, l3⟩ := HC1.out.ln
  go_wp2_with fail
  refine wp_loop_rounds 2 ?_
  rw [rounds_succ]
  go_wp2_with fail
  obtain ⟨w2, hw2⟩ : ∃ w2, w2 = w1.alloc (.cells #[.int .i64 x.mi, .int .i64 x.t, .bool false, .int .i64 0] 55) := ⟨_, rfl⟩
  have hb2 : Below w1.heap.size w1 w2 := by rw [hw2]; exact (Below.refl _ w1).alloc (Nat.le_refl _) _
  have HX2 := Lib.hid (HX1.out.below hb2 HX1.out.lt)
  have HY2 := Lib.hid (HY1.out.below hb2 HY1.out.lt)
  have HP2 := Lib.hid (HP1.out.grow hb2 hb2.size)
  have HC2 := Lib.hid (HC1.out.grow hb2 hb2.size)
  have HB2 := Lib.hid (HB1.out.trans (hb2.mono HB1.out.size))
  clear hb2 HB1 HX1 HY1 HP1 HC1
  have HZ2 : Hid (BK w2 w1.heap.size 55 #[.int .i64 x.mi, .int .i64 x.t, .bool false, .int .i64 0]) := by show BK _ _ _ _; rw [hw2]; exact BK.new w1 _ _
  rw [← hw2]
  clear hw2 l0 l1 l2 l3 x0 x1 x2 x3 x4 x5 x6 x7 x8 x9 x10 x11 x12 x13 y0 y1 y2 i0 i1 i2 i3
  obtain ⟨x0, x1, x2, x3, x4, x5, x6, x7, x8, x9, x10, x11, x12, x13⟩ := bk14 HX2.out
  obtain ⟨y0, y1, y2⟩ := bk3 HY2.out
  obtain ⟨i0, i1, i2, i3⟩ := HP2.out.it
  obtain ⟨z0, z1, z2, z3⟩ := bk4 HZ2.out
  go_quiet (fail)
  go_wp2_with fail
  obtain ⟨w3, hw3⟩ : ∃ w3, w3 = w2.drewN nq := ⟨_, rfl⟩
  have hb3 : Below w2.heap.size w2 w3 := by rw [hw3]; exact below_drewN (Below.refl _ w2) _
  have HX3 := Lib.hid (HX2.out.below hb3 HX2.out.lt)
  have HY3 := Lib.hid (HY2.out.below hb3 HY2.out.lt)
  have HZ3 := Lib.hid (HZ2.out.below hb3 HZ2.out.lt)
  have HP3 := Lib.hid (HP2.out.grow hb3 hb3.size)
  have HC3 := Lib.hid (HC2.out.grow hb3 hb3.size)
  have HB3 := Lib.hid (HB2.out.trans (hb3.mono HB2.out.size))
  clear hb3 HB2 HX2 HY2 HZ2 HP2 HC2
  rw [← hw3]
  clear hw3 x0 x1 x2 x3 x4 x5 x6 x7 x8 x9 x10 x11 x12 x13 y0 y1 y2 i0 i1 i2 i3 z0 z1 z2 z3
  obtain ⟨x0, x1, x2, x3, x4, x5, x6, x7, x8, x9, x10, x11, x12, x13⟩ := bk14 HX3.out
  obtain ⟨i0, i1, i2, i3⟩ := HP3.out.it
  obtain ⟨z0, z1, z2, z3⟩ := bk4 HZ3.out
  have x0 := fun d os => cell_regrown x0 d os
  have i0 := fun d os => cell_regrown i0 d os
  have i1 := fun d os => cell_regrown i1 d os
  have i2 := fun d os => cell_regrown i2 d os
  have i3 := fun d os => cell_regrown i3 d os
  have z0 := fun d os => cell_regrown z0 d os
  have z1 := fun d os => cell_regrown z1 d os
  have z2 := fun d os => cell_regrown z2 d os
  have z3 := fun d os => cell_regrown z3 d os
  refine wp_region_ch 15 [6, 8, 10] hmo (by kernel_rfl) ?_
  simp only [List.take_succ_cons, List.take_zero, List.drop_succ_cons, List.drop_zero]
  repeat (with_reducible refine wpC_q (by decide) (by decide) (fun K hK => ?_); go_simp; (try rw [if_neg (by simp [undef])]); refine hK _ ?_; clear hK K)
  with_reducible refine wpC_cg (ι := Unit) 134 #[.agg #[.int .i64 2, .int .i64 0, .int .i64 0, .bool false], .agg #[.int .i64 x.mi, .int .i64 x.t, .bool false, .int .i64 0]] (fun _ => .bool true) (fun _ _ => True) (by decide) (by decide) (by go_simp) (fun w => by go_simp) stable_true (fun _ => stable_true) (fun W hW _ => ?_) (fun i0 hs0 => ?_)
  · obtain ⟨pp, rfl⟩ := hW
    refine (scLine x _ HCL.out).mono ?_
    rintro e w' ⟨rfl, hbl⟩
    exact ⟨(), rfl, trivial, hbl⟩
  repeat (with_reducible refine wpC_q (by decide) (by decide) (fun K hK => ?_); go_simp; (try rw [if_neg (by simp [undef])]); refine hK _ ?_; clear hK K)
  with_reducible refine wpC_vg (ι := Unit) (fun _ => .bool false) (fun _ _ => True) (by decide) (by decide) (by go_simp) hs0 (fun _ => stable_true) (fun W _ _ => ⟨(), W, by go_simp, trivial, Below.refl _ _⟩) (fun i1 hs1 => ?_)
  repeat (with_reducible refine wpC_q (by decide) (by decide) (fun K hK => ?_); go_simp; (try rw [if_neg (by simp [undef])]); refine hK _ ?_; clear hK K)
  with_reducible refine wpC_vg (ι := Unit) (fun _ => .bool false) (fun _ _ => True) (by decide) (by decide) (by go_simp) hs1 (fun _ => stable_true) (fun W _ _ => ⟨(), W, by go_simp, trivial, Below.refl _ _⟩) (fun i2 hs2 => ?_)
  repeat (with_reducible refine wpC_q (by decide) (by decide) (fun K hK => ?_); go_simp; (try rw [if_neg (by simp [undef])]); refine hK _ ?_; clear hK K)
  refine wpC_nil ?_
  intro w4 hb4 _
  clear x0 x1 x2 x3 x4 x5 x6 x7 x8 x9 x10 x11 x12 x13 i0 i1 i2 i3 z0 z1 z2 z3 hs0 hs1 hs2
  have HX4 := Lib.hid (HX3.out.below hb4 HX3.out.lt)
  have HP4 := Lib.hid (HP3.out.grow hb4 hb4.size)
  have HC4 := Lib.hid (HC3.out.grow hb4 hb4.size)
  have HB4 := Lib.hid (HB3.out.trans (hb4.mono HB3.out.size))
  clear hb4 HB3 HX3 HP3 HC3
  go_wp2_with fail
  rw [rounds_succ]
  go_wp2_with fail
  go_ret
  exact ⟨rfl, HB4.out⟩
end Go.Proofs.YtafclpmnpamipaaGreat
