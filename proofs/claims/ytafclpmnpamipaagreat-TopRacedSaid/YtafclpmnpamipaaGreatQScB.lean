/- Package score: which plans and cards are as defined, at a plan of one stage and plain cards. Printed by genscore.py. -/
import Derived.Test.YtafclpmnpamipaaGreatQScA
namespace Go.Proofs.YtafclpmnpamipaaGreat
open Go.RowKit Go.Shelf Go.Sort Go.Proofs

theorem bk14 {w : World} {b : Nat} {L : PlF} {t : TypeId} (h : BK w b t #[.slice (some ⟨L.ib, 0, none⟩) 1 L.ic, .int .i64 1, .int .i64 0, .int .i64 0, .int .i64 L.ml, .int .i64 L.ll, .slice (some ⟨L.jb, 0, none⟩) 1 L.jc, .bool false, .int .i64 0, .int .i64 1, .int .i64 100, .int .i64 L.pow, .slice L.pa L.ps.length L.pc, .slice none 0 0]) : w.cell? ⟨b, 0, none⟩ = some (.slice (some ⟨L.ib, 0, none⟩) 1 L.ic) ∧ w.cell? ⟨b, 1, none⟩ = some (.int .i64 1) ∧ w.cell? ⟨b, 2, none⟩ = some (.int .i64 0) ∧ w.cell? ⟨b, 3, none⟩ = some (.int .i64 0) ∧ w.cell? ⟨b, 4, none⟩ = some (.int .i64 L.ml) ∧ w.cell? ⟨b, 5, none⟩ = some (.int .i64 L.ll) ∧ w.cell? ⟨b, 6, none⟩ = some (.slice (some ⟨L.jb, 0, none⟩) 1 L.jc) ∧ w.cell? ⟨b, 7, none⟩ = some (.bool false) ∧ w.cell? ⟨b, 8, none⟩ = some (.int .i64 0) ∧ w.cell? ⟨b, 9, none⟩ = some (.int .i64 1) ∧ w.cell? ⟨b, 10, none⟩ = some (.int .i64 100) ∧ w.cell? ⟨b, 11, none⟩ = some (.int .i64 L.pow) ∧ w.cell? ⟨b, 12, none⟩ = some (.slice L.pa L.ps.length L.pc) ∧ w.cell? ⟨b, 13, none⟩ = some (.slice none 0 0) :=
  ⟨h.cell 0, h.cell 1, h.cell 2, h.cell 3, h.cell 4, h.cell 5, h.cell 6, h.cell 7, h.cell 8, h.cell 9, h.cell 10, h.cell 11, h.cell 12, h.cell 13⟩
theorem bk12 {w : World} {b : Nat} {L : PlF} {t : TypeId} (h : BK w b t #[.int .i64 0, .int .i64 0, .int .i64 L.ml, .int .i64 L.ll, .slice (some ⟨L.jb, 0, none⟩) 1 L.jc, .bool false, .int .i64 0, .int .i64 1, .int .i64 100, .int .i64 L.pow, .slice L.pa L.ps.length L.pc, .slice none 0 0]) : w.cell? ⟨b, 0, none⟩ = some (.int .i64 0) ∧ w.cell? ⟨b, 1, none⟩ = some (.int .i64 0) ∧ w.cell? ⟨b, 2, none⟩ = some (.int .i64 L.ml) ∧ w.cell? ⟨b, 3, none⟩ = some (.int .i64 L.ll) ∧ w.cell? ⟨b, 4, none⟩ = some (.slice (some ⟨L.jb, 0, none⟩) 1 L.jc) ∧ w.cell? ⟨b, 5, none⟩ = some (.bool false) ∧ w.cell? ⟨b, 6, none⟩ = some (.int .i64 0) ∧ w.cell? ⟨b, 7, none⟩ = some (.int .i64 1) ∧ w.cell? ⟨b, 8, none⟩ = some (.int .i64 100) ∧ w.cell? ⟨b, 9, none⟩ = some (.int .i64 L.pow) ∧ w.cell? ⟨b, 10, none⟩ = some (.slice L.pa L.ps.length L.pc) ∧ w.cell? ⟨b, 11, none⟩ = some (.slice none 0 0) :=
  ⟨h.cell 0, h.cell 1, h.cell 2, h.cell 3, h.cell 4, h.cell 5, h.cell 6, h.cell 7, h.cell 8, h.cell 9, h.cell 10, h.cell 11⟩
set_option maxRecDepth 100000 in
set_option maxHeartbeats 8000000 in
theorem scCheck (L : PlF) (w : World) (h : PD w w.heap.size L) :
    Calls Tryz.prog 86 #[plA L] w fun e w' => e = .returned (.int .i64 0) ∧ Below w.heap.size w w' := by
  obtain ⟨w0, hw0⟩ : ∃ w0, w0 = w.alloc (.cells #[.slice (some ⟨L.ib, 0, none⟩) 1 L.ic, .int .i64 1, .int .i64 0, .int .i64 0, .int .i64 L.ml, .int .i64 L.ll, .slice (some ⟨L.jb, 0, none⟩) 1 L.jc, .bool false, .int .i64 0, .int .i64 1, .int .i64 100, .int .i64 L.pow, .slice L.pa L.ps.length L.pc, .slice none 0 0] 42) := ⟨_, rfl⟩
  have hX0 : BK w0 w.heap.size 42 #[.slice (some ⟨L.ib, 0, none⟩) 1 L.ic, .int .i64 1, .int .i64 0, .int .i64 0, .int .i64 L.ml, .int .i64 L.ll, .slice (some ⟨L.jb, 0, none⟩) 1 L.jc, .bool false, .int .i64 0, .int .i64 1, .int .i64 100, .int .i64 L.pow, .slice L.pa L.ps.length L.pc, .slice none 0 0] := by rw [hw0]; exact BK.new w _ _
  have hB0 : Below w.heap.size w w0 := by rw [hw0]; exact (Below.refl _ w).alloc (Nat.le_refl _) _
  have HP0 := Lib.hid (h.grow hB0 hB0.size)
  have HX0 := Lib.hid hX0
  have HB0 := Lib.hid hB0
  obtain ⟨x0, x1, x2, x3, x4, x5, x6, x7, x8, x9, x10, x11, x12, x13⟩ := bk14 hX0
  obtain ⟨i0, i1, i2, i3⟩ := HP0.out.it
  have hpow := h.pow
  have hp1 : -1 ≤ L.pow ∧ L.pow ≤ 0 := by omega
  have HPW := Lib.hid hpow
  clear h hX0 hB0 hpow
  unfold plA
  go_enter Tryz.func86, Tryz.ntmps86
  go_wp2_with fail
  rw [← hw0]
  clear hw0
  go_wp2_with (go_at_call 132; refine (scw_yes _ _ _ _ (by constructor <;> omega)).mono ?_; rintro e w' ⟨rfl, rfl⟩)
  refine wp_loop_rounds 2 ?_
  rw [rounds_succ]
  go_wp2_with fail
  go_quiet ((go_at_call 132; exact Calls.quiet_of_same ((scw_yes _ _ _ _ (by simp; omega)).mono fun _ _ ⟨a, b⟩ => ⟨a, b.symm⟩)))
  go_wp2_with fail
  rw [rounds_succ]
  obtain ⟨w1, hw1⟩ : ∃ w1, w1 = (w0.alloc (.cells #[.int .i64 2, .int .i64 0, .int .i64 0, .bool false] 36)).drewN nq := ⟨_, rfl⟩
  have hb1 : Below w0.heap.size w0 w1 := by rw [hw1]; exact below_drewN ((Below.refl _ w0).alloc (Nat.le_refl _) _) _
  have HX1 := Lib.hid (HX0.out.below hb1 HX0.out.lt)
  have HP1 := Lib.hid (HP0.out.grow hb1 hb1.size)
  have HB1 := Lib.hid (HB0.out.trans (hb1.mono HB0.out.size))
  clear hb1 HB0 HX0 HP0
  rw [← hw1]
  obtain ⟨x0, x1, x2, x3, x4, x5, x6, x7, x8, x9, x10, x11, x12, x13⟩ := bk14 HX1.out
  clear hw1 i0 i1 i2 i3
  go_wp2_with fail
  obtain ⟨w2, hw2⟩ : ∃ w2, w2 = (w1.alloc (.cells #[.int .i64 0, .int .i64 0, .int .i64 L.ml, .int .i64 L.ll, .slice (some ⟨L.jb, 0, none⟩) 1 L.jc, .bool false, .int .i64 0, .int .i64 1, .int .i64 100, .int .i64 L.pow, .slice L.pa L.ps.length L.pc, .slice none 0 0] 40)).alloc (.cells #[.int .i64 0, .int .i64 0, .int .i64 0] 3) := ⟨_, rfl⟩
  have hb2 : Below w1.heap.size w1 w2 := by rw [hw2]; exact ((Below.refl _ w1).alloc (Nat.le_refl _) _).alloc (by simp) _
  have HX2 := Lib.hid (HX1.out.below hb2 HX1.out.lt)
  have HP2 := Lib.hid (HP1.out.grow hb2 hb2.size)
  have HB2 := Lib.hid (HB1.out.trans (hb2.mono HB1.out.size))
  clear hb2 HB1 HX1 HP1
  have HR2 : Hid (BK w2 w1.heap.size 40 #[.int .i64 0, .int .i64 0, .int .i64 L.ml, .int .i64 L.ll, .slice (some ⟨L.jb, 0, none⟩) 1 L.jc, .bool false, .int .i64 0, .int .i64 1, .int .i64 100, .int .i64 L.pow, .slice L.pa L.ps.length L.pc, .slice none 0 0]) := by show BK _ _ _ _; rw [hw2]; exact (BK.new w1 _ _).alloc _
  have hs2 : SL iC 1 w2 w2.heap.size (some ⟨w1.heap.size + 1, 0, none⟩) 3 [0, 0, 0] := by
    exact CX.ints (xs := [0, 0, 0]) (CX.at_ hw2 (by simp))
  rw [← hw2]
  clear hw2 x0 x1 x2 x3 x4 x5 x6 x7 x8 x9 x10 x11 x12 x13
  refine (sct_yes _ _ _ _ _ _ _ _ hs2 (by decide) (by decide) (by simp)).mono ?_
  rintro e w3 ⟨rfl, hb3⟩
  clear hs2
  have HX3 := Lib.hid (HX2.out.below hb3 HX2.out.lt)
  have HR3 := Lib.hid (HR2.out.below hb3 HR2.out.lt)
  have HP3 := Lib.hid (HP2.out.grow hb3 hb3.size)
  have HB3 := Lib.hid (HB2.out.trans (hb3.mono HB2.out.size))
  clear hb3 HB2 HX2 HR2 HP2
  obtain ⟨r0, r1, r2, r3, r4, r5, r6, r7, r8, r9, r10, r11⟩ := bk12 HR3.out
  go_wp2_with fail
  obtain ⟨w4, hw4⟩ : ∃ w4, w4 = w3.alloc (.cells #[.int .i64 L.ml, .int .i64 L.ll] 3) := ⟨_, rfl⟩
  have hb4 : Below w3.heap.size w3 w4 := by rw [hw4]; exact (Below.refl _ w3).alloc (Nat.le_refl _) _
  have HX4 := Lib.hid (HX3.out.below hb4 HX3.out.lt)
  have HR4 := Lib.hid (HR3.out.below hb4 HR3.out.lt)
  have HP4 := Lib.hid (HP3.out.grow hb4 hb4.size)
  have HB4 := Lib.hid (HB3.out.trans (hb4.mono HB3.out.size))
  clear hb4 HB3 HX3 HR3 HP3
  have hs4 : SL iC 1 w4 w4.heap.size (some ⟨w3.heap.size, 0, none⟩) 2 [L.ml, L.ll] := by
    exact CX.ints (xs := [L.ml, L.ll]) (CX.at_ hw4 rfl)
  rw [← hw4]
  clear hw4 r0 r1 r2 r3 r4 r5 r6 r7 r8 r9 r10 r11
  refine (sct_yes _ _ _ _ _ _ _ _ hs4 (by decide) (by decide) (by have := HP4.out.ml; have := HP4.out.ll; simp; omega)).mono ?_
  rintro e w5 ⟨rfl, hb5⟩
  clear hs4
  have HX5 := Lib.hid (HX4.out.below hb5 HX4.out.lt)
  have HR5 := Lib.hid (HR4.out.below hb5 HR4.out.lt)
  have HP5 := Lib.hid (HP4.out.grow hb5 hb5.size)
  have HB5 := Lib.hid (HB4.out.trans (hb5.mono HB4.out.size))
  clear hb5 HB4 HX4 HR4 HP4
  obtain ⟨r0, r1, r2, r3, r4, r5, r6, r7, r8, r9, r10, r11⟩ := bk12 HR5.out
  go_wp2_with fail
  refine (sct_yes _ _ _ _ _ _ _ _ (CX.ints (xs := [0]) HP5.out.j) (by decide) (by decide) (by simp)).mono ?_
  rintro e w6 ⟨rfl, hb6⟩
  clear r0 r1 r2 r3 r4 r5 r6 r7 r8 r9 r10 r11
  have HX6 := Lib.hid (HX5.out.below hb6 HX5.out.lt)
  have HR6 := Lib.hid (HR5.out.below hb6 HR5.out.lt)
  have HP6 := Lib.hid (HP5.out.grow hb6 hb6.size)
  have HB6 := Lib.hid (HB5.out.trans (hb6.mono HB5.out.size))
  clear hb6 HB5 HX5 HR5 HP5
  obtain ⟨r0, r1, r2, r3, r4, r5, r6, r7, r8, r9, r10, r11⟩ := bk12 HR6.out
  go_wp2_with (go_at_call 132; refine (scw_yes _ _ _ _ (by constructor <;> omega)).mono ?_; rintro e w' ⟨rfl, rfl⟩)
  refine (sct_yes _ _ _ _ _ _ _ _ HP6.out.p (by have := HP6.out.pl; omega) (by have := HP6.out.pl; omega) HP6.out.pb).mono ?_
  rintro e w7 ⟨rfl, hb7⟩
  clear r0 r1 r2 r3 r4 r5 r6 r7 r8 r9 r10 r11
  have HX7 := Lib.hid (HX6.out.below hb7 HX6.out.lt)
  have HR7 := Lib.hid (HR6.out.below hb7 HR6.out.lt)
  have HP7 := Lib.hid (HP6.out.grow hb7 hb7.size)
  have HB7 := Lib.hid (HB6.out.trans (hb7.mono HB6.out.size))
  clear hb7 HB6 HX6 HR6 HP6
  obtain ⟨r0, r1, r2, r3, r4, r5, r6, r7, r8, r9, r10, r11⟩ := bk12 HR7.out
  go_wp2_with fail
  refine (sct_yes _ _ _ _ _ _ _ _ SL.nil_ (by decide) (by decide) (by simp)).mono ?_
  rintro e w8 ⟨rfl, hb8⟩
  clear r0 r1 r2 r3 r4 r5 r6 r7 r8 r9 r10 r11
  have HX8 := Lib.hid (HX7.out.below hb8 HX7.out.lt)
  have HR8 := Lib.hid (HR7.out.below hb8 HR7.out.lt)
  have HP8 := Lib.hid (HP7.out.grow hb8 hb8.size)
  have HB8 := Lib.hid (HB7.out.trans (hb8.mono HB7.out.size))
  clear hb8 HB7 HX7 HR7 HP7
  obtain ⟨r0, r1, r2, r3, r4, r5, r6, r7, r8, r9, r10, r11⟩ := bk12 HR8.out
  obtain ⟨x0, x1, x2, x3, x4, x5, x6, x7, x8, x9, x10, x11, x12, x13⟩ := bk14 HX8.out
  obtain ⟨i0, i1, i2, i3⟩ := HP8.out.it
  rcases HPW.out with hpe | hpe
  · have hpd : decide (0 ≤ L.pow) = false := by simp; omega
    go_wp2_with (go_at_call 132; refine (scw_yes _ _ _ _ (by constructor <;> omega)).mono ?_; rintro e w' ⟨rfl, rfl⟩)
    go_ret
    exact ⟨rfl, HB8.out⟩
  · have hpd : decide (0 ≤ L.pow) = true := by simp; omega
    go_wp2_with (go_at_call 132; refine (scw_yes _ _ _ _ (by constructor <;> omega)).mono ?_; rintro e w' ⟨rfl, rfl⟩)
    go_ret
    exact ⟨rfl, HB8.out⟩
end Go.Proofs.YtafclpmnpamipaaGreat
