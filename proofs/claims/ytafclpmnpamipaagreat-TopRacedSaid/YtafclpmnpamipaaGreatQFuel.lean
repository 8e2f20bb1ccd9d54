/- car.Fuel at the document's example: two legs. -/
import Derived.LoopN
import Derived.Test.YtafclpmnpamipaaGreatQAppS
import Derived.Test.YtafclpmnpamipaaGreatQCorn
import Derived.Test.YtafclpmnpamipaaGreatQValid
import Derived.Test.YtafclpmnpamipaaGreatQOpen
import Derived.Test.YtafclpmnpamipaaGreatQReg8
import Derived.Test.YtafclpmnpamipaaGreatQFind
import Derived.Test.YtafclpmnpamipaaGreatQReg
import Derived.Test.YtafclpmnpamipaaGreatQReg7
import Derived.Test.YtafclpmnpamipaaGreatQStr1
namespace Go.Proofs.YtafclpmnpamipaaGreat
open Go.RowKit Go.Shelf Go.Sort Go.Proofs

theorem cwithin_any (x lo hi : Int) (w : World) :
    Calls Tryz.prog 122 #[.int .i64 x, .int .i64 lo, .int .i64 hi] w fun e w' => e = .returned (.bool (inR x lo hi)) ∧ w = w' := by
  by_cases h : lo ≤ x
  · have e : inR x lo hi = decide (x ≤ hi) := by simp [inR, h]
    rw [e]; clear e
    go_enter Tryz.func122, Tryz.ntmps122
    go_wp2
    go_ret
    exact ⟨rfl, rfl⟩
  · have e : inR x lo hi = false := by simp [inR, h]
    rw [e]; clear e
    go_enter Tryz.func122, Tryz.ntmps122
    go_wp2
    go_ret
    exact ⟨rfl, rfl⟩
/-- A leg of the example. -/
theorem cleg_any (a b c : Int) (w : World) (h1 : inR a 0 b = true) (h2 : b ≤ 1000000) (h3 : inR c 0 1000000 = true) :
    Calls Tryz.prog 124 #[.agg #[.int .i64 a, .int .i64 b, .int .i64 c]] w fun e w' => e = .returned (.bool false) ∧ Below w.heap.size w w' := by
  have H1 := Lib.hid h1
  have H3 := Lib.hid h3
  clear h1 h3
  have hb := (Below.refl w.heap.size w).alloc (Nat.le_refl _) (.cells #[.int .i64 a, .int .i64 b, .int .i64 c] 93)
  go_enter Tryz.func124, Tryz.ntmps124
  go_wp2_with fail
  refine (cwithin_any _ _ _ _).mono ?_
  rintro e w' ⟨rfl, rfl⟩
  rw [H1.out]
  go_wp2_with fail
  refine (cwithin_any _ _ _ _).mono ?_
  rintro e w' ⟨rfl, rfl⟩
  rw [H3.out]
  go_wp2_with fail
  go_ret
  exact ⟨rfl, hb⟩
def legs : Array Value := #[.int .i64 10, .int .i64 20, .int .i64 30, .int .i64 10, .int .i64 25, .int .i64 30]
theorem legs_at {w : World} {L : Nat} (h : BK w L 93 legs) : w.cell? ⟨L, 0, none⟩ = some (.int .i64 10) ∧ w.cell? ⟨L, 1, none⟩ = some (.int .i64 20) ∧ w.cell? ⟨L, 2, none⟩ = some (.int .i64 30) ∧
    w.cell? ⟨L, 3, none⟩ = some (.int .i64 10) ∧ w.cell? ⟨L, 4, none⟩ = some (.int .i64 25) ∧ w.cell? ⟨L, 5, none⟩ = some (.int .i64 30) :=
  ⟨h.cell 0, h.cell 1, h.cell 2, h.cell 3, h.cell 4, h.cell 5⟩
set_option maxRecDepth 100000 in
theorem cidx_any (L c : Nat) (w : World) (h : BK w L 93 legs) :
    Calls Tryz.prog 160 #[.slice (some ⟨L, 0, none⟩) 2 c, .func (.func 124) #[] #[]] w fun e w' => e = .returned (.int .i64 (-1)) ∧ Below w.heap.size w w' := by
  obtain ⟨l0, l1, l2, l3, l4, l5⟩ := legs_at h
  have hlt := h.lt
  go_enter Tryz.func160, Tryz.ntmps160
  go_wp2_with fail
  refine wp_loop_rounds 3 ?_
  rw [rounds_succ]
  go_wp2_with fail
  refine (cleg_any 10 20 30 _ (by decide) (by decide) (by decide)).mono ?_
  rintro e w1 ⟨rfl, hb1⟩
  obtain ⟨l0, l1, l2, l3, l4, l5⟩ := legs_at (h.below hb1 hlt)
  go_wp2_with fail
  rw [rounds_succ]
  go_wp2_with fail
  refine (cleg_any 10 25 30 _ (by decide) (by decide) (by decide)).mono ?_
  rintro e w2 ⟨rfl, hb2⟩
  go_wp2_with fail
  rw [rounds_succ]
  go_wp2_with fail
  go_ret
  exact ⟨rfl, hb1.trans (hb2.mono hb1.size)⟩
theorem ccont_any (L c : Nat) (w : World) (h : BK w L 93 legs) :
    Calls Tryz.prog 123 #[.slice (some ⟨L, 0, none⟩) 2 c, .func (.func 124) #[] #[]] w fun e w' => e = .returned (.bool false) ∧ Below w.heap.size w w' := by
  have H := Lib.hid h
  clear h
  go_enter Tryz.func123, Tryz.ntmps123
  go_wp2_with fail
  refine (cidx_any L c _ H.out).mono ?_
  rintro e w1 ⟨rfl, hb1⟩
  go_wp2_with fail
  go_ret
  exact ⟨rfl, hb1⟩
theorem cfueled_any (L c : Nat) (w : World) (h : BK w L 93 legs) :
    Calls Tryz.prog 75 #[.int .i64 50, .int .i64 5, .int .i64 10, .slice (some ⟨L, 0, none⟩) 2 c] w fun e w' => e = .returned (.bool true) ∧ Below w.heap.size w w' := by
  have H := Lib.hid h
  clear h
  go_enter Tryz.func75, Tryz.ntmps75
  go_wp2_with fail
  refine (cwithin_any _ _ _ _).mono ?_
  rintro e w' ⟨rfl, rfl⟩
  rw [show inR 50 1 1000000 = true by decide]
  go_wp2_with fail
  refine (cwithin_any _ _ _ _).mono ?_
  rintro e w' ⟨rfl, rfl⟩
  rw [show inR 5 0 50 = true by decide]
  go_wp2_with fail
  refine (cwithin_any _ _ _ _).mono ?_
  rintro e w' ⟨rfl, rfl⟩
  rw [show inR 10 0 50 = true by decide]
  go_wp2_with fail
  refine (ccont_any L c _ H.out).mono ?_
  rintro e w1 ⟨rfl, hb1⟩
  go_wp2_with fail
  go_ret
  exact ⟨rfl, hb1⟩
set_option maxRecDepth 100000 in
set_option maxHeartbeats 2000000 in
theorem csafe_any (L c A c' : Nat) (w : World) (h : BK w L 93 legs) (hA : BK w A 3 #[.int .i64 15, .int .i64 25]) :
    Calls Tryz.prog 76 #[.int .i64 50, .int .i64 5, .int .i64 10, .slice (some ⟨L, 0, none⟩) 2 c, .slice (some ⟨A, 0, none⟩) 2 c'] w fun e w' => e = .returned (.bool true) ∧ Below w.heap.size w w' := by
  obtain ⟨l0, l1, l2, l3, l4, l5⟩ := legs_at h
  have hlt := h.lt
  have a0 := hA.cell 0
  have a1 := hA.cell 1
  have hlA := hA.lt
  simp only [List.getElem?_toArray, List.getElem?_cons_zero, List.getElem?_cons_succ] at a0 a1
  go_enter Tryz.func76, Tryz.ntmps76
  go_wp2_with fail
  refine wp_loop_rounds 3 ?_
  rw [rounds_succ]
  go_wp2_with fail
  go_quiet (fail)
  go_wp2_with fail
  go_quiet (fail)
  go_wp2_with fail
  rw [rounds_succ]
  go_wp2_with fail
  go_quiet (fail)
  go_wp2_with fail
  go_quiet (fail)
  go_wp2_with fail
  rw [rounds_succ]
  go_wp2_with fail
  go_ret
  exact ⟨rfl, below_drewN ((below_drewN ((Below.refl w.heap.size w).alloc (Nat.le_refl _) _) _).alloc (by simp) _) _⟩
theorem cmake2 (w : World) : (Instr.makeSlice 28 (.int .i64 2) (.int .i64 2)).run Tryz.prog w = .ok (.slice (some ⟨w.heap.size, 0, none⟩) 2 2) (w.alloc (.cells #[.int .i64 0, .int .i64 0] 3)) := by kernel_rfl
set_option maxRecDepth 100000 in
set_option maxHeartbeats 4000000 in
set_option pp.deepTerms true in
set_option pp.maxSteps 1000000 in
theorem Fuel_known (L c : Nat) (w : World) (h : BK w L 93 legs) :
    Calls Tryz.prog 24 #[.int .i64 50, .int .i64 5, .int .i64 10, .slice (some ⟨L, 0, none⟩) 2 c] w fun e w' => ∃ A c', e = .returned (.tuple #[.slice (some ⟨A, 0, none⟩) 2 c', .int .i64 0]) ∧ BK w' A 3 #[.int .i64 15, .int .i64 25] ∧ Below w.heap.size w w' := by
  have H := Lib.hid h
  have hlt := h.lt
  clear h
  go_enter Tryz.func24, Tryz.ntmps24
  go_wp2_with fail
  refine (cfueled_any L c _ H.out).mono ?_
  rintro e w1 ⟨rfl, hb1⟩
  have hz1 := hb1.size
  have H1 := Lib.hid (H.out.below hb1 hlt)
  have hlt1 := H1.out.lt
  obtain ⟨l0, l1, l2, l3, l4, l5⟩ := legs_at H1.out
  have mk := cmake2
  go_wp2_with fail
  refine wp_loop_rounds 3 ?_
  rw [rounds_succ]
  go_wp2_with fail
  rw [rounds_succ]
  go_wp2_with fail
  rw [rounds_succ]
  go_wp2_with fail
  obtain ⟨W2, hW2⟩ : ∃ W2, W2 = (((w1.alloc (.cells #[.int .i64 15, .int .i64 40] 3)).alloc (.cells #[.int .i64 10, .int .i64 20, .int .i64 30] 93)).alloc (.cells #[.int .i64 10, .int .i64 25, .int .i64 30] 93)) := ⟨_, rfl⟩
  have hb2 : Below w1.heap.size w1 W2 := by rw [hW2]; exact (((Below.refl w1.heap.size w1).alloc (Nat.le_refl _) _).alloc (by simp) _).alloc (by simp; omega) _
  have hS2 : BK W2 w1.heap.size 3 #[.int .i64 15, .int .i64 40] := by rw [hW2]; exact ((BK.new w1 _ _).alloc _).alloc _
  rw [← hW2]
  clear hW2
  have hz2 := hb2.size
  have hlS := hS2.lt
  have hl2 : L < W2.heap.size := by omega
  have H2 := Lib.hid (H1.out.below hb2 hlt1)
  obtain ⟨m0, m1, m2, m3, m4, m5⟩ := legs_at H2.out
  have s0 := hS2.cell 0
  have s1 := hS2.cell 1
  have f0 := hS2.frozen 0
  have f1 := hS2.frozen 1
  simp only [List.getElem?_toArray, List.getElem?_cons_zero, List.getElem?_cons_succ] at s0 s1
  have hmo : Tryz.prog.follows .mixedOrders = true := by kernel_rfl
  refine wp_loop_rounds 2 ?_
  rw [rounds_succ]
  go_wp2_with fail
  refine wp_region_qt 19 hmo (by kernel_rfl) ?_
  simp only [List.take_succ_cons, List.take_zero, List.drop_succ_cons, List.drop_zero]
  have k0 := fun d os => cell_regrown s0 d os
  have k1 := fun d os => cell_regrown s1 d os
  have k5 := fun d os => cell_regrown m5 d os
  have hw1 : IntKind.i64.wrap 1 = 1 := by decide
  have hw10 : IntKind.i64.wrap 10 = 10 := by decide
  repeat (quiet_step (fail))
  refine wpQuiet_nil ?_
  intro W3 hb3
  clear hw1 hw10
  have s0 := (bc hb3 hlS).trans s0
  have s1 := (bc hb3 hlS).trans s1
  have f0 := (bf hb3 hlS).trans f0
  have f1 := (bf hb3 hlS).trans f1
  have hz3 := hb3.size
  go_wp2_with fail
  rw [rounds_succ]
  go_wp2_with fail
  obtain ⟨W4, hW4⟩ : ∃ W4, W4 = (W3.setCell ⟨w1.heap.size, 0, none⟩ (.int .i64 15)).alloc (.cells #[.int .i64 0, .int .i64 0] 3) := ⟨_, rfl⟩
  have hS4 : BK W4 w1.heap.size 3 #[.int .i64 15, .int .i64 40] := by rw [hW4]; exact ((hS2.below hb3 hlS).set_ 0 (.int .i64 15)).alloc _
  have hO4 : BK W4 W3.heap.size 3 #[.int .i64 0, .int .i64 0] := by
    rw [hW4]; have := BK.new (W3.setCell ⟨w1.heap.size, 0, none⟩ (.int .i64 15)) 3 #[.int .i64 0, .int .i64 0]; rw [World.size_setCell] at this; exact this
  have hL4 : BK W4 L 93 legs := by rw [hW4]; exact ((H2.out.below hb3 hl2).far (p := ⟨w1.heap.size, 0, none⟩) (by simp; omega) _).alloc _
  have hb4 : Below w1.heap.size w1 W4 := by
    rw [hW4]; exact ((hb2.trans (hb3.mono hz2)).setCell (p := ⟨w1.heap.size, 0, none⟩) (Nat.le_refl _) _).alloc (by rw [World.size_setCell]; omega) _
  rw [← hW4]
  clear hW4 s0 s1 f0 f1 k0 k1 k5 m0 m1 m2 m3 m4 m5 l0 l1 l2 l3 l4 l5 mk
  have HL4 := Lib.hid hL4
  have HB4 := Lib.hid hb4
  have hz4 := hb4.size
  have hlO := hO4.lt
  obtain ⟨m0, m1, m2, m3, m4, m5⟩ := legs_at hL4
  have hl4 := hL4.lt
  have hlS4 := hS4.lt
  have s0 := hS4.cell 0
  have s1 := hS4.cell 1
  have o0 := hO4.cell 0
  have o1 := hO4.cell 1
  have f0 := hO4.frozen 0
  have f1 := hO4.frozen 1
  simp only [List.getElem?_toArray, List.getElem?_cons_zero, List.getElem?_cons_succ] at s0 s1 o0 o1
  have hne : W3.heap.size ≠ w1.heap.size := by omega
  have hne' : w1.heap.size ≠ W3.heap.size := by omega
  have hne2 : L ≠ W3.heap.size := by omega
  have HO4 := Lib.hid hO4
  clear hS4 hL4 hb4 hO4
  refine wp_loop_rounds 3 ?_
  rw [rounds_succ]
  go_wp2_with fail
  go_quiet (fail)
  go_wp2_with fail
  rw [rounds_succ]
  go_wp2_with fail
  go_quiet (fail)
  go_wp2_with fail
  rw [rounds_succ]
  go_wp2_with fail
  have hA5 : ∀ a b, BK ((((W4.setCell ⟨W3.heap.size, 0, none⟩ (.int .i64 15)).drewN a).setCell ⟨W3.heap.size, 1, none⟩ (.int .i64 25)).drewN b) W3.heap.size 3 #[.int .i64 15, .int .i64 25] := fun a b => (((HO4.out.set_ 0 (.int .i64 15)).drewN a).set_ 1 (.int .i64 25)).drewN b
  have hL5 : ∀ a b, BK ((((W4.setCell ⟨W3.heap.size, 0, none⟩ (.int .i64 15)).drewN a).setCell ⟨W3.heap.size, 1, none⟩ (.int .i64 25)).drewN b) L 93 legs := fun a b => (((HL4.out.far (p := ⟨W3.heap.size, 0, none⟩) hne2 _).drewN a).far (p := ⟨W3.heap.size, 1, none⟩) hne2 _).drewN b
  have hB5 : ∀ a b, Below w.heap.size w ((((W4.setCell ⟨W3.heap.size, 0, none⟩ (.int .i64 15)).drewN a).setCell ⟨W3.heap.size, 1, none⟩ (.int .i64 25)).drewN b) := fun a b =>
    below_drewN ((below_drewN ((hb1.trans (HB4.out.mono hz1)).setCell (p := ⟨W3.heap.size, 0, none⟩) (by simp; omega) _) a).setCell (p := ⟨W3.heap.size, 1, none⟩) (by simp; omega) _) b
  refine (csafe_any L c W3.heap.size 2 _ (hL5 _ _) (hA5 _ _)).mono ?_
  rintro e w6 ⟨rfl, hb6⟩
  have hA6 := (hA5 _ _).below hb6 (hA5 _ _).lt
  have hB6 := (hB5 _ _).trans (hb6.mono (hB5 _ _).size)
  clear hA5 hL5 hB5 hb6
  go_wp2_with fail
  go_ret2
  exact ⟨_, _, rfl, hA6, hB6⟩
end Go.Proofs.YtafclpmnpamipaaGreat
