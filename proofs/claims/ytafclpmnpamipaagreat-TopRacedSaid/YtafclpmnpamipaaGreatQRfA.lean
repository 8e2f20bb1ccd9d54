/- hairpinref08: which plans and cards are as defined, at a plan of one stage and plain cards. Printed by genrf8.py. -/
import Derived.Test.YtafclpmnpamipaaGreatQScC
namespace Go.Proofs.YtafclpmnpamipaaGreat
open Go.RowKit Go.Shelf Go.Sort Go.Proofs

theorem rf8In_any (x lo hi : Int) (w : World) :
    Calls Tryz.prog 34 #[.int .i64 x, .int .i64 lo, .int .i64 hi] w fun e w' => e = .returned (.bool (inR x lo hi)) ∧ w = w' := by
  by_cases h : lo ≤ x
  · have e : inR x lo hi = decide (x ≤ hi) := by simp [inR, h]
    rw [e]; clear e
    go_enter Tryz.func34, Tryz.ntmps34
    go_wp2
    go_ret
    exact ⟨rfl, rfl⟩
  · have e : inR x lo hi = false := by simp [inR, h]
    rw [e]; clear e
    go_enter Tryz.func34, Tryz.ntmps34
    go_wp2
    go_ret
    exact ⟨rfl, rfl⟩
theorem rf8In_yes (x lo hi : Int) (w : World) (h : lo ≤ x ∧ x ≤ hi) :
    Calls Tryz.prog 34 #[.int .i64 x, .int .i64 lo, .int .i64 hi] w fun e w' => e = .returned (.bool true) ∧ w = w' :=
  (rf8In_any x lo hi w).mono fun _ _ ⟨h1, h2⟩ => ⟨by rw [h1]; simp [inR, h.1, h.2], h2⟩
theorem rf8In_yesB (x lo hi : Int) (w : World) (h : lo ≤ x ∧ x ≤ hi) :
    Calls Tryz.prog 34 #[.int .i64 x, .int .i64 lo, .int .i64 hi] w fun e w' => e = .returned (.bool true) ∧ Below w.heap.size w w' :=
  (rf8In_yes x lo hi w h).mono fun _ _ ⟨h1, h2⟩ => ⟨h1, h2 ▸ Below.refl _ _⟩
set_option maxRecDepth 100000 in
set_option maxHeartbeats 8000000 in
theorem rf8All (A : Option Addr) (n c : Nat) (xs : List Int) (lo hi mn mx : Int) (w : World) (h : SL iC 1 w w.heap.size A n xs) (hn : n ≤ 1000) (h1 : lo ≤ n ∧ (n : Int) ≤ hi) (h2 : ∀ x ∈ xs, mn ≤ x ∧ x ≤ mx) :
    Calls Tryz.prog 35 #[.slice A n c, .int .i64 lo, .int .i64 hi, .int .i64 mn, .int .i64 mx] w fun e w' => e = .returned (.bool true) ∧ w = w' := by
  have HS := Lib.hid h
  have HL := Lib.hid h.1
  have H2 := Lib.hid h2
  have H1 := Lib.hid h1
  clear h h1 h2
  go_enter Tryz.func35, Tryz.ntmps35
  go_wp2_with fail
  go_loopw [11] (fun i wr => ∃ k : Nat, k ≤ n ∧ i = .int .i64 k ∧ w = wr)
    (fun i _ => n - (intOf i).toNat)
  case atStart => exact ⟨0, Nat.zero_le _, rfl, rfl⟩
  case round =>
    obtain ⟨k, hk, rfl, rfl⟩ := hrel
    by_cases hlt : k < n
    · have hkl : k < xs.length := by rw [← HL.out]; exact hlt
      obtain ⟨b, off, hA, hbB, c0⟩ := IS.at_ HS.out (k := k) hkl
      have hmem := Lib.hid (H2.out _ (List.getElem_mem hkl))
      generalize xs[k]'hkl = p at c0 hmem
      have hk1 : (0 : Int) ≤ (k : Int) := by omega
      have hk2 : (k : Int) < (n : Int) := by omega
      clear hkl
      subst hA
      go_wp2_with (go_at_call 34; refine (rf8In_yes _ _ _ _ hmem.out).mono ?_; rintro e w' ⟨rfl, rfl⟩)
      go_roundw
      case rel => exact ⟨k + 1, by omega, by go_num, by trivial⟩
      case measure => simp [intOf]; omega
    · obtain rfl : k = n := by omega
      go_wp2_with (go_at_call 34; refine (rf8In_yes _ _ _ _ H1.out).mono ?_; rintro e w' ⟨rfl, rfl⟩)
      go_ret
      exact ⟨rfl, by trivial⟩
end Go.Proofs.YtafclpmnpamipaaGreat

/- hairpinref08.Plan, at a plan of one stage. Printed by genrf8.py. -/
namespace Go.Proofs.YtafclpmnpamipaaGreat
open Go.RowKit Go.Shelf Go.Sort Go.Proofs

set_option maxRecDepth 100000 in
set_option maxHeartbeats 8000000 in
theorem rf8Plan (L : PlF) (w : World) (h : PD w w.heap.size L) :
    Calls Tryz.prog 11 #[plA L] w fun e w' => e = .returned (.bool true) ∧ Below w.heap.size w w' := by
  obtain ⟨w0, hw0⟩ : ∃ w0, w0 = (w.alloc (.cells #[.slice (some ⟨L.ib, 0, none⟩) 1 L.ic, .int .i64 1, .int .i64 0, .int .i64 0, .int .i64 L.ml, .int .i64 L.ll, .slice (some ⟨L.jb, 0, none⟩) 1 L.jc, .bool false, .int .i64 0, .int .i64 1, .int .i64 100, .int .i64 L.pow, .slice L.pa L.ps.length L.pc, .slice none 0 0] 42)).alloc (.cells #[.int .i64 0, .int .i64 0, .int .i64 L.ml, .int .i64 L.ll, .slice (some ⟨L.jb, 0, none⟩) 1 L.jc, .bool false, .int .i64 0, .int .i64 1, .int .i64 100, .int .i64 L.pow, .slice L.pa L.ps.length L.pc, .slice none 0 0] 40) := ⟨_, rfl⟩
  have hX0 : BK w0 w.heap.size 42 #[.slice (some ⟨L.ib, 0, none⟩) 1 L.ic, .int .i64 1, .int .i64 0, .int .i64 0, .int .i64 L.ml, .int .i64 L.ll, .slice (some ⟨L.jb, 0, none⟩) 1 L.jc, .bool false, .int .i64 0, .int .i64 1, .int .i64 100, .int .i64 L.pow, .slice L.pa L.ps.length L.pc, .slice none 0 0] := by rw [hw0]; exact (BK.new w _ _).alloc _
  have hR0 : BK w0 (w.heap.size + 1) 40 #[.int .i64 0, .int .i64 0, .int .i64 L.ml, .int .i64 L.ll, .slice (some ⟨L.jb, 0, none⟩) 1 L.jc, .bool false, .int .i64 0, .int .i64 1, .int .i64 100, .int .i64 L.pow, .slice L.pa L.ps.length L.pc, .slice none 0 0] := by
    have := BK.new (w.alloc (.cells #[.slice (some ⟨L.ib, 0, none⟩) 1 L.ic, .int .i64 1, .int .i64 0, .int .i64 0, .int .i64 L.ml, .int .i64 L.ll, .slice (some ⟨L.jb, 0, none⟩) 1 L.jc, .bool false, .int .i64 0, .int .i64 1, .int .i64 100, .int .i64 L.pow, .slice L.pa L.ps.length L.pc, .slice none 0 0] 42)) 40 #[.int .i64 0, .int .i64 0, .int .i64 L.ml, .int .i64 L.ll, .slice (some ⟨L.jb, 0, none⟩) 1 L.jc, .bool false, .int .i64 0, .int .i64 1, .int .i64 100, .int .i64 L.pow, .slice L.pa L.ps.length L.pc, .slice none 0 0]
    rw [World.size_alloc] at this
    rw [hw0]; exact this
  have hB0 : Below w.heap.size w w0 := by rw [hw0]; exact ((Below.refl _ w).alloc (Nat.le_refl _) _).alloc (by simp) _
  have HP0 := Lib.hid (h.grow hB0 hB0.size)
  have HX0 := Lib.hid hX0
  have HR0 := Lib.hid hR0
  have HB0 := Lib.hid hB0
  obtain ⟨x0, x1, x2, x3, x4, x5, x6, x7, x8, x9, x10, x11, x12, x13⟩ := bk14 hX0
  obtain ⟨i0, i1, i2, i3⟩ := HP0.out.it
  have hpow := h.pow
  have hml := h.ml
  have hll := h.ll
  have hp1 : -1 ≤ L.pow ∧ L.pow ≤ 0 := by omega
  have HPW := Lib.hid hpow
  clear h hX0 hR0 hB0 hpow
  unfold plA
  go_enter Tryz.func11, Tryz.ntmps11
  go_wp2_with fail
  rw [← hw0]
  clear hw0
  go_wp2_with (go_at_call 34; refine (rf8In_yes _ _ _ _ (by constructor <;> omega)).mono ?_; rintro e w' ⟨rfl, rfl⟩)
  refine wp_loop_rounds 2 ?_
  rw [rounds_succ]
  go_wp2_with fail
  go_quiet ((go_at_call 34; exact Calls.quiet_of_same ((rf8In_yes _ _ _ _ (by simp; omega)).mono fun _ _ ⟨a, b⟩ => ⟨a, b.symm⟩)))
  go_wp2_with fail
  rw [rounds_succ]
  obtain ⟨w1, hw1⟩ : ∃ w1, w1 = (w0.alloc (.cells #[.int .i64 2, .int .i64 0, .int .i64 0, .bool false] 36)).drewN nq := ⟨_, rfl⟩
  have hb1 : Below w0.heap.size w0 w1 := by rw [hw1]; exact below_drewN ((Below.refl _ w0).alloc (Nat.le_refl _) _) _
  have HX1 := Lib.hid (HX0.out.below hb1 HX0.out.lt)
  have HR1 := Lib.hid (HR0.out.below hb1 HR0.out.lt)
  have HP1 := Lib.hid (HP0.out.grow hb1 hb1.size)
  have HB1 := Lib.hid (HB0.out.trans (hb1.mono HB0.out.size))
  clear hb1 HB0 HX0 HR0 HP0
  rw [← hw1]
  obtain ⟨x0, x1, x2, x3, x4, x5, x6, x7, x8, x9, x10, x11, x12, x13⟩ := bk14 HX1.out
  obtain ⟨r0, r1, r2, r3, r4, r5, r6, r7, r8, r9, r10, r11⟩ := bk12 HR1.out
  clear hw1 i0 i1 i2 i3
  obtain ⟨i0, i1, i2, i3⟩ := HP1.out.it
  have HJ : Hid (SL iC 1 w1 w1.heap.size (some ⟨L.jb, 0, none⟩) 1 [0]) := CX.ints (xs := [0]) HP1.out.j
  have HS := Lib.hid HP1.out.p
  have HSL := Lib.hid HP1.out.pl
  have HSB := Lib.hid HP1.out.pb
  rcases HPW.out with hpe | hpe
  · have hpd : decide (0 ≤ L.pow) = false := by simp; omega
    go_wp2_with (first | (go_at_call 34; refine (rf8In_yes _ _ _ _ (by constructor <;> omega)).mono ?_; rintro e w' ⟨rfl, rfl⟩) | (go_at_call 35; first | (with_reducible refine (rf8All _ _ _ _ _ _ _ _ _ HJ.out (by decide) (by decide) (by simp)).mono ?_; rintro e w' ⟨rfl, rfl⟩) | (with_reducible refine (rf8All _ _ _ _ _ _ _ _ _ HS.out (by have := HSL.out; omega) (by have := HSL.out; omega) HSB.out).mono ?_; rintro e w' ⟨rfl, rfl⟩) | (with_reducible refine (rf8All _ _ _ _ _ _ _ _ _ SL.nil_ (by decide) (by decide) (by simp)).mono ?_; rintro e w' ⟨rfl, rfl⟩)))
    go_ret
    exact ⟨rfl, HB1.out⟩
  · have hpd : decide (0 ≤ L.pow) = true := by simp; omega
    go_wp2_with (first | (go_at_call 34; refine (rf8In_yes _ _ _ _ (by constructor <;> omega)).mono ?_; rintro e w' ⟨rfl, rfl⟩) | (go_at_call 35; first | (with_reducible refine (rf8All _ _ _ _ _ _ _ _ _ HJ.out (by decide) (by decide) (by simp)).mono ?_; rintro e w' ⟨rfl, rfl⟩) | (with_reducible refine (rf8All _ _ _ _ _ _ _ _ _ HS.out (by have := HSL.out; omega) (by have := HSL.out; omega) HSB.out).mono ?_; rintro e w' ⟨rfl, rfl⟩) | (with_reducible refine (rf8All _ _ _ _ _ _ _ _ _ SL.nil_ (by decide) (by decide) (by simp)).mono ?_; rintro e w' ⟨rfl, rfl⟩)))
    go_ret
    exact ⟨rfl, HB1.out⟩
end Go.Proofs.YtafclpmnpamipaaGreat
