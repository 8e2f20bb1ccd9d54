/- Books: note.Check of a book as defined, note.grade, note.Grade. -/
import Derived.Test.YtcniibngfnkobaaGreatDoorPCBackOk
import Derived.Test.YtcniibngfnkobaaGreatDoorPShelf
import Derived.Test.YtcniibngfnkobaaGreatDoorPCBase
import Derived.Test.YtcniibngfnkobaaGreatDoorPCRoad
import Derived.Test.YtcniibngfnkobaaGreatDoorPCLeaf
import Derived.Test.YtcniibngfnkobaaGreatDoorPCIter
import Derived.Test.YtcniibngfnkobaaGreatDoorPCCheck
import Derived.Test.YtcniibngfnkobaaGreatDoorPCValid
import Derived.Test.YtcniibngfnkobaaGreatDoorPCReg
import Derived.Test.YtcniibngfnkobaaGreatDoorPCGrouped
import Derived.Test.YtcniibngfnkobaaGreatDoorPCAppS
import Derived.Test.YtcniibngfnkobaaGreatDoorPCCorn
import Derived.Test.YtcniibngfnkobaaGreatDoorPCOpen
import Derived.Test.YtcniibngfnkobaaGreatDoorPCReg8
import Derived.Test.YtcniibngfnkobaaGreatDoorPCOrdM
import Derived.Test.YtcniibngfnkobaaGreatDoorPCRCorn
import Derived.Test.YtcniibngfnkobaaGreatDoorPCRev
import Derived.Test.YtcniibngfnkobaaGreatDoorPCRevR
namespace Go.Proofs.YtcniibngfnkobaaGreatDoor
open Go.RowKit Go.Shelf Go.Sort Go.Proofs

/-- A book. -/
structure BkR where
  gs : List Int
  sh : Int
  lo : Int
  ra : Int
  an : Int
  io : Int
  st : Int
  ga : Int
  le : Int
def bkA (A : Option Addr) (c : Nat) (b : BkR) : Value := .agg #[.slice A b.gs.length c, .int .i64 b.sh, .int .i64 b.lo, .int .i64 b.ra, .int .i64 b.an, .int .i64 b.io, .int .i64 b.st, .int .i64 b.ga, .int .i64 b.le]
/-- A book as defined. -/
structure BkOK (b : BkR) : Prop where
  n8 : b.gs.length ≤ 8
  sh1 : 1 ≤ b.sh
  shl : b.sh < b.lo
  lo1 : b.lo ≤ 10000
  ra1 : 101 ≤ b.ra
  ra2 : b.ra ≤ 1000
  an1 : 0 ≤ b.an
  an2 : b.an ≤ b.io
  io2 : b.io ≤ 1000
  st1 : 1 ≤ b.st
  st2 : b.st ≤ 100
  ga1 : 0 ≤ b.ga
  ga2 : b.ga ≤ 1000
  le1 : 1 ≤ b.le
  le2 : b.le ≤ 10000
  rng : ∀ g ∈ b.gs, 6 ≤ g ∧ g ≤ 2000
  inc : b.gs.Pairwise (· < ·)
theorem bk9 {b : BkR} {w : World} {g n c : Nat} {A : Option Addr} (h : BK w g 31 #[.slice A n c, .int .i64 b.sh, .int .i64 b.lo, .int .i64 b.ra, .int .i64 b.an, .int .i64 b.io, .int .i64 b.st, .int .i64 b.ga, .int .i64 b.le]) :
    w.cell? ⟨g, 0, none⟩ = some (.slice A n c) ∧ w.cell? ⟨g, 1, none⟩ = some (.int .i64 b.sh) ∧ w.cell? ⟨g, 2, none⟩ = some (.int .i64 b.lo) ∧ w.cell? ⟨g, 3, none⟩ = some (.int .i64 b.ra) ∧ w.cell? ⟨g, 4, none⟩ = some (.int .i64 b.an) ∧ w.cell? ⟨g, 5, none⟩ = some (.int .i64 b.io) ∧ w.cell? ⟨g, 6, none⟩ = some (.int .i64 b.st) ∧ w.cell? ⟨g, 7, none⟩ = some (.int .i64 b.ga) ∧ w.cell? ⟨g, 8, none⟩ = some (.int .i64 b.le) := by
  have c0 := h.cell 0
  have c1 := h.cell 1
  have c2 := h.cell 2
  have c3 := h.cell 3
  have c4 := h.cell 4
  have c5 := h.cell 5
  have c6 := h.cell 6
  have c7 := h.cell 7
  have c8 := h.cell 8
  simp only [List.getElem?_toArray, List.getElem?_cons_zero, List.getElem?_cons_succ] at c0 c1 c2 c3 c4 c5 c6 c7 c8
  exact ⟨c0, c1, c2, c3, c4, c5, c6, c7, c8⟩
theorem nwithin_r (x lo hi : Int) (w : World) :
    Calls Tryz.prog 42 #[.int .i64 x, .int .i64 lo, .int .i64 hi] w fun e w' => e = .returned (.bool (inR x lo hi)) ∧ w = w' := (nwithin_any x lo hi w).mono fun e w' ⟨h, k⟩ => ⟨by rw [h]; rfl, k⟩
theorem BkOK.step {b : BkR} (h : BkOK b) {k : Nat} (hk : k + 1 < b.gs.length) : b.gs[k] < b.gs[k + 1] := List.pairwise_iff_getElem.1 h.inc k (k + 1) (by omega) hk (by omega)
set_option maxRecDepth 100000 in
set_option maxHeartbeats 4000000 in
theorem nCheck_ok (b : BkR) (hv : BkOK b) (A : Option Addr) (c : Nat) (w : World) (h : SL iC 1 w w.heap.size A b.gs.length b.gs) :
    Calls Tryz.prog 26 #[bkA A c b] w fun e w' => e = .returned (.int .i64 0) ∧ Below w.heap.size w w' := by
  obtain ⟨n, hn⟩ : ∃ n, n = b.gs.length := ⟨_, rfl⟩
  obtain ⟨w0, hw0⟩ : ∃ w0, w0 = w.alloc (.cells #[.slice A n c, .int .i64 b.sh, .int .i64 b.lo, .int .i64 b.ra, .int .i64 b.an, .int .i64 b.io, .int .i64 b.st, .int .i64 b.ga, .int .i64 b.le] 31) := ⟨_, rfl⟩
  have hX : BK w0 w.heap.size 31 #[.slice A n c, .int .i64 b.sh, .int .i64 b.lo, .int .i64 b.ra, .int .i64 b.an, .int .i64 b.io, .int .i64 b.st, .int .i64 b.ga, .int .i64 b.le] := by rw [hw0]; exact BK.new w _ _
  have hB0 : Below w.heap.size w w0 := by rw [hw0]; exact (Below.refl _ w).alloc (Nat.le_refl _) _
  have hS : SL iC 1 w0 w.heap.size A n b.gs := by rw [hn]; exact h.below hB0
  have hv1 := hv.shl
  have hv2 := hv.lo1
  have hv3 := hv.sh1
  have hw1 : IntKind.i64.wrap (b.lo - 1) = b.lo - 1 := IntWalk.i64_in _ (by omega)
  have i1 : inR b.sh 1 (b.lo - 1) = true := by simp [inR]; omega
  have i2 : inR b.ra 101 1000 = true := by have := hv.ra1; have := hv.ra2; simp [inR]; omega
  have i3 : inR b.an 0 b.io = true := by have := hv.an1; have := hv.an2; simp [inR]; omega
  have i4 : inR b.st 1 100 = true := by have := hv.st1; have := hv.st2; simp [inR]; omega
  have i5 : inR b.ga 0 1000 = true := by have := hv.ga1; have := hv.ga2; simp [inR]; omega
  have i6 : inR b.le 1 10000 = true := by have := hv.le1; have := hv.le2; simp [inR]; omega
  have hn8 : n ≤ 8 := by rw [hn]; exact hv.n8
  have hio := hv.io2
  have d1 : decide (8 < (n : Int)) = false := by simp; omega
  have d2 : decide (10000 < b.lo) = false := by simp; omega
  have d3 : decide (1000 < b.io) = false := by simp; omega
  have HV := Lib.hid hv
  have HN := Lib.hid hn
  obtain ⟨c0, c1, c2, c3, c4, c5, c6, c7, c8⟩ := bk9 hX
  unfold bkA
  rw [← hn]
  clear hv hn hv1 hv2 hv3 h
  go_enter Tryz.func26, Tryz.ntmps26
  go_wp2_with fail
  rw [← hw0]
  clear hw0
  go_wp2_with (go_at_call 42; refine (nwithin_r _ _ _ _).mono ?_; rintro e w' ⟨rfl, rfl⟩)
  clear i1 i2 i3 i4 i5 i6 d1 d2 d3 hw1 hio c1 c2 c3 c4 c5 c6 c7 c8
  go_loopw [65] (fun i wr => ∃ k : Nat, k ≤ n ∧ i = .int .i64 k ∧ wr = w0) (fun i _ => n - (intOf i).toNat)
  case atStart => exact ⟨0, Nat.zero_le _, rfl, rfl⟩
  case round =>
    obtain ⟨k, hk, rfl, hwr⟩ := hrel
    subst hwr
    by_cases hlt : k < n
    · have hkl : k < b.gs.length := by rw [← HN.out]; exact hlt
      obtain ⟨ab, off, hA, hbB, ck⟩ := IS.at_ hS hkl
      subst hA
      have hin : inR b.gs[k] 6 2000 = true := by have := HV.out.rng _ (List.getElem_mem hkl); simp [inR, this]
      have g1 : (0 : Int) ≤ (k : Int) := by omega
      have g2 : (k : Int) < (n : Int) := by omega
      rcases k with _ | k
      · rw [Nat.add_zero] at ck
        have hgt : decide ((0 : Int) < ((0 : Nat) : Int)) = false := by decide
        go_wp2_with (go_at_call 42; refine (nwithin_r _ _ _ _).mono ?_; rintro e w' ⟨rfl, rfl⟩)
        go_roundw
        case rel => exact ⟨1, by omega, by go_num, trivial⟩
        case measure => simp [intOf]; omega
      · have hst := HV.out.step (k := k) hkl
        obtain ⟨ab', off', hA', -, cp⟩ := IS.at_ hS (k := k) (by omega)
        injection hA' with hA'
        injection hA' with h1 h2
        subst h1
        subst h2
        have hle : decide (b.gs[k + 1] ≤ b.gs[k]) = false := by simp; omega
        have hgt : decide ((0 : Int) < ((k + 1 : Nat) : Int)) = true := by rw [decide_eq_true_eq]; omega
        have hw2 : IntKind.i64.wrap (((k + 1 : Nat) : Int) - 1) = (k : Int) := by rw [show ((k + 1 : Nat) : Int) - 1 = (k : Int) by omega]; exact IntWalk.i64_in _ (by omega)
        have g3 : (0 : Int) ≤ (k : Int) := by omega
        have g4 : (k : Int) < (n : Int) := by omega
        have HLE := Lib.hid hle
        clear hst
        go_wp2_with (go_at_call 42; refine (nwithin_r _ _ _ _).mono ?_; rintro e w' ⟨rfl, rfl⟩)
        go_roundw
        case rel => exact ⟨k + 2, by omega, by go_num, trivial⟩
        case measure => simp [intOf]; omega
    · obtain rfl : k = n := by omega
      go_wp2_with fail
      go_ret
      exact ⟨rfl, hB0⟩
/-- The grade of a radius. -/
def gradeI (b : BkR) (x : Int) : Int := (b.gs.countP (fun g => decide (g ≤ x)) : Nat) + 1
theorem count_le : ∀ (l : List Int) (x : Int), l.Pairwise (· < ·) → l.countP (fun g => decide (g ≤ x)) = l.countP (fun g => decide (g < x)) + (if l.contains x then 1 else 0)
  | [], x, _ => rfl
  | a :: l, x, h => by
    obtain ⟨h1, h2⟩ := List.pairwise_cons.1 h
    have ih := count_le l x h2
    rw [List.countP_cons, List.countP_cons, ih, List.contains_cons]
    by_cases e : x = a
    · subst e
      have h3 : l.contains x = false := by
        rw [Bool.eq_false_iff]
        intro hc
        have := h1 x (by simpa using hc)
        omega
      rw [h3]
      simp
    · have e2 : (x == a) = false := by simpa using e
      rw [e2, Bool.false_or]
      by_cases h4 : a < x
      · have h5 : a ≤ x := by omega
        simp [h4, h5]
        omega
      · have h5 : ¬ a ≤ x := by omega
        simp [h4, h5]
theorem w64_1 {k : Nat} (h : k ≤ 8) : IntKind.i64.wrap ((k : Int) + 1) = (k : Int) + 1 := IntWalk.i64_in _ (by omega)
theorem w64_2 {k : Nat} (h : k ≤ 8) : IntKind.i64.wrap ((k : Int) + 1 + 1) = (k : Int) + 1 + 1 := IntWalk.i64_in _ (by omega)
set_option maxRecDepth 100000 in
set_option maxHeartbeats 4000000 in
theorem ngrade_ok (b : BkR) (hv : BkOK b) (A : Option Addr) (c : Nat) (x : Int) (w : World) (h : SL iC 1 w w.heap.size A b.gs.length b.gs) :
    Calls Tryz.prog 47 #[bkA A c b, .int .i64 x] w fun e w' => e = .returned (.int .i64 (gradeI b x)) ∧ Below w.heap.size w w' := by
  obtain ⟨n, hn⟩ : ∃ n, n = b.gs.length := ⟨_, rfl⟩
  obtain ⟨w0, hw0⟩ : ∃ w0, w0 = w.alloc (.cells #[.slice A n c, .int .i64 b.sh, .int .i64 b.lo, .int .i64 b.ra, .int .i64 b.an, .int .i64 b.io, .int .i64 b.st, .int .i64 b.ga, .int .i64 b.le] 31) := ⟨_, rfl⟩
  have hX : BK w0 w.heap.size 31 #[.slice A n c, .int .i64 b.sh, .int .i64 b.lo, .int .i64 b.ra, .int .i64 b.an, .int .i64 b.io, .int .i64 b.st, .int .i64 b.ga, .int .i64 b.le] := by rw [hw0]; exact BK.new w _ _
  have hB0 : Below w.heap.size w w0 := by rw [hw0]; exact (Below.refl _ w).alloc (Nat.le_refl _) _
  have hS : SL iC 1 w0 w.heap.size A n b.gs := by rw [hn]; exact h.below hB0
  have hn8 : n ≤ 8 := by rw [hn]; exact hv.n8
  have hcl := count_le b.gs x hv.inc
  have hpw : b.gs.Pairwise (· ≤ ·) := hv.inc.imp (fun h => Int.le_of_lt h)
  have HC : Calls Tryz.prog 65 #[.slice A n c, .int .i64 x] w0 fun e w' => ∃ (k : Nat) (m : Bool), e = .returned (.tuple #[.int .i64 (k : Nat), .bool m]) ∧ b.gs.countP (fun g => decide (g ≤ x)) = k + (if m then 1 else 0) ∧ k ≤ 8 ∧ Below w0.heap.size w0 w' := by
    rcases Nat.eq_zero_or_pos n with h0 | h0
    · subst h0
      refine (sh_slices_BinarySearch_int_empty A c x w0).mono ?_
      rintro e w' ⟨rfl, rfl⟩
      refine ⟨0, false, rfl, ?_, by omega, Below.refl _ _⟩
      rw [List.length_eq_zero_iff.1 hn.symm]
      rfl
    · obtain ⟨ab, off, rfl, -, -⟩ := IS.at_ hS (k := 0) (by omega)
      have ht : b.gs.take n = b.gs := by rw [hn]; exact List.take_length
      refine (sh_slices_BinarySearch_int ab off n c b.gs x w0 (by omega) (by omega) (fun j hj => ?_) (by rw [ht]; exact hpw)).mono ?_
      · obtain ⟨ab', off', e, -, hc⟩ := IS.at_ hS hj
        injection e with e
        injection e with e1 e2
        subst e1
        subst e2
        rw [hc, List.getD_eq_getElem?_getD, List.getElem?_eq_getElem hj]
        rfl
      · rintro e w' ⟨rfl, q, rfl⟩
        rw [ht]
        exact ⟨_, _, rfl, hcl, Nat.le_trans List.countP_le_length (by omega), ⟨rfl, rfl, rfl, Nat.le_refl _, fun _ _ => rfl⟩⟩
  have HH := Lib.hid HC
  have c0 := hX.cell 0
  simp only [List.getElem?_toArray, List.getElem?_cons_zero] at c0
  unfold bkA gradeI
  rw [← hn]
  clear hv hn h hcl HC hpw
  go_enter Tryz.func47, Tryz.ntmps47
  go_wp2_with fail
  rw [← hw0]
  clear hw0
  go_wp2_with (go_at_call 65; refine HH.out.mono ?_; rintro e w' ⟨k, m, rfl, hk, hk8, hb⟩; have hw1 := w64_1 hk8; have hw2 := w64_2 hk8; cases m)
  · go_ret
    simp only [Bool.false_eq_true, if_false] at hk
    exact ⟨by rw [hk]; rfl, hB0.trans (hb.mono hB0.size)⟩
  · go_ret
    simp only [if_true] at hk
    exact ⟨by rw [hk]; rfl, hB0.trans (hb.mono hB0.size)⟩
end Go.Proofs.YtcniibngfnkobaaGreatDoor
