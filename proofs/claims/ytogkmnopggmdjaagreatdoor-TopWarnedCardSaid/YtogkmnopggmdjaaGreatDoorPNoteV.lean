/- Notes: the program's Valid and the document's. -/
import Derived.Test.YtogkmnopggmdjaaGreatDoorPNoteP
import Derived.Test.YtogkmnopggmdjaaGreatDoorPOrdM
namespace Go.Proofs.YtogkmnopggmdjaaGreatDoor
open Go.RowKit Go.Shelf Go.Sort Go.Proofs

theorem eq_note (a0 a1 a2 a3 a4 a5 a6 a7 a8 a9 b0 b1 b2 b3 b4 b5 b6 b7 b8 b9 : Int) (w : World) :
    (Go.binOp .eql 54 (.agg #[.int .i64 a0, .int .i64 a1, .int .i64 a2, .int .i64 a3, .int .i64 a4, .int .i64 a5, .int .i64 a6, .int .i64 a7, .int .i64 a8, .int .i64 a9]) (.agg #[.int .i64 b0, .int .i64 b1, .int .i64 b2, .int .i64 b3, .int .i64 b4, .int .i64 b5, .int .i64 b6, .int .i64 b7, .int .i64 b8, .int .i64 b9])).run Tryz.prog w = .ok (.bool ((a0 == b0) && (a1 == b1) && (a2 == b2) && (a3 == b3) && (a4 == b4) && (a5 == b5) && (a6 == b6) && (a7 == b7) && (a8 == b8) && (a9 == b9))) w := by
  by_cases h0 : a0 = b0
  case neg =>
    have g0 : (a0 == b0) = false := by simpa using h0
    go_simp
  subst h0
  by_cases h1 : a1 = b1
  case neg =>
    have g1 : (a1 == b1) = false := by simpa using h1
    go_simp
  subst h1
  by_cases h2 : a2 = b2
  case neg =>
    have g2 : (a2 == b2) = false := by simpa using h2
    go_simp
  subst h2
  by_cases h3 : a3 = b3
  case neg =>
    have g3 : (a3 == b3) = false := by simpa using h3
    go_simp
  subst h3
  by_cases h4 : a4 = b4
  case neg =>
    have g4 : (a4 == b4) = false := by simpa using h4
    go_simp
  subst h4
  by_cases h5 : a5 = b5
  case neg =>
    have g5 : (a5 == b5) = false := by simpa using h5
    go_simp
  subst h5
  by_cases h6 : a6 = b6
  case neg =>
    have g6 : (a6 == b6) = false := by simpa using h6
    go_simp
  subst h6
  by_cases h7 : a7 = b7
  case neg =>
    have g7 : (a7 == b7) = false := by simpa using h7
    go_simp
  subst h7
  by_cases h8 : a8 = b8
  case neg =>
    have g8 : (a8 == b8) = false := by simpa using h8
    go_simp
  subst h8
  by_cases h9 : a9 = b9
  case neg =>
    have g9 : (a9 == b9) = false := by simpa using h9
    go_simp
  subst h9
  go_simp
theorem rin_any (x lo hi : Int) (w : World) :
    Calls Tryz.prog 25 #[.int .i64 x, .int .i64 lo, .int .i64 hi] w fun e w' => e = .returned (.bool (decide (lo ≤ x) && decide (x ≤ hi))) ∧ w = w' := by
  by_cases h : lo ≤ x
  · have e : (decide (lo ≤ x) && decide (x ≤ hi)) = decide (x ≤ hi) := by simp [h]
    rw [e]; clear e
    go_enter Tryz.func25, Tryz.ntmps25
    go_wp2
    go_ret
    exact ⟨rfl, rfl⟩
  · have e : (decide (lo ≤ x) && decide (x ≤ hi)) = false := by simp [h]
    rw [e]; clear e
    go_enter Tryz.func25, Tryz.ntmps25
    go_wp2
    go_ret
    exact ⟨rfl, rfl⟩
set_option maxRecDepth 100000 in
set_option maxHeartbeats 8000000 in
theorem nvalid_any (k tu gr lo ch ton me si wa ar : Int) (w : World) :
    Calls Tryz.prog 95 #[.agg #[.int .i64 k, .int .i64 tu, .int .i64 gr, .int .i64 lo, .int .i64 ch, .int .i64 ton, .int .i64 me, .int .i64 si, .int .i64 wa, .int .i64 ar]] w fun e w' => e = .returned (.bool (nVal ⟨k, tu, gr, lo, ch, ton, me, si, wa, ar⟩)) ∧ Below w.heap.size w w' := by
  have hq := eq_note
  by_cases k1 : k = 1
  · subst k1
    by_cases t1 : tu = -1 ∨ tu = 1
    case neg =>
      have g1 : (tu == -1) = false := by simp; omega
      have g2 : (tu == 1) = false := by simp; omega
      have g3 : (tu != -1) = true := by simp; omega
      have g4 : (tu != 1) = true := by simp; omega
      have e : nVal ⟨1, tu, gr, lo, ch, ton, me, si, wa, ar⟩ = false := by
        rw [← Bool.not_eq_true, nVal1]
        omega
      rw [e]; clear e
      go_enter Tryz.func95, Tryz.ntmps95
      go_wp2_with (go_at_call 66; refine (nwithin_any _ _ _ _).mono ?_; rintro e w' ⟨rfl, rfl⟩)
      all_goals go_ret
      all_goals exact ⟨rfl, (Below.refl _ _).alloc (Nat.le_refl _) _⟩
    rcases t1 with rfl | rfl
    ·
      cases r1 : (decide ((1 : Int) ≤ gr) && decide (gr ≤ (9 : Int)))
      case false =>
        have pr1 : ¬((1 : Int) ≤ gr ∧ gr ≤ 9) := by simpa using r1
        have e : nVal ⟨1, (-1), gr, lo, ch, ton, me, si, wa, ar⟩ = false := by
          rw [← Bool.not_eq_true, nVal1]
          omega
        rw [e]; clear e
        go_enter Tryz.func95, Tryz.ntmps95
        go_wp2_with (go_at_call 66; refine (nwithin_any _ _ _ _).mono ?_; rintro e w' ⟨rfl, rfl⟩)
        all_goals go_ret
        all_goals exact ⟨rfl, (Below.refl _ _).alloc (Nat.le_refl _) _⟩
      have pr1 : (1 : Int) ≤ gr ∧ gr ≤ 9 := by simpa using r1
      cases r2 : (decide ((-1 : Int) ≤ lo) && decide (lo ≤ (1 : Int)))
      case false =>
        have pr2 : ¬((-1 : Int) ≤ lo ∧ lo ≤ 1) := by simpa using r2
        have e : nVal ⟨1, (-1), gr, lo, ch, ton, me, si, wa, ar⟩ = false := by
          rw [← Bool.not_eq_true, nVal1]
          omega
        rw [e]; clear e
        go_enter Tryz.func95, Tryz.ntmps95
        go_wp2_with (go_at_call 66; refine (nwithin_any _ _ _ _).mono ?_; rintro e w' ⟨rfl, rfl⟩)
        all_goals go_ret
        all_goals exact ⟨rfl, (Below.refl _ _).alloc (Nat.le_refl _) _⟩
      have pr2 : (-1 : Int) ≤ lo ∧ lo ≤ 1 := by simpa using r2
      cases r3 : (decide ((-1 : Int) ≤ ch) && decide (ch ≤ (1 : Int)))
      case false =>
        have pr3 : ¬((-1 : Int) ≤ ch ∧ ch ≤ 1) := by simpa using r3
        have e : nVal ⟨1, (-1), gr, lo, ch, ton, me, si, wa, ar⟩ = false := by
          rw [← Bool.not_eq_true, nVal1]
          omega
        rw [e]; clear e
        go_enter Tryz.func95, Tryz.ntmps95
        go_wp2_with (go_at_call 66; refine (nwithin_any _ _ _ _).mono ?_; rintro e w' ⟨rfl, rfl⟩)
        all_goals go_ret
        all_goals exact ⟨rfl, (Below.refl _ _).alloc (Nat.le_refl _) _⟩
      have pr3 : (-1 : Int) ≤ ch ∧ ch ≤ 1 := by simpa using r3
      have hch : ch = 0 ∨ ch = -1 ∨ ch = 1 := by omega
      clear r3 pr3
      rcases hch with rfl | rfl | rfl
      ·
        by_cases r4 : ton = 0
        case neg =>
          have g5 : (ton == 0) = false := by simp; omega
          have g6 : (ton != 0) = true := by simp; omega
          have e : nVal ⟨1, (-1), gr, lo, 0, ton, me, si, wa, ar⟩ = false := by
            rw [← Bool.not_eq_true, nVal1]
            omega
          rw [e]; clear e
          go_enter Tryz.func95, Tryz.ntmps95
          go_wp2_with (go_at_call 66; refine (nwithin_any _ _ _ _).mono ?_; rintro e w' ⟨rfl, rfl⟩)
          all_goals go_ret
          all_goals exact ⟨rfl, (Below.refl _ _).alloc (Nat.le_refl _) _⟩
        subst r4
        obtain ⟨bb, hbb⟩ : ∃ bb, bb = nVal ⟨1, (-1), gr, lo, 0, 0, me, si, wa, ar⟩ := ⟨_, rfl⟩
        rw [← hbb]
        go_enter Tryz.func95, Tryz.ntmps95
        go_wp2_with (go_at_call 66; refine (nwithin_any _ _ _ _).mono ?_; rintro e w' ⟨rfl, rfl⟩)
        all_goals go_ret
        refine ⟨?_, (Below.refl _ _).alloc (Nat.le_refl _) _⟩
        rw [hbb]
        refine congrArg (fun b => Ending.returned (Value.bool b)) ?_
        rw [Bool.eq_iff_iff]
        simp only [Bool.and_eq_true, beq_iff_eq]
        rw [nVal1]
        omega
      ·
        cases r4 : (decide ((gr + 1 : Int) ≤ ton) && decide (ton ≤ (9 : Int)))
        case false =>
          have pr4 : ¬((gr + 1 : Int) ≤ ton ∧ ton ≤ 9) := by simpa using r4
          have e : nVal ⟨1, (-1), gr, lo, (-1), ton, me, si, wa, ar⟩ = false := by
            rw [← Bool.not_eq_true, nVal1]
            omega
          rw [e]; clear e
          go_enter Tryz.func95, Tryz.ntmps95
          go_wp2_with (go_at_call 66; refine (nwithin_any _ _ _ _).mono ?_; rintro e w' ⟨rfl, rfl⟩)
          all_goals go_ret
          all_goals exact ⟨rfl, (Below.refl _ _).alloc (Nat.le_refl _) _⟩
        have pr4 : (gr + 1 : Int) ≤ ton ∧ ton ≤ 9 := by simpa using r4
        obtain ⟨bb, hbb⟩ : ∃ bb, bb = nVal ⟨1, (-1), gr, lo, (-1), ton, me, si, wa, ar⟩ := ⟨_, rfl⟩
        rw [← hbb]
        go_enter Tryz.func95, Tryz.ntmps95
        go_wp2_with (go_at_call 66; refine (nwithin_any _ _ _ _).mono ?_; rintro e w' ⟨rfl, rfl⟩)
        all_goals go_ret
        refine ⟨?_, (Below.refl _ _).alloc (Nat.le_refl _) _⟩
        rw [hbb]
        refine congrArg (fun b => Ending.returned (Value.bool b)) ?_
        rw [Bool.eq_iff_iff]
        simp only [Bool.and_eq_true, beq_iff_eq]
        rw [nVal1]
        omega
      ·
        cases r4 : (decide ((1 : Int) ≤ ton) && decide (ton ≤ (gr - 1 : Int)))
        case false =>
          have pr4 : ¬((1 : Int) ≤ ton ∧ ton ≤ gr - 1) := by simpa using r4
          have e : nVal ⟨1, (-1), gr, lo, 1, ton, me, si, wa, ar⟩ = false := by
            rw [← Bool.not_eq_true, nVal1]
            omega
          rw [e]; clear e
          go_enter Tryz.func95, Tryz.ntmps95
          go_wp2_with (go_at_call 66; refine (nwithin_any _ _ _ _).mono ?_; rintro e w' ⟨rfl, rfl⟩)
          all_goals go_ret
          all_goals exact ⟨rfl, (Below.refl _ _).alloc (Nat.le_refl _) _⟩
        have pr4 : (1 : Int) ≤ ton ∧ ton ≤ gr - 1 := by simpa using r4
        obtain ⟨bb, hbb⟩ : ∃ bb, bb = nVal ⟨1, (-1), gr, lo, 1, ton, me, si, wa, ar⟩ := ⟨_, rfl⟩
        rw [← hbb]
        go_enter Tryz.func95, Tryz.ntmps95
        go_wp2_with (go_at_call 66; refine (nwithin_any _ _ _ _).mono ?_; rintro e w' ⟨rfl, rfl⟩)
        all_goals go_ret
        refine ⟨?_, (Below.refl _ _).alloc (Nat.le_refl _) _⟩
        rw [hbb]
        refine congrArg (fun b => Ending.returned (Value.bool b)) ?_
        rw [Bool.eq_iff_iff]
        simp only [Bool.and_eq_true, beq_iff_eq]
        rw [nVal1]
        omega
    ·
      cases r1 : (decide ((1 : Int) ≤ gr) && decide (gr ≤ (9 : Int)))
      case false =>
        have pr1 : ¬((1 : Int) ≤ gr ∧ gr ≤ 9) := by simpa using r1
        have e : nVal ⟨1, 1, gr, lo, ch, ton, me, si, wa, ar⟩ = false := by
          rw [← Bool.not_eq_true, nVal1]
          omega
        rw [e]; clear e
        go_enter Tryz.func95, Tryz.ntmps95
        go_wp2_with (go_at_call 66; refine (nwithin_any _ _ _ _).mono ?_; rintro e w' ⟨rfl, rfl⟩)
        all_goals go_ret
        all_goals exact ⟨rfl, (Below.refl _ _).alloc (Nat.le_refl _) _⟩
      have pr1 : (1 : Int) ≤ gr ∧ gr ≤ 9 := by simpa using r1
      cases r2 : (decide ((-1 : Int) ≤ lo) && decide (lo ≤ (1 : Int)))
      case false =>
        have pr2 : ¬((-1 : Int) ≤ lo ∧ lo ≤ 1) := by simpa using r2
        have e : nVal ⟨1, 1, gr, lo, ch, ton, me, si, wa, ar⟩ = false := by
          rw [← Bool.not_eq_true, nVal1]
          omega
        rw [e]; clear e
        go_enter Tryz.func95, Tryz.ntmps95
        go_wp2_with (go_at_call 66; refine (nwithin_any _ _ _ _).mono ?_; rintro e w' ⟨rfl, rfl⟩)
        all_goals go_ret
        all_goals exact ⟨rfl, (Below.refl _ _).alloc (Nat.le_refl _) _⟩
      have pr2 : (-1 : Int) ≤ lo ∧ lo ≤ 1 := by simpa using r2
      cases r3 : (decide ((-1 : Int) ≤ ch) && decide (ch ≤ (1 : Int)))
      case false =>
        have pr3 : ¬((-1 : Int) ≤ ch ∧ ch ≤ 1) := by simpa using r3
        have e : nVal ⟨1, 1, gr, lo, ch, ton, me, si, wa, ar⟩ = false := by
          rw [← Bool.not_eq_true, nVal1]
          omega
        rw [e]; clear e
        go_enter Tryz.func95, Tryz.ntmps95
        go_wp2_with (go_at_call 66; refine (nwithin_any _ _ _ _).mono ?_; rintro e w' ⟨rfl, rfl⟩)
        all_goals go_ret
        all_goals exact ⟨rfl, (Below.refl _ _).alloc (Nat.le_refl _) _⟩
      have pr3 : (-1 : Int) ≤ ch ∧ ch ≤ 1 := by simpa using r3
      have hch : ch = 0 ∨ ch = -1 ∨ ch = 1 := by omega
      clear r3 pr3
      rcases hch with rfl | rfl | rfl
      ·
        by_cases r4 : ton = 0
        case neg =>
          have g5 : (ton == 0) = false := by simp; omega
          have g6 : (ton != 0) = true := by simp; omega
          have e : nVal ⟨1, 1, gr, lo, 0, ton, me, si, wa, ar⟩ = false := by
            rw [← Bool.not_eq_true, nVal1]
            omega
          rw [e]; clear e
          go_enter Tryz.func95, Tryz.ntmps95
          go_wp2_with (go_at_call 66; refine (nwithin_any _ _ _ _).mono ?_; rintro e w' ⟨rfl, rfl⟩)
          all_goals go_ret
          all_goals exact ⟨rfl, (Below.refl _ _).alloc (Nat.le_refl _) _⟩
        subst r4
        obtain ⟨bb, hbb⟩ : ∃ bb, bb = nVal ⟨1, 1, gr, lo, 0, 0, me, si, wa, ar⟩ := ⟨_, rfl⟩
        rw [← hbb]
        go_enter Tryz.func95, Tryz.ntmps95
        go_wp2_with (go_at_call 66; refine (nwithin_any _ _ _ _).mono ?_; rintro e w' ⟨rfl, rfl⟩)
        all_goals go_ret
        refine ⟨?_, (Below.refl _ _).alloc (Nat.le_refl _) _⟩
        rw [hbb]
        refine congrArg (fun b => Ending.returned (Value.bool b)) ?_
        rw [Bool.eq_iff_iff]
        simp only [Bool.and_eq_true, beq_iff_eq]
        rw [nVal1]
        omega
      ·
        cases r4 : (decide ((gr + 1 : Int) ≤ ton) && decide (ton ≤ (9 : Int)))
        case false =>
          have pr4 : ¬((gr + 1 : Int) ≤ ton ∧ ton ≤ 9) := by simpa using r4
          have e : nVal ⟨1, 1, gr, lo, (-1), ton, me, si, wa, ar⟩ = false := by
            rw [← Bool.not_eq_true, nVal1]
            omega
          rw [e]; clear e
          go_enter Tryz.func95, Tryz.ntmps95
          go_wp2_with (go_at_call 66; refine (nwithin_any _ _ _ _).mono ?_; rintro e w' ⟨rfl, rfl⟩)
          all_goals go_ret
          all_goals exact ⟨rfl, (Below.refl _ _).alloc (Nat.le_refl _) _⟩
        have pr4 : (gr + 1 : Int) ≤ ton ∧ ton ≤ 9 := by simpa using r4
        obtain ⟨bb, hbb⟩ : ∃ bb, bb = nVal ⟨1, 1, gr, lo, (-1), ton, me, si, wa, ar⟩ := ⟨_, rfl⟩
        rw [← hbb]
        go_enter Tryz.func95, Tryz.ntmps95
        go_wp2_with (go_at_call 66; refine (nwithin_any _ _ _ _).mono ?_; rintro e w' ⟨rfl, rfl⟩)
        all_goals go_ret
        refine ⟨?_, (Below.refl _ _).alloc (Nat.le_refl _) _⟩
        rw [hbb]
        refine congrArg (fun b => Ending.returned (Value.bool b)) ?_
        rw [Bool.eq_iff_iff]
        simp only [Bool.and_eq_true, beq_iff_eq]
        rw [nVal1]
        omega
      ·
        cases r4 : (decide ((1 : Int) ≤ ton) && decide (ton ≤ (gr - 1 : Int)))
        case false =>
          have pr4 : ¬((1 : Int) ≤ ton ∧ ton ≤ gr - 1) := by simpa using r4
          have e : nVal ⟨1, 1, gr, lo, 1, ton, me, si, wa, ar⟩ = false := by
            rw [← Bool.not_eq_true, nVal1]
            omega
          rw [e]; clear e
          go_enter Tryz.func95, Tryz.ntmps95
          go_wp2_with (go_at_call 66; refine (nwithin_any _ _ _ _).mono ?_; rintro e w' ⟨rfl, rfl⟩)
          all_goals go_ret
          all_goals exact ⟨rfl, (Below.refl _ _).alloc (Nat.le_refl _) _⟩
        have pr4 : (1 : Int) ≤ ton ∧ ton ≤ gr - 1 := by simpa using r4
        obtain ⟨bb, hbb⟩ : ∃ bb, bb = nVal ⟨1, 1, gr, lo, 1, ton, me, si, wa, ar⟩ := ⟨_, rfl⟩
        rw [← hbb]
        go_enter Tryz.func95, Tryz.ntmps95
        go_wp2_with (go_at_call 66; refine (nwithin_any _ _ _ _).mono ?_; rintro e w' ⟨rfl, rfl⟩)
        all_goals go_ret
        refine ⟨?_, (Below.refl _ _).alloc (Nat.le_refl _) _⟩
        rw [hbb]
        refine congrArg (fun b => Ending.returned (Value.bool b)) ?_
        rw [Bool.eq_iff_iff]
        simp only [Bool.and_eq_true, beq_iff_eq]
        rw [nVal1]
        omega
  by_cases k2 : k = 2
  · subst k2
    cases r1 : (decide ((1 : Int) ≤ me) && decide (me ≤ (9999 : Int)))
    case false =>
      have pr1 : ¬((1 : Int) ≤ me ∧ me ≤ 9999) := by simpa using r1
      have e : nVal ⟨2, tu, gr, lo, ch, ton, me, si, wa, ar⟩ = false := by
        rw [← Bool.not_eq_true, nVal2]
        omega
      rw [e]; clear e
      go_enter Tryz.func95, Tryz.ntmps95
      go_wp2_with (go_at_call 66; refine (nwithin_any _ _ _ _).mono ?_; rintro e w' ⟨rfl, rfl⟩)
      all_goals go_ret
      all_goals exact ⟨rfl, (Below.refl _ _).alloc (Nat.le_refl _) _⟩
    have pr1 : (1 : Int) ≤ me ∧ me ≤ 9999 := by simpa using r1
    obtain ⟨bb, hbb⟩ : ∃ bb, bb = nVal ⟨2, tu, gr, lo, ch, ton, me, si, wa, ar⟩ := ⟨_, rfl⟩
    rw [← hbb]
    go_enter Tryz.func95, Tryz.ntmps95
    go_wp2_with (go_at_call 66; refine (nwithin_any _ _ _ _).mono ?_; rintro e w' ⟨rfl, rfl⟩)
    all_goals go_ret
    refine ⟨?_, (Below.refl _ _).alloc (Nat.le_refl _) _⟩
    rw [hbb]
    refine congrArg (fun b => Ending.returned (Value.bool b)) ?_
    rw [Bool.eq_iff_iff]
    simp only [Bool.and_eq_true, beq_iff_eq]
    rw [nVal2]
    omega
  by_cases k3 : k = 3
  · subst k3
    obtain ⟨bb, hbb⟩ : ∃ bb, bb = nVal ⟨3, tu, gr, lo, ch, ton, me, si, wa, ar⟩ := ⟨_, rfl⟩
    rw [← hbb]
    go_enter Tryz.func95, Tryz.ntmps95
    go_wp2_with (go_at_call 66; refine (nwithin_any _ _ _ _).mono ?_; rintro e w' ⟨rfl, rfl⟩)
    all_goals go_ret
    refine ⟨?_, (Below.refl _ _).alloc (Nat.le_refl _) _⟩
    rw [hbb]
    refine congrArg (fun b => Ending.returned (Value.bool b)) ?_
    rw [Bool.eq_iff_iff]
    simp only [Bool.and_eq_true, beq_iff_eq]
    rw [nVal3]
    omega
  by_cases k4 : k = 4
  · subst k4
    obtain ⟨bb, hbb⟩ : ∃ bb, bb = nVal ⟨4, tu, gr, lo, ch, ton, me, si, wa, ar⟩ := ⟨_, rfl⟩
    rw [← hbb]
    go_enter Tryz.func95, Tryz.ntmps95
    go_wp2_with (go_at_call 66; refine (nwithin_any _ _ _ _).mono ?_; rintro e w' ⟨rfl, rfl⟩)
    all_goals go_ret
    refine ⟨?_, (Below.refl _ _).alloc (Nat.le_refl _) _⟩
    rw [hbb]
    refine congrArg (fun b => Ending.returned (Value.bool b)) ?_
    rw [Bool.eq_iff_iff]
    simp only [Bool.and_eq_true, beq_iff_eq]
    rw [nVal4]
    omega
  by_cases k5 : k = 5
  · subst k5
    cases r1 : (decide ((1 : Int) ≤ si) && decide (si ≤ (3 : Int)))
    case false =>
      have pr1 : ¬((1 : Int) ≤ si ∧ si ≤ 3) := by simpa using r1
      have e : nVal ⟨5, tu, gr, lo, ch, ton, me, si, wa, ar⟩ = false := by
        rw [← Bool.not_eq_true, nVal5]
        omega
      rw [e]; clear e
      go_enter Tryz.func95, Tryz.ntmps95
      go_wp2_with (go_at_call 66; refine (nwithin_any _ _ _ _).mono ?_; rintro e w' ⟨rfl, rfl⟩)
      all_goals go_ret
      all_goals exact ⟨rfl, (Below.refl _ _).alloc (Nat.le_refl _) _⟩
    have pr1 : (1 : Int) ≤ si ∧ si ≤ 3 := by simpa using r1
    obtain ⟨bb, hbb⟩ : ∃ bb, bb = nVal ⟨5, tu, gr, lo, ch, ton, me, si, wa, ar⟩ := ⟨_, rfl⟩
    rw [← hbb]
    go_enter Tryz.func95, Tryz.ntmps95
    go_wp2_with (go_at_call 66; refine (nwithin_any _ _ _ _).mono ?_; rintro e w' ⟨rfl, rfl⟩)
    all_goals go_ret
    refine ⟨?_, (Below.refl _ _).alloc (Nat.le_refl _) _⟩
    rw [hbb]
    refine congrArg (fun b => Ending.returned (Value.bool b)) ?_
    rw [Bool.eq_iff_iff]
    simp only [Bool.and_eq_true, beq_iff_eq]
    rw [nVal5]
    omega
  by_cases k6 : k = 6
  · subst k6
    cases r1 : (decide ((1 : Int) ≤ si) && decide (si ≤ (3 : Int)))
    case false =>
      have pr1 : ¬((1 : Int) ≤ si ∧ si ≤ 3) := by simpa using r1
      have e : nVal ⟨6, tu, gr, lo, ch, ton, me, si, wa, ar⟩ = false := by
        rw [← Bool.not_eq_true, nVal6]
        omega
      rw [e]; clear e
      go_enter Tryz.func95, Tryz.ntmps95
      go_wp2_with (go_at_call 66; refine (nwithin_any _ _ _ _).mono ?_; rintro e w' ⟨rfl, rfl⟩)
      all_goals go_ret
      all_goals exact ⟨rfl, (Below.refl _ _).alloc (Nat.le_refl _) _⟩
    have pr1 : (1 : Int) ≤ si ∧ si ≤ 3 := by simpa using r1
    obtain ⟨bb, hbb⟩ : ∃ bb, bb = nVal ⟨6, tu, gr, lo, ch, ton, me, si, wa, ar⟩ := ⟨_, rfl⟩
    rw [← hbb]
    go_enter Tryz.func95, Tryz.ntmps95
    go_wp2_with (go_at_call 66; refine (nwithin_any _ _ _ _).mono ?_; rintro e w' ⟨rfl, rfl⟩)
    all_goals go_ret
    refine ⟨?_, (Below.refl _ _).alloc (Nat.le_refl _) _⟩
    rw [hbb]
    refine congrArg (fun b => Ending.returned (Value.bool b)) ?_
    rw [Bool.eq_iff_iff]
    simp only [Bool.and_eq_true, beq_iff_eq]
    rw [nVal6]
    omega
  by_cases k7 : k = 7
  · subst k7
    cases r1 : (decide ((2 : Int) ≤ ar) && decide (ar ≤ (6 : Int)))
    case false =>
      have pr1 : ¬((2 : Int) ≤ ar ∧ ar ≤ 6) := by simpa using r1
      have e : nVal ⟨7, tu, gr, lo, ch, ton, me, si, wa, ar⟩ = false := by
        rw [← Bool.not_eq_true, nVal7]
        omega
      rw [e]; clear e
      go_enter Tryz.func95, Tryz.ntmps95
      go_wp2_with (go_at_call 66; refine (nwithin_any _ _ _ _).mono ?_; rintro e w' ⟨rfl, rfl⟩)
      all_goals go_ret
      all_goals exact ⟨rfl, (Below.refl _ _).alloc (Nat.le_refl _) _⟩
    have pr1 : (2 : Int) ≤ ar ∧ ar ≤ 6 := by simpa using r1
    cases r2 : (decide ((1 : Int) ≤ wa) && decide (wa ≤ (ar : Int)))
    case false =>
      have pr2 : ¬((1 : Int) ≤ wa ∧ wa ≤ ar) := by simpa using r2
      have e : nVal ⟨7, tu, gr, lo, ch, ton, me, si, wa, ar⟩ = false := by
        rw [← Bool.not_eq_true, nVal7]
        omega
      rw [e]; clear e
      go_enter Tryz.func95, Tryz.ntmps95
      go_wp2_with (go_at_call 66; refine (nwithin_any _ _ _ _).mono ?_; rintro e w' ⟨rfl, rfl⟩)
      all_goals go_ret
      all_goals exact ⟨rfl, (Below.refl _ _).alloc (Nat.le_refl _) _⟩
    have pr2 : (1 : Int) ≤ wa ∧ wa ≤ ar := by simpa using r2
    obtain ⟨bb, hbb⟩ : ∃ bb, bb = nVal ⟨7, tu, gr, lo, ch, ton, me, si, wa, ar⟩ := ⟨_, rfl⟩
    rw [← hbb]
    go_enter Tryz.func95, Tryz.ntmps95
    go_wp2_with (go_at_call 66; refine (nwithin_any _ _ _ _).mono ?_; rintro e w' ⟨rfl, rfl⟩)
    all_goals go_ret
    refine ⟨?_, (Below.refl _ _).alloc (Nat.le_refl _) _⟩
    rw [hbb]
    refine congrArg (fun b => Ending.returned (Value.bool b)) ?_
    rw [Bool.eq_iff_iff]
    simp only [Bool.and_eq_true, beq_iff_eq]
    rw [nVal7]
    omega
  have m1 : ¬k = 1 := by assumption
  have n1 : (k == 1) = false := by simpa using m1
  have m2 : ¬k = 2 := by assumption
  have n2 : (k == 2) = false := by simpa using m2
  have m3 : ¬k = 3 := by assumption
  have n3 : (k == 3) = false := by simpa using m3
  have m4 : ¬k = 4 := by assumption
  have n4 : (k == 4) = false := by simpa using m4
  have m5 : ¬k = 5 := by assumption
  have n5 : (k == 5) = false := by simpa using m5
  have m6 : ¬k = 6 := by assumption
  have n6 : (k == 6) = false := by simpa using m6
  have m7 : ¬k = 7 := by assumption
  have n7 : (k == 7) = false := by simpa using m7
  rw [nVal0 tu gr lo ch ton me si wa ar k m1 m2 m3 m4 m5 m6 m7]
  go_enter Tryz.func95, Tryz.ntmps95
  go_wp2_with (go_at_call 66; refine (nwithin_any _ _ _ _).mono ?_; rintro e w' ⟨rfl, rfl⟩)
  all_goals go_ret
  all_goals exact ⟨rfl, (Below.refl _ _).alloc (Nat.le_refl _) _⟩
end Go.Proofs.YtogkmnopggmdjaaGreatDoor
