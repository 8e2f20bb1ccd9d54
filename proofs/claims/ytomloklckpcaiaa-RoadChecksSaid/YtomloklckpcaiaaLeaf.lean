/- The leaf functions of the road package and of its reference: ranges, rounding, the turning of a piece, pieces that are as defined. -/
import Derived.Test.YtomloklckpcaiaaProg
import Derived.Test.YtomloklckpcaiaaRoad
import Derived.WalkLawsBesides
import Derived.Deep.QuietTactic
import Derived.BigQuiet
import Derived.BigGuardPart
namespace Go.Proofs.Ytomloklckpcaiaa
open Go.RowKit Go.Proofs

theorem ret_bool {a b : Bool} (h : a = b) : Ending.returned (.bool a) = .returned (.bool b) := by rw [h]
theorem ret_int {a b : Int} (h : a = b) : Ending.returned (.int .i64 a) = .returned (.int .i64 b) := by rw [h]

theorem within_any (x lo hi : Int) (w : World) :
    Calls Try.prog 56 #[.int .i64 x, .int .i64 lo, .int .i64 hi] w fun e w' => e = .returned (.bool (inR x lo hi)) ∧ w = w' := by
  by_cases h : lo ≤ x
  · have e : inR x lo hi = decide (x ≤ hi) := by simp [inR, h]
    rw [e]; clear e
    go_enter Try.func56, Try.ntmps56
    go_wp2
    go_ret
    exact ⟨rfl, rfl⟩
  · have e : inR x lo hi = false := by simp [inR, h]
    rw [e]; clear e
    go_enter Try.func56, Try.ntmps56
    go_wp2
    go_ret
    exact ⟨rfl, rfl⟩

theorem in_any (x lo hi : Int) (w : World) :
    Calls Try.prog 53 #[.int .i64 x, .int .i64 lo, .int .i64 hi] w fun e w' => e = .returned (.bool (inR x lo hi)) ∧ w = w' := by
  by_cases h : lo ≤ x
  · have e : inR x lo hi = decide (x ≤ hi) := by simp [inR, h]
    rw [e]; clear e
    go_enter Try.func53, Try.ntmps53
    go_wp2
    go_ret
    exact ⟨rfl, rfl⟩
  · have e : inR x lo hi = false := by simp [inR, h]
    rw [e]; clear e
    go_enter Try.func53, Try.ntmps53
    go_wp2
    go_ret
    exact ⟨rfl, rfl⟩

theorem rounded_pos (a b : Int) (w : World) (h0 : 0 ≤ a) (h1 : a ≤ 1000000000) (h2 : 1 ≤ b) (h3 : b ≤ 1000000000) :
    Calls Try.prog 92 #[.int .i64 a, .int .i64 b] w fun e w' => e = .returned (.int .i64 ((2*a+b)/(2*b))) ∧ w = w' := by
  go_enter Try.func92, Try.ntmps92
  go_wp2
  go_ret
  exact ⟨rfl, rfl⟩
theorem rounded_any (a b : Int) (w : World) (h0 : -1000000000 ≤ a) (h1 : a ≤ 1000000000) (h2 : 1 ≤ b) (h3 : b ≤ 1000000000) :
    Calls Try.prog 92 #[.int .i64 a, .int .i64 b] w fun e w' => e = .returned (.int .i64 (rnd a b)) ∧ w = w' := by
  by_cases h : a < 0
  · have e : rnd a b = -((2 * (-a) + b) / (2 * b)) := by simp [rnd, h]
    have q0 : 0 ≤ (2 * (-a) + b) / (2 * b) := Int.ediv_nonneg (by omega) (by omega)
    have q1 : (2 * (-a) + b) / (2 * b) ≤ 3000000000 := Int.ediv_le_of_le_mul (by omega) (by omega)
    rw [e]; clear e
    go_enter Try.func92, Try.ntmps92
    go_wp2_with (go_at_call 92; refine (rounded_pos _ _ _ (by omega) (by omega) (by omega) (by omega)).mono ?_; rintro e w' ⟨rfl, rfl⟩)
    go_ret
    exact ⟨rfl, rfl⟩
  · have e : rnd a b = ((2 * a + b) / (2 * b)) := by simp [rnd, h]
    rw [e]
    exact rounded_pos a b w (by omega) h1 h2 h3

theorem Round_pos (a b : Int) (w : World) (h0 : 0 ≤ a) (h1 : a ≤ 1000000000) (h2 : 1 ≤ b) (h3 : b ≤ 1000000000) :
    Calls Try.prog 105 #[.int .i64 a, .int .i64 b] w fun e w' => e = .returned (.int .i64 ((2*a+b)/(2*b))) ∧ w = w' := by
  go_enter Try.func105, Try.ntmps105
  go_wp2
  go_ret
  exact ⟨rfl, rfl⟩
theorem Round_any (a b : Int) (w : World) (h0 : -1000000000 ≤ a) (h1 : a ≤ 1000000000) (h2 : 1 ≤ b) (h3 : b ≤ 1000000000) :
    Calls Try.prog 105 #[.int .i64 a, .int .i64 b] w fun e w' => e = .returned (.int .i64 (rnd a b)) ∧ w = w' := by
  by_cases h : a < 0
  · have e : rnd a b = -((2 * (-a) + b) / (2 * b)) := by simp [rnd, h]
    have q0 : 0 ≤ (2 * (-a) + b) / (2 * b) := Int.ediv_nonneg (by omega) (by omega)
    have q1 : (2 * (-a) + b) / (2 * b) ≤ 3000000000 := Int.ediv_le_of_le_mul (by omega) (by omega)
    rw [e]; clear e
    go_enter Try.func105, Try.ntmps105
    go_wp2_with (go_at_call 105; refine (Round_pos _ _ _ (by omega) (by omega) (by omega) (by omega)).mono ?_; rintro e w' ⟨rfl, rfl⟩)
    go_ret
    exact ⟨rfl, rfl⟩
  · have e : rnd a b = ((2 * a + b) / (2 * b)) := by simp [rnd, h]
    rw [e]
    exact Round_pos a b w (by omega) h1 h2 h3

set_option maxHeartbeats 400000 in
theorem turned_any (p : Piece) (m : Int) (w : World) (h0 : -10000 ≤ m) (h1 : m ≤ 10000) (ht : tOk p) :
    Calls Try.prog 64 #[.agg #[.int .i64 p.len, .int .i64 p.turn, .int .i64 p.rad, .int .i64 p.wid, .int .i64 p.sur], .int .i64 m] w fun e w' => e = .returned (.int .i64 (trn p m)) ∧ Below w.heap.size w w' := by
  obtain ⟨ht0, ht1, hr⟩ := ht
  have hbd := trn_bd p m h0 h1 ⟨ht0, ht1, hr⟩
  by_cases h : p.turn = 0
  · have e : trn p m = 0 := by simp [trn, h]
    rw [e]; clear e hr hbd
    go_enter Try.func64, Try.ntmps64
    go_wp2
    go_ret
    exact ⟨rfl, (Below.refl _ _).alloc (Nat.le_refl _) _⟩
  · obtain ⟨hr1, hr2⟩ := hr h
    have hne : (p.turn == 0) = false := by simpa using h
    have hq := rnd_bd (1000*m) p.rad (by omega) (by omega) (by omega) (by omega)
    have hq1 := hq.1
    have hq2 := hq.2
    have hb : trn p m = p.turn * rnd (1000*m) p.rad := by simp [trn, h]
    rw [hb] at hbd ⊢
    have hm1 := hbd.1
    have hm2 := hbd.2
    clear hq h hb hbd hr
    go_enter Try.func64, Try.ntmps64
    go_wp2
    go_quiet ((go_at_call 92; exact Calls.quiet_of_same ((rounded_any _ _ _ (by omega) (by omega) (by omega) (by omega)).mono fun _ _ ⟨a, b⟩ => ⟨a, b.symm⟩)))
    go_wp2
    go_ret
    exact ⟨rfl, below_drewN ((Below.refl _ _).alloc (Nat.le_refl _) _) _⟩

set_option maxHeartbeats 400000 in
theorem rturned_any (p : Piece) (m : Int) (w : World) (h0 : -10000 ≤ m) (h1 : m ≤ 10000) (ht : tOk p) :
    Calls Try.prog 90 #[.agg #[.int .i64 p.len, .int .i64 p.turn, .int .i64 p.rad, .int .i64 p.wid, .int .i64 p.sur], .int .i64 m] w fun e w' => e = .returned (.int .i64 (trn p m)) ∧ Below w.heap.size w w' := by
  obtain ⟨ht0, ht1, hr⟩ := ht
  have hbd := trn_bd p m h0 h1 ⟨ht0, ht1, hr⟩
  by_cases h : p.turn = 0
  · have e : trn p m = 0 := by simp [trn, h]
    rw [e]; clear e hr hbd
    go_enter Try.func90, Try.ntmps90
    go_wp2
    go_ret
    exact ⟨rfl, (Below.refl _ _).alloc (Nat.le_refl _) _⟩
  · obtain ⟨hr1, hr2⟩ := hr h
    have hne : (p.turn == 0) = false := by simpa using h
    have hq := rnd_bd (1000*m) p.rad (by omega) (by omega) (by omega) (by omega)
    have hq1 := hq.1
    have hq2 := hq.2
    have hb : trn p m = p.turn * rnd (1000*m) p.rad := by simp [trn, h]
    rw [hb] at hbd ⊢
    have hm1 := hbd.1
    have hm2 := hbd.2
    clear hq h hb hbd hr
    go_enter Try.func90, Try.ntmps90
    go_wp2
    go_quiet ((go_at_call 105; exact Calls.quiet_of_same ((Round_any _ _ _ (by omega) (by omega) (by omega) (by omega)).mono fun _ _ ⟨a, b⟩ => ⟨a, b.symm⟩)))
    go_wp2
    go_ret
    exact ⟨rfl, below_drewN ((Below.refl _ _).alloc (Nat.le_refl _) _) _⟩

set_option maxHeartbeats 400000 in
theorem piece_any (p : Piece) (w : World) :
    Calls Try.prog 87 #[.agg #[.int .i64 p.len, .int .i64 p.turn, .int .i64 p.rad, .int .i64 p.wid, .int .i64 p.sur]] w fun e w' => e = .returned (.bool (pOk p)) ∧ Below w.heap.size w w' := by
  go_enter Try.func87, Try.ntmps87
  go_wp2_with (go_at_call 56; refine (within_any _ _ _ _).mono ?_; rintro e w' ⟨rfl, rfl⟩)
  all_goals (go_ret; exact ⟨ret_bool (by simp_all [pOk]), (Below.refl _ _).alloc (Nat.le_refl _) _⟩)

set_option maxHeartbeats 400000 in
theorem Piece_any (p : Piece) (w : World) :
    Calls Try.prog 54 #[.agg #[.int .i64 p.len, .int .i64 p.turn, .int .i64 p.rad, .int .i64 p.wid, .int .i64 p.sur]] w fun e w' => e = .returned (.bool (pOk p)) ∧ Below w.heap.size w w' := by
  go_enter Try.func54, Try.ntmps54
  go_wp2_with (go_at_call 53; refine (in_any _ _ _ _).mono ?_; rintro e w' ⟨rfl, rfl⟩)
  all_goals (go_ret; exact ⟨ret_bool (by first | (simp_all [pOk]; done) | (simp_all [pOk]; rw [Bool.eq_iff_iff]; simp)), (Below.refl _ _).alloc (Nat.le_refl _) _⟩)
end Go.Proofs.Ytomloklckpcaiaa
