/- The leaf functions of the road package and of its reference: ranges, rounding, the turning of a piece, pieces that are as defined. -/
import Derived.Test.YtknjkcibkejieaaDoorProg
import Derived.Test.YtknjkcibkejieaaDoorCBRoad
import Derived.WalkLawsBesides
import Derived.Deep.QuietTactic
import Derived.BigQuiet
import Derived.BigGuardPart
namespace Go.Proofs.YtknjkcibkejieaaDoor
open Go.RowKit Go.Proofs

theorem ret_bool {a b : Bool} (h : a = b) : Ending.returned (.bool a) = .returned (.bool b) := by rw [h]
theorem ret_int {a b : Int} (h : a = b) : Ending.returned (.int .i64 a) = .returned (.int .i64 b) := by rw [h]
theorem within_any (x lo hi : Int) (w : World) :
    Calls Tryd.prog 65 #[.int .i64 x, .int .i64 lo, .int .i64 hi] w fun e w' => e = .returned (.bool (inR x lo hi)) ∧ w = w' := by
  by_cases h : lo ≤ x
  · have e : inR x lo hi = decide (x ≤ hi) := by simp [inR, h]
    rw [e]; clear e
    go_enter Tryd.func65, Tryd.ntmps65
    go_wp2
    go_ret
    exact ⟨rfl, rfl⟩
  · have e : inR x lo hi = false := by simp [inR, h]
    rw [e]; clear e
    go_enter Tryd.func65, Tryd.ntmps65
    go_wp2
    go_ret
    exact ⟨rfl, rfl⟩
set_option maxHeartbeats 400000 in
theorem piece_any (p : Piece) (w : World) :
    Calls Tryd.prog 66 #[.agg #[.int .i64 p.len, .int .i64 p.turn, .int .i64 p.rad, .int .i64 p.wid, .int .i64 p.sur]] w fun e w' => e = .returned (.bool (pOk p)) ∧ Below w.heap.size w w' := by
  go_enter Tryd.func66, Tryd.ntmps66
  go_wp2_with (go_at_call 65; refine (within_any _ _ _ _).mono ?_; rintro e w' ⟨rfl, rfl⟩)
  all_goals (go_ret; exact ⟨ret_bool (by simp_all [pOk]), (Below.refl _ _).alloc (Nat.le_refl _) _⟩)
end Go.Proofs.YtknjkcibkejieaaDoor
