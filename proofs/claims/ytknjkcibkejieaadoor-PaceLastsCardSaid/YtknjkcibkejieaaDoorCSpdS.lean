/- On the safer road of two surveys no meter takes less time, if bends, small radii and bad surfaces never make a car faster. No program in sight. -/
import Derived.Test.YtknjkcibkejieaaDoorCSpd
namespace Go.Proofs.YtknjkcibkejieaaDoor
open Go.RowKit Go.Shelf Go.Sort Go.Proofs

theorem pOk_rad5 {p : Piece} (h : pOk p = true) (ht : p.turn ≠ 0) : 5 ≤ p.rad := by
  simp only [pOk, Bool.and_eq_true, if_neg ht, inR, decide_eq_true_eq] at h
  exact h.2.2.2.2.1
end Go.Proofs.YtknjkcibkejieaaDoor
