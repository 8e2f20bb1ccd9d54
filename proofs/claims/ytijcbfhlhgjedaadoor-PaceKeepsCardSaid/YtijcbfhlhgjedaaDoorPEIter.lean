/- The range over a road's pieces: what the iterator of a measured road hands to a loop's body, for every body that keeps old memory. -/
import Derived.Test.YtijcbfhlhgjedaaDoorPCBBase
import Derived.Test.YtijcbfhlhgjedaaDoorPCBRoad
import Derived.Test.YtijcbfhlhgjedaaDoorPCBLeaf
import Derived.Test.YtijcbfhlhgjedaaDoorPCBCheck
import Derived.Test.YtijcbfhlhgjedaaDoorPCBValid
import Derived.Test.YtijcbfhlhgjedaaDoorPCBFind
import Derived.Test.YtijcbfhlhgjedaaDoorPCBReg
import Derived.Test.YtijcbfhlhgjedaaDoorPCBGrouped
import Derived.Test.YtijcbfhlhgjedaaDoorPCBPG
import Derived.Test.YtijcbfhlhgjedaaDoorPCBBackM
import Derived.Test.YtijcbfhlhgjedaaDoorPCBStr
import Derived.Test.YtijcbfhlhgjedaaDoorPCBOpen
import Derived.Test.YtijcbfhlhgjedaaDoorPCBReg7
import Derived.Test.YtijcbfhlhgjedaaDoorPCSpd
import Derived.Test.YtijcbfhlhgjedaaDoorPCPRow
import Derived.Test.YtijcbfhlhgjedaaDoorPCMtr
import Derived.Test.YtijcbfhlhgjedaaDoorPCReg8
import Derived.Test.YtijcbfhlhgjedaaDoorPCSpCk
import Derived.Test.YtijcbfhlhgjedaaDoorPCPlanM
import Derived.Test.YtijcbfhlhgjedaaDoorPCLast
import Derived.Test.YtijcbfhlhgjedaaDoorPCBeg
import Derived.Test.YtijcbfhlhgjedaaDoorPCBegB
import Derived.Test.YtijcbfhlhgjedaaDoorPCRoom
import Derived.Test.YtijcbfhlhgjedaaDoorPCCallsB
import Derived.Test.YtijcbfhlhgjedaaDoorPCPlan
import Derived.Test.YtijcbfhlhgjedaaDoorPCBetw
import Derived.Test.YtijcbfhlhgjedaaDoorPCKn03P
import Derived.Test.YtijcbfhlhgjedaaDoorPCRef3
import Derived.Test.YtijcbfhlhgjedaaDoorPCRCallsB
import Derived.RangeFuncNested
import Derived.RangeFuncBound
import Derived.RangeFuncCalls
import Derived.RangeFuncLeaves
import Derived.Shelf.Abstract
import Derived.Shelf.RegionOpen
import Derived.OwnWalkIn
import Derived.TacticsInMore
import Derived.LoopNIn
import Derived.LoopIn
import Derived.BigRegionIn
import Derived.Test.YtijcbfhlhgjedaaDoorProg
import Derived.WalkKit
import Derived.WalkSpells
import Derived.Deep.Draws
import Derived.Lib.Hide
import Derived.Maps.AppendAt
import Derived.WalkLawsBesides
import Derived.Deep.QuietTactic
import Derived.BigQuiet
import Derived.BigGuardPart
import Derived.Deep.RegionHeld3
import Derived.Test.YtijcbfhlhgjedaaDoorPEReg
import Derived.Deep.CutBlock
import Derived.Deep.AppendLies
import Derived.Deep.RegionLaw
import Derived.Maps.OwnIn
namespace Go.Proofs.YtijcbfhlhgjedaaDoor
open Go.RowKit Go.Shelf Go.Proofs

attribute [local go_sem] Oper.semAt_some

end Go.Proofs.YtijcbfhlhgjedaaDoor

/- The turning up to a place: the plain function, and the road package's loop over its iterator. -/
namespace Go.Proofs.YtijcbfhlhgjedaaDoor
open Go.RowKit Go.Shelf Go.Sort Go.Proofs

attribute [local go_sem] Oper.semAt_some

end Go.Proofs.YtijcbfhlhgjedaaDoor

/- How far one sees: what the answer is, and the reference's walk. -/
namespace Go.Proofs.YtijcbfhlhgjedaaDoor
open Go.RowKit Go.Shelf Go.Sort Go.Proofs

end Go.Proofs.YtijcbfhlhgjedaaDoor

/- The search for sight, piece by piece: that what the loop gathers is the sight. Plain; no program. -/
namespace Go.Proofs.YtijcbfhlhgjedaaDoor
open Go.RowKit Go.Proofs

section
variable (pl M an bg : Int)
end
section
variable {ps : List Piece} {pl M an : Int}
end
end Go.Proofs.YtijcbfhlhgjedaaDoor

/- road.Sight: the search piece by piece, over the iterator. -/
namespace Go.Proofs.YtijcbfhlhgjedaaDoor
open Go.RowKit Go.Shelf Go.Sort Go.Proofs

attribute [local go_sem] Oper.semAt_some

end Go.Proofs.YtijcbfhlhgjedaaDoor

/- road.Sight: what is refused. -/
namespace Go.Proofs.YtijcbfhlhgjedaaDoor
open Go.RowKit Go.Shelf Go.Sort Go.Proofs

end Go.Proofs.YtijcbfhlhgjedaaDoor

/- road.Corners: the bends, their groups, the corners. -/
namespace Go.Proofs.YtijcbfhlhgjedaaDoor
open Go.RowKit Go.Shelf Go.Sort Go.Proofs

attribute [local go_sem] Oper.semAt_some

end Go.Proofs.YtijcbfhlhgjedaaDoor

/- Corners, plainly: the reference's groups are the groups of bends; the turning between a group's ends is its angle. No program in sight. -/
namespace Go.Proofs.YtijcbfhlhgjedaaDoor
open Go.RowKit Go.Proofs

end Go.Proofs.YtijcbfhlhgjedaaDoor

/- road.Corners: what is refused. -/
namespace Go.Proofs.YtijcbfhlhgjedaaDoor
open Go.RowKit Go.Shelf Go.Sort Go.Proofs

end Go.Proofs.YtijcbfhlhgjedaaDoor

/- SameCorners: two lists of corners that are one list. -/
namespace Go.Proofs.YtijcbfhlhgjedaaDoor
open Go.RowKit Go.Shelf Go.Sort Go.Proofs

end Go.Proofs.YtijcbfhlhgjedaaDoor

/- The reference's Corners, walked. -/
namespace Go.Proofs.YtijcbfhlhgjedaaDoor
open Go.RowKit Go.Shelf Go.Sort Go.Proofs

theorem flat_setF {α : Type} {f : α → List Value} {sz : Nat} (hf : ∀ x, (f x).length = sz) : ∀ (xs : List α) (i j : Nat) (x y : α) (v : Value), xs[i]? = some x → j < sz → f y = (f x).set j v → (xs.set i y).flatMap f = (xs.flatMap f).set (i * sz + j) v
  | [], i, _, _, _, _, h, _, _ => by simp at h
  | a :: xs, 0, j, x, y, v, h, hj, hy => by
    simp at h; subst h
    rw [List.set_cons_zero, List.flatMap_cons, List.flatMap_cons, hy, Nat.zero_mul, Nat.zero_add, List.set_append_left _ _ (by rw [hf]; exact hj)]
  | a :: xs, i + 1, j, x, y, v, h, hj, hy => by
    have e : (i + 1) * sz + j = sz + (i * sz + j) := by rw [Nat.succ_mul]; omega
    rw [List.set_cons_succ, List.flatMap_cons, List.flatMap_cons, flat_setF hf xs i j x y v (by simpa using h) hj hy, e, List.set_append_right _ _ (by rw [hf]; omega), hf, Nat.add_sub_cancel_left]
/-- One cell of an element of an own row is written. -/
theorem OW.setF {α : Type} {f : α → List Value} {sz : Nat} {e : TypeId} {base : Nat} {w : World} {b n c : Nat} {xs : List α} (h : OW f sz e base w (some ⟨b, 0, none⟩) n c xs) (hf : ∀ x, (f x).length = sz) (i j : Nat) {x y : α} {v : Value}
    (hx : xs[i]? = some x) (hj : j < sz) (hy : f y = (f x).set j v) : OW f sz e base (w.setCell ⟨b, i * sz + j, none⟩ v) (some ⟨b, 0, none⟩) n c (xs.set i y) := by
  refine ⟨⟨by rw [flat_setF hf xs i j x y v hx hj hy]; simpa using h.1.1, ?_⟩, by simpa using h.2⟩
  rcases h.1.2 with ⟨h3, _⟩ | ⟨g, cap, cur, h3, hb, hg, hn, hc, hs, ht⟩
  · cases h3
  · injection h3 with h3 h4 h5
    injection h3 with h3
    injection h3 with h3
    subst h3 h5
    refine .inr ⟨b, c, cur.setIfInBounds (i * sz + j) v, rfl, hb, ?_, hn, hc, by simpa using hs, ?_⟩
    · simp [World.setCell, Array.getElem?_modify, hg]
    · rw [Array.toList_setIfInBounds, List.take_set, ht, flat_setF hf xs i j x y v hx hj hy]
end Go.Proofs.YtijcbfhlhgjedaaDoor
