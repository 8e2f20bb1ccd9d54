/- How far one sees: what the answer is, and the reference's walk. -/
import Derived.Test.YtknjkcibkejieaaDoorCBFind
import Derived.Test.YtknjkcibkejieaaDoorCBCheck
import Derived.Test.YtknjkcibkejieaaDoorCBReg
import Derived.Deep.CutBlock
namespace Go.Proofs.YtknjkcibkejieaaDoor
open Go.RowKit Go.Shelf Go.Sort Go.Proofs

/-- The first crest behind the place (n + 1: there is none). -/
def nxt (n pl : Int) : List Crest → Int
  | [] => n + 1
  | c :: cs => if pl < c.pos then c.pos else nxt n pl cs
/-- The turning from pl to q is at most an. -/
def okq (ps : List Piece) (an pl q : Int) : Prop := -an ≤ upt ps q - upt ps pl ∧ upt ps q - upt ps pl ≤ an
/-- r meters are seen, where lim is the most that can be. -/
structure SI (ps : List Piece) (an pl lim r : Int) : Prop where
  r0 : 0 ≤ r
  r1 : r ≤ lim
  all : ∀ q, pl < q → q ≤ pl + r → okq ps an pl q
  stop : r = lim ∨ ¬ okq ps an pl (pl + r + 1)
theorem SI.uniq {ps : List Piece} {an pl lim r s : Int} (h : SI ps an pl lim r) (k : SI ps an pl lim s) : r = s := by
  rcases Int.lt_trichotomy r s with hlt | heq | hgt
  · rcases h.stop with h1 | h1
    · have := k.r1; omega
    · exact absurd (k.all (pl + r + 1) (by have := h.r0; omega) (by omega)) h1
  · exact heq
  · rcases k.stop with h1 | h1
    · have := h.r1; omega
    · exact absurd (h.all (pl + s + 1) (by have := k.r0; omega) (by omega)) h1
theorem SI.more {ps : List Piece} {an an' pl lim lim' r s : Int} (h : SI ps an pl lim r) (k : SI ps an' pl lim' s) (h1 : an ≤ an') (h2 : lim ≤ lim') : r ≤ s := by
  rcases Int.lt_or_le s r with hlt | hle
  · rcases k.stop with h3 | h3
    · have := h.r1; omega
    · have := h.all (pl + s + 1) (by have := k.r0; omega) (by omega)
      exact absurd ⟨by have := this.1; omega, by have := this.2; omega⟩ h3
  · exact hle
/-- The most that can be seen. -/
def lim (R : Road) (mo pl : Int) : Int := min (min mo (sumL R.ps - pl)) (nxt (sumL R.ps) pl R.cs - pl)
end Go.Proofs.YtknjkcibkejieaaDoor

/- The search for sight, piece by piece: that what the loop gathers is the sight. Plain; no program. -/
namespace Go.Proofs.YtknjkcibkejieaaDoor
open Go.RowKit Go.Proofs

section
variable (pl M an bg : Int)
end
section
variable {ps : List Piece} {pl M an : Int}
end
end Go.Proofs.YtknjkcibkejieaaDoor

/- road.Sight: the search piece by piece, over the iterator. -/
namespace Go.Proofs.YtknjkcibkejieaaDoor
open Go.RowKit Go.Shelf Go.Sort Go.Proofs

attribute [local go_sem] Oper.semAt_some

end Go.Proofs.YtknjkcibkejieaaDoor

/- road.Sight: what is refused. -/
namespace Go.Proofs.YtknjkcibkejieaaDoor
open Go.RowKit Go.Shelf Go.Sort Go.Proofs

end Go.Proofs.YtknjkcibkejieaaDoor
