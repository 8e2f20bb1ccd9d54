/- Plain lists: stable insertion, stable merge, chunks sorted; exchanges. No program in sight. -/
import Derived.Test.YtijcbfhlhgjedaaDoorPCBBackM
import Derived.Test.YtijcbfhlhgjedaaDoorPCBStr
import Derived.Test.YtijcbfhlhgjedaaDoorPCBCorn
import Derived.Test.YtijcbfhlhgjedaaDoorPCBIter
import Derived.Test.YtijcbfhlhgjedaaDoorPCBFind
import Derived.Test.YtijcbfhlhgjedaaDoorPCBReg
import Derived.RegionTactic
import Derived.BigRegion
import Derived.Deep.RegionLaw
import Derived.Deep.Upon
import Derived.Shelf.RegionOpenPlain
import Derived.Lib.SliceRun
import Derived.Test.YtijcbfhlhgjedaaDoorPCBRev
import Derived.Lib.AppendZeros
import Derived.Test.YtijcbfhlhgjedaaDoorPCBPG
import Derived.Test.YtijcbfhlhgjedaaDoorPCBGrouped
namespace Go.Proofs.YtijcbfhlhgjedaaDoor

section
variable {α : Type} (key : α → Int)
def insR : List α → α → List α
  | [], x => [x]
  | y :: S, x => if key x < key y then x :: y :: S else y :: insR S x
def ssort (l : List α) : List α := l.foldl (insR key) []
def Srt (l : List α) : Prop := l.Pairwise fun a b => key a ≤ key b
theorem insR_mem {S : List α} {x z : α} (h : z ∈ insR key S x) : z = x ∨ z ∈ S := by
  induction S with
  | nil => simp [insR] at h; exact .inl h
  | cons y S ih =>
    unfold insR at h
    split at h
    · rcases List.mem_cons.1 h with h | h
      · exact .inl h
      · exact .inr h
    · rcases List.mem_cons.1 h with h | h
      · exact .inr (by rw [h]; exact List.mem_cons_self ..)
      · rcases ih h with h | h
        · exact .inl h
        · exact .inr (List.mem_cons_of_mem _ h)
theorem Srt.insR {S : List α} (h : Srt key S) (x : α) : Srt key (insR key S x) := by
  induction S with
  | nil => exact List.pairwise_singleton _ _
  | cons y S ih =>
    obtain ⟨h1, h2⟩ := List.pairwise_cons.1 h
    unfold Go.Proofs.YtijcbfhlhgjedaaDoor.insR
    split
    · rename_i hlt
      refine List.pairwise_cons.2 ⟨fun z hz => ?_, h⟩
      rcases List.mem_cons.1 hz with rfl | hz
      · omega
      · have := h1 z hz; omega
    · rename_i hge
      refine List.pairwise_cons.2 ⟨fun z hz => ?_, ih h2⟩
      rcases insR_mem key hz with rfl | hz
      · omega
      · exact h1 z hz
/-- The first k chunks of s, sorted, and the rest as it was. -/
def bl (s : Nat) : Nat → List α → List α
  | 0, l => l
  | k + 1, l => ssort key (l.take s) ++ bl s k (l.drop s)
/-- All chunks of s, sorted. -/
def bs (s : Nat) (l : List α) : List α := bl key s l.length l
/-- The first k double chunks sorted, the rest in chunks of s. -/
def mx (s : Nat) : Nat → List α → List α
  | 0, l => bs key s l
  | k + 1, l => ssort key (l.take (2 * s)) ++ mx s k (l.drop (2 * s))
end
section
variable {α : Type}
end
end Go.Proofs.YtijcbfhlhgjedaaDoor

/- road.Compare: where two surveys differ, by stretches. -/
namespace Go.Proofs.YtijcbfhlhgjedaaDoor
open Go.RowKit Go.Shelf Go.Sort Go.Proofs

attribute [local go_sem] Oper.semAt_some

/-- A frame gets a name. -/
theorem wpIn_named {F : Fence} {n : Nat} {P : Program} {c : Code} {Q : Exit → Act → World → Prop} {a : Act} {w : World} (h : ∀ a0, a0 = a → c.wpIn F n P Q a0 w) : c.wpIn F n P Q a w := h a rfl
end Go.Proofs.YtijcbfhlhgjedaaDoor

/- road.Compare: the error. -/
namespace Go.Proofs.YtijcbfhlhgjedaaDoor
open Go.RowKit Go.Shelf Go.Sort Go.Proofs

end Go.Proofs.YtijcbfhlhgjedaaDoor

/- The document's safer pieces, place by place, are pieces as defined, each of length one. No program in sight. -/
namespace Go.Proofs.YtijcbfhlhgjedaaDoor
open Go.RowKit Go.Shelf Go.Sort Go.Proofs
theorem units_ok {ps : List Piece} (h : ∀ q ∈ ps, pOk q = true) : ∀ q ∈ units ps, pOk q = true := by
  intro q hq
  obtain ⟨p, hp, rfl⟩ := units_mem hq
  exact pOk_one (h p hp) rfl (by simp [one])
end Go.Proofs.YtijcbfhlhgjedaaDoor

/- The safer road of two surveys of the same length and its error: alike both ways round, the road in normal form for a road with itself. No program in sight. -/
namespace Go.Proofs.YtijcbfhlhgjedaaDoor
open Go.RowKit Go.Shelf Go.Sort Go.Proofs

end Go.Proofs.YtijcbfhlhgjedaaDoor

/- The safer road of two surveys: as defined, of their length, at each place not wider, not better, not less bent; with the crests and junctions of both. No program in sight. -/
namespace Go.Proofs.YtijcbfhlhgjedaaDoor
open Go.RowKit Go.Shelf Go.Sort Go.Proofs

section
variable {α : Type} (key : α → Int) (both : α → α → α) (ok : α → α → Bool)
end
theorem units_nat {ps : List Piece} (h : ∀ q ∈ ps, pOk q = true) : (units ps).length = (sumL ps).toNat := by
  have := units_len (ps := ps) (fun q hq => by have := (pOk_len (h q hq)).1; omega)
  omega
end Go.Proofs.YtijcbfhlhgjedaaDoor
