/- Plain lists: stable insertion, stable merge, chunks sorted; exchanges. No program in sight. -/
import Derived.Test.YtknjkcibkejieaaDoorCBBackM
import Derived.RegionTactic
import Derived.BigRegion
import Derived.Test.YtknjkcibkejieaaDoorCBStr
import Derived.Test.YtknjkcibkejieaaDoorCBCorn
import Derived.Test.YtknjkcibkejieaaDoorCBSee
import Derived.Test.YtknjkcibkejieaaDoorCBFind
import Derived.Test.YtknjkcibkejieaaDoorCBReg
import Derived.Deep.RegionLaw
import Derived.Deep.Upon
import Derived.Shelf.RegionOpenPlain
import Derived.Lib.SliceRun
import Derived.Lib.AppendZeros
import Derived.Test.YtknjkcibkejieaaDoorCBPG
import Derived.Test.YtknjkcibkejieaaDoorCBGrouped
namespace Go.Proofs.YtknjkcibkejieaaDoor

section
variable {α : Type} (key : α → Int)
def insR : List α → α → List α
  | [], x => [x]
  | y :: S, x => if key x < key y then x :: y :: S else y :: insR S x
def ssort (l : List α) : List α := l.foldl (insR key) []
def Srt (l : List α) : Prop := l.Pairwise fun a b => key a ≤ key b
theorem insR_mem {S : List α} {x z : α} (h : z ∈ insR key S x) : z = x ∨ z ∈ S := by
  induction S with
  | nil => simp [insR] at h; exact .inl h
  | cons y S ih =>
    unfold insR at h
    split at h
    · rcases List.mem_cons.1 h with h | h
      · exact .inl h
      · exact .inr h
    · rcases List.mem_cons.1 h with h | h
      · exact .inr (by rw [h]; exact List.mem_cons_self ..)
      · rcases ih h with h | h
        · exact .inl h
        · exact .inr (List.mem_cons_of_mem _ h)
theorem Srt.insR {S : List α} (h : Srt key S) (x : α) : Srt key (insR key S x) := by
  induction S with
  | nil => exact List.pairwise_singleton _ _
  | cons y S ih =>
    obtain ⟨h1, h2⟩ := List.pairwise_cons.1 h
    unfold Go.Proofs.YtknjkcibkejieaaDoor.insR
    split
    · rename_i hlt
      refine List.pairwise_cons.2 ⟨fun z hz => ?_, h⟩
      rcases List.mem_cons.1 hz with rfl | hz
      · omega
      · have := h1 z hz; omega
    · rename_i hge
      refine List.pairwise_cons.2 ⟨fun z hz => ?_, ih h2⟩
      rcases insR_mem key hz with rfl | hz
      · omega
      · exact h1 z hz
/-- The first k chunks of s, sorted, and the rest as it was. -/
def bl (s : Nat) : Nat → List α → List α
  | 0, l => l
  | k + 1, l => ssort key (l.take s) ++ bl s k (l.drop s)
/-- All chunks of s, sorted. -/
def bs (s : Nat) (l : List α) : List α := bl key s l.length l
/-- The first k double chunks sorted, the rest in chunks of s. -/
def mx (s : Nat) : Nat → List α → List α
  | 0, l => bs key s l
  | k + 1, l => ssort key (l.take (2 * s)) ++ mx s k (l.drop (2 * s))
end
section
variable {α : Type}
end
end Go.Proofs.YtknjkcibkejieaaDoor

/- slices.swapRangeCmpFunc and rotateCmpFunc at crests and junctions; cmp.Compare and the comparisons of road.Safer. -/
namespace Go.Proofs.YtknjkcibkejieaaDoor
open Go.RowKit Go.Shelf Go.Sort Go.Proofs

section
variable {α : Type}
/-- The k-th round of an exchange of two stretches. -/
def st (P U M V Q : List α) (k : Nat) : List α := P ++ (V.take k ++ (U.drop k ++ (M ++ (U.take k ++ (V.drop k ++ Q)))))
end

end Go.Proofs.YtknjkcibkejieaaDoor

/- road.Compare: where two surveys differ, by stretches. -/
namespace Go.Proofs.YtknjkcibkejieaaDoor
open Go.RowKit Go.Shelf Go.Sort Go.Proofs

attribute [local go_sem] Oper.semAt_some

/-- A frame gets a name. -/
theorem wpIn_named {F : Fence} {n : Nat} {P : Program} {c : Code} {Q : Exit → Act → World → Prop} {a : Act} {w : World} (h : ∀ a0, a0 = a → c.wpIn F n P Q a0 w) : c.wpIn F n P Q a w := h a rfl
end Go.Proofs.YtknjkcibkejieaaDoor

/- road.Compare: the error. -/
namespace Go.Proofs.YtknjkcibkejieaaDoor
open Go.RowKit Go.Shelf Go.Sort Go.Proofs

end Go.Proofs.YtknjkcibkejieaaDoor

/- The document's safer pieces, place by place, are pieces as defined, each of length one. No program in sight. -/
namespace Go.Proofs.YtknjkcibkejieaaDoor
open Go.RowKit Go.Shelf Go.Sort Go.Proofs
theorem units_ok {ps : List Piece} (h : ∀ q ∈ ps, pOk q = true) : ∀ q ∈ units ps, pOk q = true := by
  intro q hq
  obtain ⟨p, hp, rfl⟩ := units_mem hq
  exact pOk_one (h p hp) rfl (by simp [one])
end Go.Proofs.YtknjkcibkejieaaDoor

/- The safer road of two surveys of the same length and its error: alike both ways round, the road in normal form for a road with itself. No program in sight. -/
namespace Go.Proofs.YtknjkcibkejieaaDoor
open Go.RowKit Go.Shelf Go.Sort Go.Proofs

end Go.Proofs.YtknjkcibkejieaaDoor

/- hairpinref01.Part, walked. -/
namespace Go.Proofs.YtknjkcibkejieaaDoor
open Go.RowKit Go.Shelf Go.Sort Go.Proofs

/-- A store elsewhere. -/
theorem JB.off {tR tP tC tJ : TypeId} {base : Nat} {w : World} {tb : Nat} {A1 : Option Addr} {n1 c1 : Nat} {ps : List Piece} {A2 : Option Addr} {n2 c2 : Nat} {cs : List Crest} {A3 : Option Addr} {n3 c3 : Nat} {js : List Junc}
    (h : JB tR tP tC tJ base w tb A1 n1 c1 ps A2 n2 c2 cs A3 n3 c3 js) {p : Addr} (hb : tb ≠ p.block) (h1 : ∀ a, A1 = some a → a.block ≠ p.block) (h2 : ∀ a, A2 = some a → a.block ≠ p.block) (h3 : ∀ a, A3 = some a → a.block ≠ p.block) (v : Value) :
    JB tR tP tC tJ base (w.setCell p v) tb A1 n1 c1 ps A2 n2 c2 cs A3 n3 c3 js :=
  ⟨h.b.far hb v, h.p.setCell h1 v, h.c.setCell h2 v, h.j.setCell h3 v⟩
end Go.Proofs.YtknjkcibkejieaaDoor

/- road.Part, walked. -/
namespace Go.Proofs.YtknjkcibkejieaaDoor
open Go.RowKit Go.Shelf Go.Sort Go.Proofs

attribute [local go_sem] Oper.semAt_some

/-- The record of deferred calls stays. -/
def DK (w : World) (D : Nat) : Prop := w.heap[D]? = some (.deferred (some []))
theorem DK.lt {w : World} {D : Nat} (h : DK w D) : D < w.heap.size := (Array.getElem?_eq_some_iff.1 h).1
theorem DK.alloc {w : World} {D : Nat} (h : DK w D) (o : Obj) : DK (w.alloc o) D := (Below.heap_alloc w o D h.lt).trans h
theorem DK.far {w : World} {D : Nat} (h : DK w D) {p : Addr} (hp : D ≠ p.block) (u : Value) : DK (w.setCell p u) D := (Below.heap_setCell w p u D hp).trans h
theorem DK.below {w w' : World} {D B : Nat} (h : DK w D) (hb : Below B w w') (hg : D < B) : DK w' D := (hb.block D hg).trans h
end Go.Proofs.YtknjkcibkejieaaDoor

/- road.Safer of two surveys of the same length. -/
namespace Go.Proofs.YtknjkcibkejieaaDoor
open Go.RowKit Go.Shelf Go.Sort Go.Proofs
attribute [local go_sem] Oper.semAt_some
end Go.Proofs.YtknjkcibkejieaaDoor

/- Safer of two valid surveys of the same length: the safer road sres and its error. -/
namespace Go.Proofs.YtknjkcibkejieaaDoor
open Go.RowKit Go.Shelf Go.Sort Go.Proofs

theorem RD.zero (w : World) : RD w w.heap.size none 0 none 0 none 0 ⟨[], [], []⟩ :=
  RD.mk ((OW.nil_ (f := pC) (sz := 5) (e := 64) (base := 0)).sl pC_len) ((OW.nil_ (f := cC) (sz := 2) (e := 128) (base := 0)).sl cC_len) ((OW.nil_ (f := jC) (sz := 3) (e := 130) (base := 0)).sl jC_len)
end Go.Proofs.YtknjkcibkejieaaDoor

/- The safer road of two surveys: as defined, of their length, at each place not wider, not better, not less bent; with the crests and junctions of both. No program in sight. -/
namespace Go.Proofs.YtknjkcibkejieaaDoor
open Go.RowKit Go.Shelf Go.Sort Go.Proofs

section
variable {α : Type} (key : α → Int) (both : α → α → α) (ok : α → α → Bool)
end
theorem units_nat {ps : List Piece} (h : ∀ q ∈ ps, pOk q = true) : (units ps).length = (sumL ps).toNat := by
  have := units_len (ps := ps) (fun q hq => by have := (pOk_len (h q hq)).1; omega)
  omega
end Go.Proofs.YtknjkcibkejieaaDoor
