/- The way back, plainly: the corners of a reversed road. No program in sight. -/
import Derived.Test.YtijcbfhlhgjedaaDoorPCBGrouped
import Derived.Test.YtijcbfhlhgjedaaDoorPCBFind
import Derived.Test.YtijcbfhlhgjedaaDoorPCBReg
import Derived.Test.YtijcbfhlhgjedaaDoorPCBPG
import Derived.RegionTactic
import Derived.BigRegion
import Derived.Deep.RegionLaw
import Derived.Deep.Upon
import Derived.Shelf.RegionOpenPlain
import Derived.Lib.SliceRun
import Derived.Test.YtijcbfhlhgjedaaDoorPCBStr
import Derived.Lib.AppendZeros
namespace Go.Proofs.YtijcbfhlhgjedaaDoor
open Go.RowKit Go.Proofs

def neg (p : Piece) : Piece := { p with turn := -p.turn }
end Go.Proofs.YtijcbfhlhgjedaaDoor

/- road.Reverse, walked. -/
namespace Go.Proofs.YtijcbfhlhgjedaaDoor
open Go.RowKit Go.Shelf Go.Sort Go.Proofs

section
variable {α β : Type} {f : α → List Value} {f' : β → List Value} {sz sz' : Nat} {e e' : TypeId} {base base' : Nat} {w w' : World} {A A' : Option Addr} {n c n' c' : Nat} {xs : List α} {ys : List β}
/-- Rows of different element types never share a block. -/
theorem OW.ty (h : OW f sz e base w A n c xs) {a : Addr} (ha : A = some a) : ∃ cur, w.heap[a.block]? = some (.cells cur e (0, 0)) := by
  subst ha
  rcases h.1.2 with ⟨h3, _⟩ | ⟨g', cap, cur, h3, _, hg', _⟩
  · cases h3
  · injection h3 with h3
    injection h3 with h3
    subst h3
    exact ⟨cur, hg'⟩
end

end Go.Proofs.YtijcbfhlhgjedaaDoor

/- Two roads joined, plainly; and a road that a call builds in a box: its three rows, and what becomes of them when one grows. -/
namespace Go.Proofs.YtijcbfhlhgjedaaDoor
open Go.RowKit Go.Shelf Go.Sort Go.Proofs

/-! ### A road in a box -/
/-- The box tb holds three rows of the call's own. -/
structure JB (tR tP tC tJ : TypeId) (base : Nat) (w : World) (tb : Nat) (A1 : Option Addr) (n1 c1 : Nat) (ps : List Piece) (A2 : Option Addr) (n2 c2 : Nat) (cs : List Crest) (A3 : Option Addr) (n3 c3 : Nat) (js : List Junc) : Prop where
  b : BK w tb tR #[.slice A1 n1 c1, .slice A2 n2 c2, .slice A3 n3 c3]
  p : OW pC 5 tP base w A1 n1 c1 ps
  c : OW cC 2 tC base w A2 n2 c2 cs
  j : OW jC 3 tJ base w A3 n3 c3 js
section
variable {tR tP tC tJ : TypeId} {base : Nat} {w w' : World} {tb : Nat} {A1 : Option Addr} {n1 c1 : Nat} {ps : List Piece} {A2 : Option Addr} {n2 c2 : Nat} {cs : List Crest} {A3 : Option Addr} {n3 c3 : Nat} {js : List Junc}
theorem JB.call (h : JB tR tP tC tJ base w tb A1 n1 c1 ps A2 n2 c2 cs A3 n3 c3 js) (hb : Below w.heap.size w w') : JB tR tP tC tJ base w' tb A1 n1 c1 ps A2 n2 c2 cs A3 n3 c3 js :=
  ⟨h.b.below hb h.b.lt, h.p.call hb, h.c.call hb, h.j.call hb⟩
theorem JB.alloc (h : JB tR tP tC tJ base w tb A1 n1 c1 ps A2 n2 c2 cs A3 n3 c3 js) (o : Obj) : JB tR tP tC tJ base (w.alloc o) tb A1 n1 c1 ps A2 n2 c2 cs A3 n3 c3 js :=
  ⟨h.b.alloc o, h.p.alloc o, h.c.alloc o, h.j.alloc o⟩
variable (h : JB tR tP tC tJ base w tb A1 n1 c1 ps A2 n2 c2 cs A3 n3 c3 js)
include h
end
end Go.Proofs.YtijcbfhlhgjedaaDoor

/- Plain lists: stable insertion, stable merge, chunks sorted; exchanges. No program in sight. -/
namespace Go.Proofs.YtijcbfhlhgjedaaDoor

section
variable {α : Type} (key : α → Int)
def insR : List α → α → List α
  | [], x => [x]
  | y :: S, x => if key x < key y then x :: y :: S else y :: insR S x
def ssort (l : List α) : List α := l.foldl (insR key) []
def Srt (l : List α) : Prop := l.Pairwise fun a b => key a ≤ key b
theorem insR_mem {S : List α} {x z : α} (h : z ∈ insR key S x) : z = x ∨ z ∈ S := by
  induction S with
  | nil => simp [insR] at h; exact .inl h
  | cons y S ih =>
    unfold insR at h
    split at h
    · rcases List.mem_cons.1 h with h | h
      · exact .inl h
      · exact .inr h
    · rcases List.mem_cons.1 h with h | h
      · exact .inr (by rw [h]; exact List.mem_cons_self ..)
      · rcases ih h with h | h
        · exact .inl h
        · exact .inr (List.mem_cons_of_mem _ h)
theorem Srt.insR {S : List α} (h : Srt key S) (x : α) : Srt key (insR key S x) := by
  induction S with
  | nil => exact List.pairwise_singleton _ _
  | cons y S ih =>
    obtain ⟨h1, h2⟩ := List.pairwise_cons.1 h
    unfold Go.Proofs.YtijcbfhlhgjedaaDoor.insR
    split
    · rename_i hlt
      refine List.pairwise_cons.2 ⟨fun z hz => ?_, h⟩
      rcases List.mem_cons.1 hz with rfl | hz
      · omega
      · have := h1 z hz; omega
    · rename_i hge
      refine List.pairwise_cons.2 ⟨fun z hz => ?_, ih h2⟩
      rcases insR_mem key hz with rfl | hz
      · omega
      · exact h1 z hz
/-- The first k chunks of s, sorted, and the rest as it was. -/
def bl (s : Nat) : Nat → List α → List α
  | 0, l => l
  | k + 1, l => ssort key (l.take s) ++ bl s k (l.drop s)
/-- All chunks of s, sorted. -/
def bs (s : Nat) (l : List α) : List α := bl key s l.length l
/-- The first k double chunks sorted, the rest in chunks of s. -/
def mx (s : Nat) : Nat → List α → List α
  | 0, l => bs key s l
  | k + 1, l => ssort key (l.take (2 * s)) ++ mx s k (l.drop (2 * s))
end
section
variable {α : Type}
end
end Go.Proofs.YtijcbfhlhgjedaaDoor

/- slices.swapRangeCmpFunc and rotateCmpFunc at crests and junctions; cmp.Compare and the comparisons of road.Safer. -/
namespace Go.Proofs.YtijcbfhlhgjedaaDoor
open Go.RowKit Go.Shelf Go.Sort Go.Proofs

section
variable {α : Type}
end

end Go.Proofs.YtijcbfhlhgjedaaDoor

/- The closures of road.Safer that make one element of two, and what merging makes of a sorted list. -/
namespace Go.Proofs.YtijcbfhlhgjedaaDoor
open Go.RowKit Go.Shelf Go.Sort Go.Proofs

section
variable {α : Type} (key : α → Int) (both : α → α → α) (ok : α → α → Bool)
end
end Go.Proofs.YtijcbfhlhgjedaaDoor

/- road.Compare: where two surveys differ, by stretches. -/
namespace Go.Proofs.YtijcbfhlhgjedaaDoor
open Go.RowKit Go.Shelf Go.Sort Go.Proofs

attribute [local go_sem] Oper.semAt_some

/-- A frame gets a name. -/
theorem wpIn_named {F : Fence} {n : Nat} {P : Program} {c : Code} {Q : Exit → Act → World → Prop} {a : Act} {w : World} (h : ∀ a0, a0 = a → c.wpIn F n P Q a0 w) : c.wpIn F n P Q a w := h a rfl
end Go.Proofs.YtijcbfhlhgjedaaDoor

/- road.Compare: the error. -/
namespace Go.Proofs.YtijcbfhlhgjedaaDoor
open Go.RowKit Go.Shelf Go.Sort Go.Proofs

end Go.Proofs.YtijcbfhlhgjedaaDoor

/- The document's safer pieces, place by place, are pieces as defined, each of length one. No program in sight. -/
namespace Go.Proofs.YtijcbfhlhgjedaaDoor
open Go.RowKit Go.Shelf Go.Sort Go.Proofs
theorem units_ok {ps : List Piece} (h : ∀ q ∈ ps, pOk q = true) : ∀ q ∈ units ps, pOk q = true := by
  intro q hq
  obtain ⟨p, hp, rfl⟩ := units_mem hq
  exact pOk_one (h p hp) rfl (by simp [one])
end Go.Proofs.YtijcbfhlhgjedaaDoor

/- The safer road of two surveys of the same length and its error: alike both ways round, the road in normal form for a road with itself. No program in sight. -/
namespace Go.Proofs.YtijcbfhlhgjedaaDoor
open Go.RowKit Go.Shelf Go.Sort Go.Proofs

end Go.Proofs.YtijcbfhlhgjedaaDoor

/- hairpinref01.Part, walked. -/
namespace Go.Proofs.YtijcbfhlhgjedaaDoor
open Go.RowKit Go.Shelf Go.Sort Go.Proofs

/-- A store elsewhere. -/
theorem JB.off {tR tP tC tJ : TypeId} {base : Nat} {w : World} {tb : Nat} {A1 : Option Addr} {n1 c1 : Nat} {ps : List Piece} {A2 : Option Addr} {n2 c2 : Nat} {cs : List Crest} {A3 : Option Addr} {n3 c3 : Nat} {js : List Junc}
    (h : JB tR tP tC tJ base w tb A1 n1 c1 ps A2 n2 c2 cs A3 n3 c3 js) {p : Addr} (hb : tb ≠ p.block) (h1 : ∀ a, A1 = some a → a.block ≠ p.block) (h2 : ∀ a, A2 = some a → a.block ≠ p.block) (h3 : ∀ a, A3 = some a → a.block ≠ p.block) (v : Value) :
    JB tR tP tC tJ base (w.setCell p v) tb A1 n1 c1 ps A2 n2 c2 cs A3 n3 c3 js :=
  ⟨h.b.far hb v, h.p.setCell h1 v, h.c.setCell h2 v, h.j.setCell h3 v⟩
end Go.Proofs.YtijcbfhlhgjedaaDoor

/- road.Part, walked. -/
namespace Go.Proofs.YtijcbfhlhgjedaaDoor
open Go.RowKit Go.Shelf Go.Sort Go.Proofs

attribute [local go_sem] Oper.semAt_some

/-- The record of deferred calls stays. -/
def DK (w : World) (D : Nat) : Prop := w.heap[D]? = some (.deferred (some []))
theorem DK.lt {w : World} {D : Nat} (h : DK w D) : D < w.heap.size := (Array.getElem?_eq_some_iff.1 h).1
theorem DK.alloc {w : World} {D : Nat} (h : DK w D) (o : Obj) : DK (w.alloc o) D := (Below.heap_alloc w o D h.lt).trans h
theorem DK.far {w : World} {D : Nat} (h : DK w D) {p : Addr} (hp : D ≠ p.block) (u : Value) : DK (w.setCell p u) D := (Below.heap_setCell w p u D hp).trans h
theorem DK.below {w w' : World} {D B : Nat} (h : DK w D) (hb : Below B w w') (hg : D < B) : DK w' D := (hb.block D hg).trans h
end Go.Proofs.YtijcbfhlhgjedaaDoor

/- road.Safer of two surveys of the same length. -/
namespace Go.Proofs.YtijcbfhlhgjedaaDoor
open Go.RowKit Go.Shelf Go.Sort Go.Proofs
attribute [local go_sem] Oper.semAt_some
end Go.Proofs.YtijcbfhlhgjedaaDoor

/- Safer of two valid surveys of the same length: the safer road sres and its error. -/
namespace Go.Proofs.YtijcbfhlhgjedaaDoor
open Go.RowKit Go.Shelf Go.Sort Go.Proofs

theorem RD.zero (w : World) : RD w w.heap.size none 0 none 0 none 0 ⟨[], [], []⟩ :=
  RD.mk ((OW.nil_ (f := pC) (sz := 5) (e := 105) (base := 0)).sl pC_len) ((OW.nil_ (f := cC) (sz := 2) (e := 134) (base := 0)).sl cC_len) ((OW.nil_ (f := jC) (sz := 3) (e := 136) (base := 0)).sl jC_len)
end Go.Proofs.YtijcbfhlhgjedaaDoor

/- What the functions of package road answer for a road that is not as defined. -/
namespace Go.Proofs.YtijcbfhlhgjedaaDoor
open Go.RowKit Go.Shelf Go.Sort Go.Proofs

set_option maxRecDepth 100000 in
set_option maxHeartbeats 4000000 in
theorem Length_bad  (pa : Option Addr) (pn pc : Nat) (ca : Option Addr) (cn cc : Nat) (ja : Option Addr) (jn jc : Nat) (R : Road) (w : World) (h : RD w w.heap.size pa pn ca cn ja jn R) (hbad : ¬ OK R) :
    Calls Tryd.prog 81 #[.agg #[.slice pa pn pc, .slice ca cn cc, .slice ja jn jc]] w fun e w' => e = .returned (.tuple #[.int .i64 0, .int .i64 2]) ∧ Below w.heap.size w w' := by
  have hR := Lib.hid h
  have hc := Lib.hid (chk_bad hbad)
  clear h hbad
  obtain ⟨w0, hw0⟩ : ∃ w0, w0 = w.alloc (.cells #[.slice pa pn pc, .slice ca cn cc, .slice ja jn jc] 26) := ⟨_, rfl⟩
  have hB0 : Below w.heap.size w w0 := by rw [hw0]; exact (Below.refl w.heap.size w).alloc (Nat.le_refl _) _
  have hX0 : BK w0 (w.heap.size) 26 #[.slice pa pn pc, .slice ca cn cc, .slice ja jn jc] := by rw [hw0]; exact (BK.new w 26 #[.slice pa pn pc, .slice ca cn cc, .slice ja jn jc])
  go_enter Tryd.func81, Tryd.ntmps81
  go_wp2_with fail
  rw [← hw0]
  clear hw0
  refine (Check_any _ _ _ _ _ _ _ _ _ R _ (hR.out.grow hB0 hB0.size)).mono ?_
  rintro e w1 ⟨rfl, hk0⟩
  rw [hc.out]
  have hB1 := hB0.trans (hk0.mono hB0.size)
  go_wp2_with fail
  go_ret2
  exact ⟨rfl, hB1⟩
end Go.Proofs.YtijcbfhlhgjedaaDoor

/- The safer road of two surveys: as defined, of their length, at each place not wider, not better, not less bent; with the crests and junctions of both. No program in sight. -/
namespace Go.Proofs.YtijcbfhlhgjedaaDoor
open Go.RowKit Go.Shelf Go.Sort Go.Proofs

section
variable {α : Type} (key : α → Int) (both : α → α → α) (ok : α → α → Bool)
end
theorem units_nat {ps : List Piece} (h : ∀ q ∈ ps, pOk q = true) : (units ps).length = (sumL ps).toNat := by
  have := units_len (ps := ps) (fun q hq => by have := (pOk_len (h q hq)).1; omega)
  omega
end Go.Proofs.YtijcbfhlhgjedaaDoor
