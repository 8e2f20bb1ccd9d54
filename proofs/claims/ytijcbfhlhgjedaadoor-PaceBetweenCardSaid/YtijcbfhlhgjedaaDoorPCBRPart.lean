/- hairpinref01.Part, walked. -/
import Derived.Test.YtijcbfhlhgjedaaDoorPCBBackM
import Derived.Test.YtijcbfhlhgjedaaDoorPCBRev
import Derived.Lib.AppendZeros
import Derived.Test.YtijcbfhlhgjedaaDoorPCBReg
import Derived.Test.YtijcbfhlhgjedaaDoorPCBSortM
import Derived.RegionTactic
import Derived.BigRegion
import Derived.Deep.RegionLaw
import Derived.Deep.Upon
import Derived.Shelf.RegionOpenPlain
import Derived.Lib.SliceRun
import Derived.Test.YtijcbfhlhgjedaaDoorPCBCorn
import Derived.Test.YtijcbfhlhgjedaaDoorPCBIter
import Derived.Test.YtijcbfhlhgjedaaDoorPCBFind
import Derived.Test.YtijcbfhlhgjedaaDoorPCBPG
import Derived.Test.YtijcbfhlhgjedaaDoorPCBGrouped
namespace Go.Proofs.YtijcbfhlhgjedaaDoor
open Go.RowKit Go.Shelf Go.Sort Go.Proofs

/-- A store elsewhere. -/
theorem JB.off {tR tP tC tJ : TypeId} {base : Nat} {w : World} {tb : Nat} {A1 : Option Addr} {n1 c1 : Nat} {ps : List Piece} {A2 : Option Addr} {n2 c2 : Nat} {cs : List Crest} {A3 : Option Addr} {n3 c3 : Nat} {js : List Junc}
    (h : JB tR tP tC tJ base w tb A1 n1 c1 ps A2 n2 c2 cs A3 n3 c3 js) {p : Addr} (hb : tb ≠ p.block) (h1 : ∀ a, A1 = some a → a.block ≠ p.block) (h2 : ∀ a, A2 = some a → a.block ≠ p.block) (h3 : ∀ a, A3 = some a → a.block ≠ p.block) (v : Value) :
    JB tR tP tC tJ base (w.setCell p v) tb A1 n1 c1 ps A2 n2 c2 cs A3 n3 c3 js :=
  ⟨h.b.far hb v, h.p.setCell h1 v, h.c.setCell h2 v, h.j.setCell h3 v⟩
end Go.Proofs.YtijcbfhlhgjedaaDoor

/- road.Part, walked. -/
namespace Go.Proofs.YtijcbfhlhgjedaaDoor
open Go.RowKit Go.Shelf Go.Sort Go.Proofs

attribute [local go_sem] Oper.semAt_some

/-- The record of deferred calls stays. -/
def DK (w : World) (D : Nat) : Prop := w.heap[D]? = some (.deferred (some []))
theorem DK.lt {w : World} {D : Nat} (h : DK w D) : D < w.heap.size := (Array.getElem?_eq_some_iff.1 h).1
theorem DK.alloc {w : World} {D : Nat} (h : DK w D) (o : Obj) : DK (w.alloc o) D := (Below.heap_alloc w o D h.lt).trans h
theorem DK.far {w : World} {D : Nat} (h : DK w D) {p : Addr} (hp : D ≠ p.block) (u : Value) : DK (w.setCell p u) D := (Below.heap_setCell w p u D hp).trans h
theorem DK.below {w w' : World} {D B : Nat} (h : DK w D) (hb : Below B w w') (hg : D < B) : DK w' D := (hb.block D hg).trans h
end Go.Proofs.YtijcbfhlhgjedaaDoor

/- road.Safer of two surveys of the same length. -/
namespace Go.Proofs.YtijcbfhlhgjedaaDoor
open Go.RowKit Go.Shelf Go.Sort Go.Proofs
attribute [local go_sem] Oper.semAt_some
end Go.Proofs.YtijcbfhlhgjedaaDoor

/- Safer of two valid surveys of the same length: the safer road sres and its error. -/
namespace Go.Proofs.YtijcbfhlhgjedaaDoor
open Go.RowKit Go.Shelf Go.Sort Go.Proofs

theorem RD.zero (w : World) : RD w w.heap.size none 0 none 0 none 0 ⟨[], [], []⟩ :=
  RD.mk ((OW.nil_ (f := pC) (sz := 5) (e := 105) (base := 0)).sl pC_len) ((OW.nil_ (f := cC) (sz := 2) (e := 134) (base := 0)).sl cC_len) ((OW.nil_ (f := jC) (sz := 3) (e := 136) (base := 0)).sl jC_len)
end Go.Proofs.YtijcbfhlhgjedaaDoor
