/- The way back, plainly: the corners of a reversed road. No program in sight. -/
import Derived.Test.YtknjkcibkejieaaDoorCBCorn
import Derived.Test.YtknjkcibkejieaaDoorCBFind
import Derived.Test.YtknjkcibkejieaaDoorCBReg
import Derived.Test.YtknjkcibkejieaaDoorCBPG
import Derived.Test.YtknjkcibkejieaaDoorCBSee
namespace Go.Proofs.YtknjkcibkejieaaDoor
open Go.RowKit Go.Proofs

def neg (p : Piece) : Piece := { p with turn := -p.turn }
end Go.Proofs.YtknjkcibkejieaaDoor

/- road.Reverse, walked. -/
namespace Go.Proofs.YtknjkcibkejieaaDoor
open Go.RowKit Go.Shelf Go.Sort Go.Proofs

section
variable {α β : Type} {f : α → List Value} {f' : β → List Value} {sz sz' : Nat} {e e' : TypeId} {base base' : Nat} {w w' : World} {A A' : Option Addr} {n c n' c' : Nat} {xs : List α} {ys : List β}
/-- Rows of different element types never share a block. -/
theorem OW.ty (h : OW f sz e base w A n c xs) {a : Addr} (ha : A = some a) : ∃ cur, w.heap[a.block]? = some (.cells cur e (0, 0)) := by
  subst ha
  rcases h.1.2 with ⟨h3, _⟩ | ⟨g', cap, cur, h3, _, hg', _⟩
  · cases h3
  · injection h3 with h3
    injection h3 with h3
    subst h3
    exact ⟨cur, hg'⟩
end

end Go.Proofs.YtknjkcibkejieaaDoor

/- Two roads joined, plainly; and a road that a call builds in a box: its three rows, and what becomes of them when one grows. -/
namespace Go.Proofs.YtknjkcibkejieaaDoor
open Go.RowKit Go.Shelf Go.Sort Go.Proofs

/-! ### A road in a box -/
/-- The box tb holds three rows of the call's own. -/
structure JB (tR tP tC tJ : TypeId) (base : Nat) (w : World) (tb : Nat) (A1 : Option Addr) (n1 c1 : Nat) (ps : List Piece) (A2 : Option Addr) (n2 c2 : Nat) (cs : List Crest) (A3 : Option Addr) (n3 c3 : Nat) (js : List Junc) : Prop where
  b : BK w tb tR #[.slice A1 n1 c1, .slice A2 n2 c2, .slice A3 n3 c3]
  p : OW pC 5 tP base w A1 n1 c1 ps
  c : OW cC 2 tC base w A2 n2 c2 cs
  j : OW jC 3 tJ base w A3 n3 c3 js
section
variable {tR tP tC tJ : TypeId} {base : Nat} {w w' : World} {tb : Nat} {A1 : Option Addr} {n1 c1 : Nat} {ps : List Piece} {A2 : Option Addr} {n2 c2 : Nat} {cs : List Crest} {A3 : Option Addr} {n3 c3 : Nat} {js : List Junc}
theorem JB.call (h : JB tR tP tC tJ base w tb A1 n1 c1 ps A2 n2 c2 cs A3 n3 c3 js) (hb : Below w.heap.size w w') : JB tR tP tC tJ base w' tb A1 n1 c1 ps A2 n2 c2 cs A3 n3 c3 js :=
  ⟨h.b.below hb h.b.lt, h.p.call hb, h.c.call hb, h.j.call hb⟩
theorem JB.alloc (h : JB tR tP tC tJ base w tb A1 n1 c1 ps A2 n2 c2 cs A3 n3 c3 js) (o : Obj) : JB tR tP tC tJ base (w.alloc o) tb A1 n1 c1 ps A2 n2 c2 cs A3 n3 c3 js :=
  ⟨h.b.alloc o, h.p.alloc o, h.c.alloc o, h.j.alloc o⟩
variable (h : JB tR tP tC tJ base w tb A1 n1 c1 ps A2 n2 c2 cs A3 n3 c3 js)
include h
end
end Go.Proofs.YtknjkcibkejieaaDoor

/- What the functions of package road answer for a road that is not as defined. -/
namespace Go.Proofs.YtknjkcibkejieaaDoor
open Go.RowKit Go.Shelf Go.Sort Go.Proofs

set_option maxRecDepth 100000 in
set_option maxHeartbeats 4000000 in
theorem Length_bad  (pa : Option Addr) (pn pc : Nat) (ca : Option Addr) (cn cc : Nat) (ja : Option Addr) (jn jc : Nat) (R : Road) (w : World) (h : RD w w.heap.size pa pn ca cn ja jn R) (hbad : ¬ OK R) :
    Calls Tryd.prog 32 #[.agg #[.slice pa pn pc, .slice ca cn cc, .slice ja jn jc]] w fun e w' => e = .returned (.tuple #[.int .i64 0, .int .i64 2]) ∧ Below w.heap.size w w' := by
  have hR := Lib.hid h
  have hc := Lib.hid (chk_bad hbad)
  clear h hbad
  obtain ⟨w0, hw0⟩ : ∃ w0, w0 = w.alloc (.cells #[.slice pa pn pc, .slice ca cn cc, .slice ja jn jc] 41) := ⟨_, rfl⟩
  have hB0 : Below w.heap.size w w0 := by rw [hw0]; exact (Below.refl w.heap.size w).alloc (Nat.le_refl _) _
  have hX0 : BK w0 (w.heap.size) 41 #[.slice pa pn pc, .slice ca cn cc, .slice ja jn jc] := by rw [hw0]; exact (BK.new w 41 #[.slice pa pn pc, .slice ca cn cc, .slice ja jn jc])
  go_enter Tryd.func32, Tryd.ntmps32
  go_wp2_with fail
  rw [← hw0]
  clear hw0
  refine (Check_any _ _ _ _ _ _ _ _ _ R _ (hR.out.grow hB0 hB0.size)).mono ?_
  rintro e w1 ⟨rfl, hk0⟩
  rw [hc.out]
  have hB1 := hB0.trans (hk0.mono hB0.size)
  go_wp2_with fail
  go_ret2
  exact ⟨rfl, hB1⟩
end Go.Proofs.YtknjkcibkejieaaDoor
