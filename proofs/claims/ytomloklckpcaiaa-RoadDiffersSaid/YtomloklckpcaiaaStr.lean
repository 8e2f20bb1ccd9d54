/- stretches: the range over the stretches of two surveys. -/
import Derived.Test.YtomloklckpcaiaaStrM
import Derived.Test.YtomloklckpcaiaaIter
namespace Go.Proofs.Ytomloklckpcaiaa
open Go.RowKit Go.Shelf Go.Proofs

/-- stretches(a, b): a function value that has captured the boxes of both. -/
theorem stretches_any (g g2 : Nat) (w : World) :
    Calls Try.prog 75 #[.pointer (some ⟨g, 0, none⟩), .pointer (some ⟨g2, 0, none⟩)] w fun e w' => e = .returned (.func (.func 96) #[] #[.pointer (some ⟨w.heap.size, 0, none⟩), .pointer (some ⟨w.heap.size + 1, 0, none⟩)]) ∧
      w' = (w.alloc (.cells #[.pointer (some ⟨g, 0, none⟩)] 90)).alloc (.cells #[.pointer (some ⟨g2, 0, none⟩)] 90) := by
  go_enter Try.func75, Try.ntmps75
  go_wp2
  go_ret
  exact ⟨rfl, rfl⟩

/-- A stretch in range. -/
abbrev BS := { x : Str // pOk x.p = true ∧ pOk x.q = true ∧ 0 ≤ x.fr ∧ x.fr ≤ x.til ∧ x.til ≤ 500000000 }
def bsV (x : BS) : Array Value := #[.agg #[.int .i64 x.1.fr, .int .i64 x.1.til, .int .i64 x.1.p.len, .int .i64 x.1.p.turn, .int .i64 x.1.p.rad, .int .i64 x.1.p.wid, .int .i64 x.1.p.sur, .int .i64 x.1.q.len, .int .i64 x.1.q.turn, .int .i64 x.1.q.rad, .int .i64 x.1.q.wid, .int .i64 x.1.q.sur]]
/-- What a round must keep for the iterator: what lay below n0, and the two boxes. -/
def KB2 (n0 b1 b2 : Nat) (W W' : World) : Prop := Below n0 W W' ∧ W'.heap[b1]? = W.heap[b1]? ∧ W'.heap[b2]? = W.heap[b2]?
theorem KB2.refl (n0 b1 b2 : Nat) (W : World) : KB2 n0 b1 b2 W W := ⟨Below.refl _ _, rfl, rfl⟩
theorem KB2.t {n0 b1 b2 : Nat} {A B C : World} (h : KB2 n0 b1 b2 A B) (k : KB2 n0 b1 b2 B C) : KB2 n0 b1 b2 A C := ⟨h.1.trans k.1, k.2.1.trans h.2.1, k.2.2.trans h.2.2⟩
theorem KB2.of_below {n0 b1 b2 B : Nat} {W W' : World} (h : Below B W W') (hn : n0 ≤ B) (h1 : b1 < B) (h2 : b2 < B) : KB2 n0 b1 b2 W W' := ⟨h.mono hn, h.block _ h1, h.block _ h2⟩
theorem KB2.setCell {n0 b1 b2 : Nat} {W W' : World} (h : KB2 n0 b1 b2 W W') {p : Addr} (h1 : n0 ≤ p.block) (h2 : p.block ≠ b1) (h3 : p.block ≠ b2) (u : Value) : KB2 n0 b1 b2 W (W'.setCell p u) :=
  ⟨h.1.setCell h1 u, (Below.heap_setCell _ _ _ _ (Ne.symm h2)).trans h.2.1, (Below.heap_setCell _ _ _ _ (Ne.symm h3)).trans h.2.2⟩
theorem KB2.b {n0 b1 b2 : Nat} {w : World} (hn : n0 ≤ w.heap.size) (h1 : b1 < w.heap.size) (h2 : b2 < w.heap.size) (W : World) (l : Nat) (o o' : Obj) (hl : w.heap.size ≤ l) (h : W.heap[l]? = some o) (hc : o.isCells = false) (hw : o.isWalk = false) : KB2 n0 b1 b2 W (W.putObj l o') :=
  ⟨belowK_b hn W l o o' hl h hc hw, World.putObj_heap_other (by omega), World.putObj_heap_other (by omega)⟩
end Go.Proofs.Ytomloklckpcaiaa
