/- The stretches of two surveys, plainly. -/
import Derived.Test.YtafclpmnpamipaaGreatQCorn
import Derived.Test.YtafclpmnpamipaaGreatQFind
namespace Go.Proofs.YtafclpmnpamipaaGreat
open Go.RowKit Go.Shelf Go.Sort Go.Proofs

/-- A stretch: from, to, the pieces of both there. -/
structure Str where
  fr : Int
  til : Int
  p : Piece
  q : Piece
/-- The next piece, if this one ends here. -/
def nxI (ps : List Piece) (i : Nat) (t : Int) : Nat := if sumL (ps.take (i + 1)) = t then i + 1 else i
def strs (ps qs : List Piece) : Nat → Nat → Nat → Int → List Str
  | 0, _, _, _ => []
  | f + 1, i, j, fr => match ps[i]?, qs[j]? with
    | some p, some q => ⟨fr, min (sumL (ps.take (i + 1))) (sumL (qs.take (j + 1))), p, q⟩ :: strs ps qs f (nxI ps i (min (sumL (ps.take (i + 1))) (sumL (qs.take (j + 1))))) (nxI qs j (min (sumL (ps.take (i + 1))) (sumL (qs.take (j + 1))))) (min (sumL (ps.take (i + 1))) (sumL (qs.take (j + 1))))
    | _, _ => []
def strL (ps qs : List Piece) : List Str := strs ps qs (ps.length + qs.length) 0 0 0
/-- Where the two pieces lie, with regard to a place. -/
structure Lie (ps : List Piece) (i : Nat) (fr : Int) : Prop where
  le : i ≤ ps.length
  lo : sumL (ps.take i) ≤ fr
  hi : i < ps.length → fr < sumL (ps.take (i + 1))
  nn : 0 ≤ fr
  up : fr ≤ sumL ps
theorem sumL_nn {ps : List Piece} (h : ∀ q ∈ ps, 1 ≤ q.len) : 0 ≤ sumL ps := by
  rw [← units_len (fun q hq => by have := h q hq; omega)]; omega
theorem sumL_split (ps : List Piece) (k : Nat) : sumL ps = sumL (ps.take k) + sumL (ps.drop k) := by rw [← sumL_append, List.take_append_drop]
theorem sumL_take_le {ps : List Piece} (h : ∀ q ∈ ps, 1 ≤ q.len) (k : Nat) : sumL (ps.take k) ≤ sumL ps := by
  have h1 := sumL_split ps k
  have h2 := sumL_nn (ps := ps.drop k) (fun q hq => h q (List.mem_of_mem_drop hq))
  omega
theorem Lie.next {ps : List Piece} (h : ∀ q ∈ ps, 1 ≤ q.len) {i : Nat} {fr t : Int} (hl : Lie ps i fr) (hi : i < ps.length) (h1 : fr ≤ t) (h2 : t ≤ sumL (ps.take (i + 1))) : Lie ps (nxI ps i t) t := by
  have h5 := sumL_take_le h (i + 1)
  unfold nxI
  split
  · rename_i he
    refine ⟨hi, by omega, fun hi' => ?_, by have := hl.nn; omega, by omega⟩
    have h3 := sumL_take ps (i + 1) hi'
    have h4 := h _ (List.getElem_mem hi')
    omega
  · exact ⟨hl.le, by have := hl.lo; omega, fun _ => by omega, by have := hl.nn; omega, by omega⟩
theorem nxI_le (ps : List Piece) (i : Nat) (t : Int) : i ≤ nxI ps i t := by unfold nxI; split <;> omega
/-- If the sums are equal, both lists end together. -/
theorem Lie.both {ps qs : List Piece} {i j : Nat} {fr : Int} (h1 : Lie ps i fr) (h2 : Lie qs j fr) (he : sumL ps = sumL qs) (hp : ∀ q ∈ ps, 1 ≤ q.len) (hi : i < ps.length) : j < qs.length := by
  rcases Nat.lt_or_ge j qs.length with h | h
  · exact h
  · exfalso
    have h3 := h2.lo
    rw [List.take_of_length_le h, ← he] at h3
    have h4 := h1.hi hi
    have h5 := sumL_take_le hp (i + 1)
    omega
end Go.Proofs.YtafclpmnpamipaaGreat

/- stretches: the range over the stretches of two surveys. -/
namespace Go.Proofs.YtafclpmnpamipaaGreat
open Go.RowKit Go.Shelf Go.Proofs

/-- What a round must keep for the iterator: what lay below n0, and the two boxes. -/
def KB2 (n0 b1 b2 : Nat) (W W' : World) : Prop := Below n0 W W' ∧ W'.heap[b1]? = W.heap[b1]? ∧ W'.heap[b2]? = W.heap[b2]?
theorem KB2.refl (n0 b1 b2 : Nat) (W : World) : KB2 n0 b1 b2 W W := ⟨Below.refl _ _, rfl, rfl⟩
theorem KB2.t {n0 b1 b2 : Nat} {A B C : World} (h : KB2 n0 b1 b2 A B) (k : KB2 n0 b1 b2 B C) : KB2 n0 b1 b2 A C := ⟨h.1.trans k.1, k.2.1.trans h.2.1, k.2.2.trans h.2.2⟩
theorem KB2.of_below {n0 b1 b2 B : Nat} {W W' : World} (h : Below B W W') (hn : n0 ≤ B) (h1 : b1 < B) (h2 : b2 < B) : KB2 n0 b1 b2 W W' := ⟨h.mono hn, h.block _ h1, h.block _ h2⟩
theorem KB2.setCell {n0 b1 b2 : Nat} {W W' : World} (h : KB2 n0 b1 b2 W W') {p : Addr} (h1 : n0 ≤ p.block) (h2 : p.block ≠ b1) (h3 : p.block ≠ b2) (u : Value) : KB2 n0 b1 b2 W (W'.setCell p u) :=
  ⟨h.1.setCell h1 u, (Below.heap_setCell _ _ _ _ (Ne.symm h2)).trans h.2.1, (Below.heap_setCell _ _ _ _ (Ne.symm h3)).trans h.2.2⟩
theorem KB2.b {n0 b1 b2 : Nat} {w : World} (hn : n0 ≤ w.heap.size) (h1 : b1 < w.heap.size) (h2 : b2 < w.heap.size) (W : World) (l : Nat) (o o' : Obj) (hl : w.heap.size ≤ l) (h : W.heap[l]? = some o) (hc : o.isCells = false) (hw : o.isWalk = false) : KB2 n0 b1 b2 W (W.putObj l o') :=
  ⟨belowK_b hn W l o o' hl h hc hw, World.putObj_heap_other (by omega), World.putObj_heap_other (by omega)⟩
end Go.Proofs.YtafclpmnpamipaaGreat
