/- Where two surveys differ, plainly: place by place, and by stretches. -/
import Derived.Test.YtknjkcibkejieaaDoorCBPG
import Derived.Test.YtknjkcibkejieaaDoorCBFind
import Derived.Test.YtknjkcibkejieaaDoorCBReg
import Derived.BigQuiet
import Derived.Sort.CutIn
namespace Go.Proofs.YtknjkcibkejieaaDoor
open Go.RowKit Go.Shelf Go.Sort Go.Proofs

end Go.Proofs.YtknjkcibkejieaaDoor

/- The stretches of two surveys, plainly. -/
namespace Go.Proofs.YtknjkcibkejieaaDoor
open Go.RowKit Go.Shelf Go.Sort Go.Proofs

/-- A stretch: from, to, the pieces of both there. -/
structure Str where
  fr : Int
  til : Int
  p : Piece
  q : Piece
/-- The next piece, if this one ends here. -/
def nxI (ps : List Piece) (i : Nat) (t : Int) : Nat := if sumL (ps.take (i + 1)) = t then i + 1 else i
def strs (ps qs : List Piece) : Nat → Nat → Nat → Int → List Str
  | 0, _, _, _ => []
  | f + 1, i, j, fr => match ps[i]?, qs[j]? with
    | some p, some q => ⟨fr, min (sumL (ps.take (i + 1))) (sumL (qs.take (j + 1))), p, q⟩ :: strs ps qs f (nxI ps i (min (sumL (ps.take (i + 1))) (sumL (qs.take (j + 1))))) (nxI qs j (min (sumL (ps.take (i + 1))) (sumL (qs.take (j + 1))))) (min (sumL (ps.take (i + 1))) (sumL (qs.take (j + 1))))
    | _, _ => []
def strL (ps qs : List Piece) : List Str := strs ps qs (ps.length + qs.length) 0 0 0
/-- Where the two pieces lie, with regard to a place. -/
structure Lie (ps : List Piece) (i : Nat) (fr : Int) : Prop where
  le : i ≤ ps.length
  lo : sumL (ps.take i) ≤ fr
  hi : i < ps.length → fr < sumL (ps.take (i + 1))
  nn : 0 ≤ fr
  up : fr ≤ sumL ps
theorem sumL_nn {ps : List Piece} (h : ∀ q ∈ ps, 1 ≤ q.len) : 0 ≤ sumL ps := by
  rw [← units_len (fun q hq => by have := h q hq; omega)]; omega
theorem sumL_split (ps : List Piece) (k : Nat) : sumL ps = sumL (ps.take k) + sumL (ps.drop k) := by rw [← sumL_append, List.take_append_drop]
theorem sumL_take_le {ps : List Piece} (h : ∀ q ∈ ps, 1 ≤ q.len) (k : Nat) : sumL (ps.take k) ≤ sumL ps := by
  have h1 := sumL_split ps k
  have h2 := sumL_nn (ps := ps.drop k) (fun q hq => h q (List.mem_of_mem_drop hq))
  omega
theorem Lie.start {ps : List Piece} (h : ∀ q ∈ ps, 1 ≤ q.len) : Lie ps 0 0 := by
  refine ⟨Nat.zero_le _, by simp [sumL], fun hi => ?_, Int.le_refl 0, sumL_nn h⟩
  have h1 := sumL_take ps 0 hi
  have h2 := h _ (List.getElem_mem hi)
  simp [sumL] at h1 ⊢
  omega
theorem Lie.next {ps : List Piece} (h : ∀ q ∈ ps, 1 ≤ q.len) {i : Nat} {fr t : Int} (hl : Lie ps i fr) (hi : i < ps.length) (h1 : fr ≤ t) (h2 : t ≤ sumL (ps.take (i + 1))) : Lie ps (nxI ps i t) t := by
  have h5 := sumL_take_le h (i + 1)
  unfold nxI
  split
  · rename_i he
    refine ⟨hi, by omega, fun hi' => ?_, by have := hl.nn; omega, by omega⟩
    have h3 := sumL_take ps (i + 1) hi'
    have h4 := h _ (List.getElem_mem hi')
    omega
  · exact ⟨hl.le, by have := hl.lo; omega, fun _ => by omega, by have := hl.nn; omega, by omega⟩
theorem nxI_le (ps : List Piece) (i : Nat) (t : Int) : i ≤ nxI ps i t := by unfold nxI; split <;> omega
/-- If the sums are equal, both lists end together. -/
theorem Lie.both {ps qs : List Piece} {i j : Nat} {fr : Int} (h1 : Lie ps i fr) (h2 : Lie qs j fr) (he : sumL ps = sumL qs) (hp : ∀ q ∈ ps, 1 ≤ q.len) (hi : i < ps.length) : j < qs.length := by
  rcases Nat.lt_or_ge j qs.length with h | h
  · exact h
  · exfalso
    have h3 := h2.lo
    rw [List.take_of_length_le h, ← he] at h3
    have h4 := h1.hi hi
    have h5 := sumL_take_le hp (i + 1)
    omega
end Go.Proofs.YtknjkcibkejieaaDoor

/- stretches: the range over the stretches of two surveys. -/
namespace Go.Proofs.YtknjkcibkejieaaDoor
open Go.RowKit Go.Shelf Go.Proofs

/-- What a round must keep for the iterator: what lay below n0, and the two boxes. -/
def KB2 (n0 b1 b2 : Nat) (W W' : World) : Prop := Below n0 W W' ∧ W'.heap[b1]? = W.heap[b1]? ∧ W'.heap[b2]? = W.heap[b2]?
theorem KB2.refl (n0 b1 b2 : Nat) (W : World) : KB2 n0 b1 b2 W W := ⟨Below.refl _ _, rfl, rfl⟩
theorem KB2.t {n0 b1 b2 : Nat} {A B C : World} (h : KB2 n0 b1 b2 A B) (k : KB2 n0 b1 b2 B C) : KB2 n0 b1 b2 A C := ⟨h.1.trans k.1, k.2.1.trans h.2.1, k.2.2.trans h.2.2⟩
theorem KB2.of_below {n0 b1 b2 B : Nat} {W W' : World} (h : Below B W W') (hn : n0 ≤ B) (h1 : b1 < B) (h2 : b2 < B) : KB2 n0 b1 b2 W W' := ⟨h.mono hn, h.block _ h1, h.block _ h2⟩
theorem KB2.setCell {n0 b1 b2 : Nat} {W W' : World} (h : KB2 n0 b1 b2 W W') {p : Addr} (h1 : n0 ≤ p.block) (h2 : p.block ≠ b1) (h3 : p.block ≠ b2) (u : Value) : KB2 n0 b1 b2 W (W'.setCell p u) :=
  ⟨h.1.setCell h1 u, (Below.heap_setCell _ _ _ _ (Ne.symm h2)).trans h.2.1, (Below.heap_setCell _ _ _ _ (Ne.symm h3)).trans h.2.2⟩
theorem KB2.b {n0 b1 b2 : Nat} {w : World} (hn : n0 ≤ w.heap.size) (h1 : b1 < w.heap.size) (h2 : b2 < w.heap.size) (W : World) (l : Nat) (o o' : Obj) (hl : w.heap.size ≤ l) (h : W.heap[l]? = some o) (hc : o.isCells = false) (hw : o.isWalk = false) : KB2 n0 b1 b2 W (W.putObj l o') :=
  ⟨belowK_b hn W l o o' hl h hc hw, World.putObj_heap_other (by omega), World.putObj_heap_other (by omega)⟩
end Go.Proofs.YtknjkcibkejieaaDoor

/- stretches: the range over the stretches of two surveys: what the iterator hands to a loop's body. -/
namespace Go.Proofs.YtknjkcibkejieaaDoor
open Go.RowKit Go.Shelf Go.Proofs

attribute [local go_sem] Oper.semAt_some

theorem strs_step {ps qs : List Piece} {f i j : Nat} {fr : Int} (hi : i < ps.length) (hj : j < qs.length) {t : Int} (ht : t = min (sumL (ps.take (i + 1))) (sumL (qs.take (j + 1)))) :
    strs ps qs (f + 1) i j fr = ⟨fr, t, ps[i], qs[j]⟩ :: strs ps qs f (nxI ps i t) (nxI qs j t) t := by
  have hpi : ps[i]? = some ps[i] := List.getElem?_eq_getElem hi
  have hqj : qs[j]? = some qs[j] := List.getElem?_eq_getElem hj
  rw [strs, hpi, hqj]
  simp only
  rw [← ht]
theorem strs_len : ∀ (ps qs : List Piece) (f i j : Nat) (fr : Int), (strs ps qs f i j fr).length ≤ f
  | _, _, 0, _, _, _ => Nat.le_refl _
  | ps, qs, f + 1, i, j, fr => by
    rw [strs]
    split
    · have := strs_len ps qs f (nxI ps i (min (sumL (ps.take (i + 1))) (sumL (qs.take (j + 1))))) (nxI qs j (min (sumL (ps.take (i + 1))) (sumL (qs.take (j + 1))))) (min (sumL (ps.take (i + 1))) (sumL (qs.take (j + 1))))
      simp only [List.length_cons]; omega
    · simp
theorem strL_len (ps qs : List Piece) : (strL ps qs).length ≤ ps.length + qs.length := strs_len _ _ _ _ _ _
/-- Where the iterator stands: pre has come. -/
structure At2 (ps qs : List Piece) (pre : List Str) (i j : Nat) (fr : Int) (f : Nat) : Prop where
  l1 : Lie ps i fr
  l2 : Lie qs j fr
  all : pre ++ strs ps qs f i j fr = strL ps qs
  fuel : (ps.length - i) + (qs.length - j) ≤ f
theorem At2.next {ps qs : List Piece} {pre : List Str} {i j f : Nat} {fr t : Int} (h : At2 ps qs pre i j fr f) (hp : ∀ q ∈ ps, 1 ≤ q.len) (hq : ∀ q ∈ qs, 1 ≤ q.len) (hi : i < ps.length) (hj : j < qs.length)
    (ht : t = min (sumL (ps.take (i + 1))) (sumL (qs.take (j + 1)))) :
    fr ≤ t ∧ t ≤ sumL ps ∧ 0 ≤ fr ∧ ∃ f', f = f' + 1 ∧ At2 ps qs (pre ++ [⟨fr, t, ps[i], qs[j]⟩]) (nxI ps i t) (nxI qs j t) t f' := by
  obtain ⟨h1, h2, h3, h4⟩ := h
  have t1 := h1.hi hi
  have t2 := h2.hi hj
  have t3 := sumL_take_le hp (i + 1)
  obtain ⟨f', rfl⟩ : ∃ f', f = f' + 1 := ⟨f - 1, by omega⟩
  have a1 := nxI_le ps i t
  have a2 := nxI_le qs j t
  have a3 : nxI ps i t = i + 1 ∨ nxI qs j t = j + 1 := by
    unfold nxI
    rcases Int.le_total (sumL (ps.take (i + 1))) (sumL (qs.take (j + 1))) with h | h
    · exact .inl (if_pos (by omega))
    · exact .inr (if_pos (by omega))
  refine ⟨by omega, by omega, h1.nn, f', rfl, h1.next hp hi (by omega) (by omega), h2.next hq hj (by omega) (by omega), ?_, by omega⟩
  rw [strs_step hi hj ht] at h3
  rw [← h3]
  simp
theorem At2.len {ps qs : List Piece} {pre : List Str} {i j f : Nat} {fr : Int} (h : At2 ps qs pre i j fr f) (hi : i < ps.length) (hj : j < qs.length) : pre.length < ps.length + qs.length := by
  have h1 := congrArg List.length h.all
  have h2 := strL_len ps qs
  obtain ⟨f', hf⟩ : ∃ f', f = f' + 1 := ⟨f - 1, by have := h.fuel; omega⟩
  rw [hf, strs_step hi hj rfl, List.length_append, List.length_cons] at h1
  omega
end Go.Proofs.YtknjkcibkejieaaDoor
