/- The stretches of two surveys, plainly. -/
import Derived.Test.YtomloklckpcaiaaDifM
namespace Go.Proofs.Ytomloklckpcaiaa
open Go.RowKit Go.Shelf Go.Sort Go.Proofs

/-- A stretch: from, to, the pieces of both there. -/
structure Str where
  fr : Int
  til : Int
  p : Piece
  q : Piece
/-- The next piece, if this one ends here. -/
def nxI (ps : List Piece) (i : Nat) (t : Int) : Nat := if sumL (ps.take (i + 1)) = t then i + 1 else i
def strs (ps qs : List Piece) : Nat → Nat → Nat → Int → List Str
  | 0, _, _, _ => []
  | f + 1, i, j, fr => match ps[i]?, qs[j]? with
    | some p, some q => ⟨fr, min (sumL (ps.take (i + 1))) (sumL (qs.take (j + 1))), p, q⟩ :: strs ps qs f (nxI ps i (min (sumL (ps.take (i + 1))) (sumL (qs.take (j + 1))))) (nxI qs j (min (sumL (ps.take (i + 1))) (sumL (qs.take (j + 1))))) (min (sumL (ps.take (i + 1))) (sumL (qs.take (j + 1))))
    | _, _ => []
def strL (ps qs : List Piece) : List Str := strs ps qs (ps.length + qs.length) 0 0 0
/-- Where the two pieces lie, with regard to a place. -/
structure Lie (ps : List Piece) (i : Nat) (fr : Int) : Prop where
  le : i ≤ ps.length
  lo : sumL (ps.take i) ≤ fr
  hi : i < ps.length → fr < sumL (ps.take (i + 1))
  nn : 0 ≤ fr
  up : fr ≤ sumL ps
theorem sumL_nn {ps : List Piece} (h : ∀ q ∈ ps, 1 ≤ q.len) : 0 ≤ sumL ps := by
  rw [← units_len (fun q hq => by have := h q hq; omega)]; omega
theorem sumL_split (ps : List Piece) (k : Nat) : sumL ps = sumL (ps.take k) + sumL (ps.drop k) := by rw [← sumL_append, List.take_append_drop]
theorem sumL_take_le {ps : List Piece} (h : ∀ q ∈ ps, 1 ≤ q.len) (k : Nat) : sumL (ps.take k) ≤ sumL ps := by
  have h1 := sumL_split ps k
  have h2 := sumL_nn (ps := ps.drop k) (fun q hq => h q (List.mem_of_mem_drop hq))
  omega
theorem Lie.start {ps : List Piece} (h : ∀ q ∈ ps, 1 ≤ q.len) : Lie ps 0 0 := by
  refine ⟨Nat.zero_le _, by simp [sumL], fun hi => ?_, Int.le_refl 0, sumL_nn h⟩
  have h1 := sumL_take ps 0 hi
  have h2 := h _ (List.getElem_mem hi)
  simp [sumL] at h1 ⊢
  omega
theorem Lie.next {ps : List Piece} (h : ∀ q ∈ ps, 1 ≤ q.len) {i : Nat} {fr t : Int} (hl : Lie ps i fr) (hi : i < ps.length) (h1 : fr ≤ t) (h2 : t ≤ sumL (ps.take (i + 1))) : Lie ps (nxI ps i t) t := by
  have h5 := sumL_take_le h (i + 1)
  unfold nxI
  split
  · rename_i he
    refine ⟨hi, by omega, fun hi' => ?_, by have := hl.nn; omega, by omega⟩
    have h3 := sumL_take ps (i + 1) hi'
    have h4 := h _ (List.getElem_mem hi')
    omega
  · exact ⟨hl.le, by have := hl.lo; omega, fun _ => by omega, by have := hl.nn; omega, by omega⟩
theorem Lie.end_ {ps : List Piece} {i : Nat} {fr : Int} (hl : Lie ps i fr) (hi : ¬ i < ps.length) : fr = sumL ps := by
  have h1 := hl.lo
  rw [List.take_of_length_le (by omega)] at h1
  have := hl.up
  omega
theorem nxI_le (ps : List Piece) (i : Nat) (t : Int) : i ≤ nxI ps i t := by unfold nxI; split <;> omega
/-- If the sums are equal, both lists end together. -/
theorem Lie.both {ps qs : List Piece} {i j : Nat} {fr : Int} (h1 : Lie ps i fr) (h2 : Lie qs j fr) (he : sumL ps = sumL qs) (hp : ∀ q ∈ ps, 1 ≤ q.len) (hi : i < ps.length) : j < qs.length := by
  rcases Nat.lt_or_ge j qs.length with h | h
  · exact h
  · exfalso
    have h3 := h2.lo
    rw [List.take_of_length_le h, ← he] at h3
    have h4 := h1.hi hi
    have h5 := sumL_take_le hp (i + 1)
    omega
def stp (tol : Int) (l : List Dif) (s : Str) : List Dif := if near tol s.p s.q then l else addD l s.fr s.til
/-- By stretches it is the same as place by place. -/
theorem fold_strs (tol : Int) {ps qs : List Piece} (hp : ∀ q ∈ ps, 1 ≤ q.len) (hq : ∀ q ∈ qs, 1 ≤ q.len) (he : sumL ps = sumL qs) : ∀ (f i j : Nat) (fr : Int), Lie ps i fr → Lie qs j fr → (ps.length - i) + (qs.length - j) ≤ f →
    (strs ps qs f i j fr).foldl (stp tol) (cmpK tol (units ps) (units qs) fr.toNat) = cmpK tol (units ps) (units qs) (sumL ps).toNat
  | 0, i, j, fr, h1, _, hf => by
    rw [strs, List.foldl_nil, h1.end_ (by omega)]
  | f + 1, i, j, fr, h1, h2, hf => by
    by_cases hi : i < ps.length
    · have hj := h1.both h2 he hp hi
      have hpi : ps[i]? = some ps[i] := List.getElem?_eq_getElem hi
      have hqj : qs[j]? = some qs[j] := List.getElem?_eq_getElem hj
      rw [strs, hpi, hqj]
      obtain ⟨t, ht⟩ : ∃ t, t = min (sumL (ps.take (i + 1))) (sumL (qs.take (j + 1))) := ⟨_, rfl⟩
      simp only
      rw [← ht, List.foldl_cons]
      have t1 := h1.hi hi
      have t2 := h2.hi hj
      have hn := h1.nn
      have hlo1 := h1.lo
      have hlo2 := h2.lo
      obtain ⟨m, hm⟩ : ∃ m : Nat, t = fr + (m + 1 : Nat) := ⟨(t - fr - 1).toNat, by omega⟩
      have hrun := cmpK_run tol (units ps) (units qs) (x := one ps[i]) (y := one qs[j]) fr.toNat m (fun k hk => by
        have e : fr.toNat + k = (fr + k).toNat := by omega
        rw [e]
        exact ⟨at_units (fun q hq => by have := hp q hq; omega) (by omega) ⟨hi, by omega, by omega⟩ hpi, at_units (fun q hq' => by have := hq q hq'; omega) (by omega) ⟨hj, by omega, by omega⟩ hqj⟩)
      have hstp : stp tol (cmpK tol (units ps) (units qs) fr.toNat) ⟨fr, t, ps[i], qs[j]⟩ = cmpK tol (units ps) (units qs) t.toNat := by
        have e1 : t.toNat = fr.toNat + (m + 1) := by omega
        have e2 : ((fr.toNat : Nat) : Int) = fr := by omega
        rw [e1, hrun, e2, ← hm]
        rfl
      rw [hstp]
      refine fold_strs tol hp hq he f _ _ t (h1.next hp hi (by omega) (by omega)) (h2.next hq hj (by omega) (by omega)) ?_
      have a1 := nxI_le ps i t
      have a2 := nxI_le qs j t
      have a3 : nxI ps i t = i + 1 ∨ nxI qs j t = j + 1 := by
        unfold nxI
        rcases Int.le_total (sumL (ps.take (i + 1))) (sumL (qs.take (j + 1))) with h | h
        · exact .inl (if_pos (by omega))
        · exact .inr (if_pos (by omega))
      omega
    · have hn : ps[i]? = none := List.getElem?_eq_none (by omega)
      rw [strs, hn, h1.end_ hi]
      rfl
theorem fold_strL (tol : Int) {ps qs : List Piece} (hp : ∀ q ∈ ps, 1 ≤ q.len) (hq : ∀ q ∈ qs, 1 ≤ q.len) (he : sumL ps = sumL qs) : (strL ps qs).foldl (stp tol) [] = cmpK tol (units ps) (units qs) (sumL ps).toNat :=
  fold_strs tol hp hq he _ 0 0 0 (Lie.start hp) (Lie.start hq) (by omega)
end Go.Proofs.Ytomloklckpcaiaa
