/- The document's times: plain numbers: the row by counting up, the meter at a place, few. No program in sight. -/
import Derived.Test.YtijcbfhlhgjedaaDoorCSpd
namespace Go.Proofs.YtijcbfhlhgjedaaDoor
open Go.RowKit Go.Shelf Go.Sort Go.Proofs

/-- The bounds after some rows have been looked at. -/
def rowL (S : Spd) (rs : List SpRow) (r : Int) : Int × Int := match rowF rs r with | some x => (x.least, x.most) | none => (S.least, S.most)
theorem rowL_nil (S : Spd) (r : Int) : rowL S [] r = (S.least, S.most) := rfl
theorem rowL_snoc (S : Spd) (rs : List SpRow) (x : SpRow) (r : Int) : rowL S (rs ++ [x]) r = if x.rad ≤ r then (x.least, x.most) else rowL S rs r := by
  unfold rowL
  rw [rowF_snoc]
  by_cases h : x.rad ≤ r
  · rw [if_pos h, if_pos h]
  · rw [if_neg h, if_neg h]
theorem rowL_all (S : Spd) (p : Piece) (h : p.turn ≠ 0) : rowL S S.rows p.rad = rowS S p := by
  unfold rowL rowS
  rw [if_neg h]
  cases rowF S.rows p.rad <;> rfl
theorem rowL_bd {S : Spd} (h : SOK S) {rs : List SpRow} (hr : ∀ x ∈ rs, x ∈ S.rows) (r : Int) : 1 ≤ (rowL S rs r).1 ∧ (rowL S rs r).1 ≤ (rowL S rs r).2 ∧ (rowL S rs r).2 ≤ 700 := by
  have h0 := bdB_iff.1 h.b
  unfold rowL
  cases e : rowF rs r with
  | none => exact h0
  | some x =>
    obtain ⟨hm, -⟩ := rowF_mem e
    obtain ⟨i, hi, hx⟩ := List.getElem_of_mem (hr x hm)
    have := (h.rk i hi _ (List.getElem?_eq_getElem hi)).1
    rw [hx] at this
    exact bdB_iff.1 this
/-- The lengths that count. -/
def fLen (ps : List Piece) : Int := (ps.map fun p => if 0 < p.len ∧ p.len ≤ 5000 then p.len else 0).sum
theorem fLen_snoc (ps : List Piece) (p : Piece) : fLen (ps ++ [p]) = fLen ps + if 0 < p.len ∧ p.len ≤ 5000 then p.len else 0 := by simp [fLen]
theorem fLen_bd : ∀ ps : List Piece, 0 ≤ fLen ps ∧ fLen ps ≤ 5000 * (ps.length : Int)
  | [] => by simp [fLen]
  | p :: ps => by
    have ih := fLen_bd ps
    have e : fLen (p :: ps) = (if 0 < p.len ∧ p.len ≤ 5000 then p.len else 0) + fLen ps := by simp [fLen]
    rw [e, List.length_cons]
    split <;> omega
theorem fLen_ok {ps : List Piece} (h : ∀ p ∈ ps, pOk p = true) : fLen ps = sumL ps := by
  induction ps with
  | nil => rfl
  | cons p ps ih =>
    have h1 := pOk_len (h p (List.mem_cons_self ..))
    have e : fLen (p :: ps) = (if 0 < p.len ∧ p.len ≤ 5000 then p.len else 0) + fLen ps := by simp [fLen]
    rw [e, if_pos (by omega), ih (fun q hq => h q (List.mem_cons_of_mem _ hq)), sumL_cons]
/-- A short road, without too much. -/
def fewB (R : Road) : Bool := decide (fLen R.ps ≤ 120) && (decide (R.ps.length ≤ 60) && (decide (R.cs.length ≤ 40) && decide (R.js.length ≤ 40)))
theorem few_sum {R : Road} (h : fewB R = true) (hv : OK R) : sumL R.ps ≤ 120 := by
  simp only [fewB, Bool.and_eq_true, decide_eq_true_eq] at h
  rw [← fLen_ok hv.pk]
  exact h.1
def quickB (S : Spd) : Bool := decide (S.rows.length ≤ 40) && decide (S.surf.length ≤ 20)
/-- The unit piece at a place, by the pieces before it. -/
theorem unit_at {ps : List Piece} (h : ∀ q ∈ ps, pOk q = true) {x : Int} {i : Nat} {p : Piece} (h0 : 0 ≤ x) (hi : ps[i]? = some p) (h1 : sumL (ps.take i) ≤ x) (h2 : x < sumL (ps.take i) + p.len) : (units ps)[x.toNat]? = some (one p) := by
  have hl := (List.getElem?_eq_some_iff.1 hi)
  obtain ⟨hil, he⟩ := hl
  refine at_units (fun q hq => by have := pOk_len (h q hq); omega) h0 ⟨hil, h1, ?_⟩ hi
  rw [sumL_take _ _ hil, he]
  exact h2
theorem tQ_next {S : Spd} {ps : List Piece} {k : Nat} {p : Piece} (h : (units ps)[k]? = some (one p)) : tQ S ps (k + 1) = tQ S ps k + mQ S p ∧ tSl S ps (k + 1) = tSl S ps k + mSl S p :=
  ⟨by rw [tQ_succ S ps h, mQ_one], by rw [tSl_succ S ps h, mSl_one]⟩
end Go.Proofs.YtijcbfhlhgjedaaDoor
