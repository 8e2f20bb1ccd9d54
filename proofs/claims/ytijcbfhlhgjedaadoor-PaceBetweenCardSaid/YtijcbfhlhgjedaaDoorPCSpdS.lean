/- On the safer road of two surveys no meter takes less time, if bends, small radii and bad surfaces never make a car faster. No program in sight. -/
import Derived.Test.YtijcbfhlhgjedaaDoorPCSpd
namespace Go.Proofs.YtijcbfhlhgjedaaDoor
open Go.RowKit Go.Shelf Go.Sort Go.Proofs

theorem pOk_rad5 {p : Piece} (h : pOk p = true) (ht : p.turn ≠ 0) : 5 ≤ p.rad := by
  simp only [pOk, Bool.and_eq_true, if_neg ht, inR, decide_eq_true_eq] at h
  exact h.2.2.2.2.1
end Go.Proofs.YtijcbfhlhgjedaaDoor

/- The document's times: plain numbers: the row by counting up, the meter at a place, few. No program in sight. -/
namespace Go.Proofs.YtijcbfhlhgjedaaDoor
open Go.RowKit Go.Shelf Go.Sort Go.Proofs

/-- The bounds after some rows have been looked at. -/
def rowL (S : Spd) (rs : List SpRow) (r : Int) : Int × Int := match rowF rs r with | some x => (x.least, x.most) | none => (S.least, S.most)
theorem rowL_snoc (S : Spd) (rs : List SpRow) (x : SpRow) (r : Int) : rowL S (rs ++ [x]) r = if x.rad ≤ r then (x.least, x.most) else rowL S rs r := by
  unfold rowL
  rw [rowF_snoc]
  by_cases h : x.rad ≤ r
  · rw [if_pos h, if_pos h]
  · rw [if_neg h, if_neg h]
theorem rowL_all (S : Spd) (p : Piece) (h : p.turn ≠ 0) : rowL S S.rows p.rad = rowS S p := by
  unfold rowL rowS
  rw [if_neg h]
  cases rowF S.rows p.rad <;> rfl
/-- The lengths that count. -/
def fLen (ps : List Piece) : Int := (ps.map fun p => if 0 < p.len ∧ p.len ≤ 5000 then p.len else 0).sum
theorem fLen_snoc (ps : List Piece) (p : Piece) : fLen (ps ++ [p]) = fLen ps + if 0 < p.len ∧ p.len ≤ 5000 then p.len else 0 := by simp [fLen]
theorem fLen_bd : ∀ ps : List Piece, 0 ≤ fLen ps ∧ fLen ps ≤ 5000 * (ps.length : Int)
  | [] => by simp [fLen]
  | p :: ps => by
    have ih := fLen_bd ps
    have e : fLen (p :: ps) = (if 0 < p.len ∧ p.len ≤ 5000 then p.len else 0) + fLen ps := by simp [fLen]
    rw [e, List.length_cons]
    split <;> omega
/-- A short road, without too much. -/
def fewB (R : Road) : Bool := decide (fLen R.ps ≤ 120) && (decide (R.ps.length ≤ 60) && (decide (R.cs.length ≤ 40) && decide (R.js.length ≤ 40)))
def quickB (S : Spd) : Bool := decide (S.rows.length ≤ 40) && decide (S.surf.length ≤ 20)
end Go.Proofs.YtijcbfhlhgjedaaDoor
