/- Two pieces, the same apart from their lengths: the code's test and the document's. -/
import Derived.Test.YtomloklckpcaiaaCorn
namespace Go.Proofs.Ytomloklckpcaiaa
open Go.RowKit Go.Shelf Go.Sort Go.Proofs

def pV (p : Piece) : Value := .agg #[.int .i64 p.len, .int .i64 p.turn, .int .i64 p.rad, .int .i64 p.wid, .int .i64 p.sur]
/-- Equal apart from the lengths. -/
def alk (x y : Piece) : Bool := decide (x.turn = y.turn) && (decide (x.rad = y.rad) && (decide (x.wid = y.wid) && decide (x.sur = y.sur)))

set_option maxRecDepth 100000 in
theorem same_any (x y : Piece) (w : World) :
    Calls Try.prog 94 #[pV x, pV y] w fun e w' => e = .returned (.bool (alk x y)) ∧ Below w.heap.size w w' := by
  simp only [pV]
  go_enter Try.func94, Try.ntmps94
  go_wp2_with fail
  all_goals
    go_ret
    exact ⟨ret_bool (by simp [alk, *]), ((Below.refl _ _).alloc (Nat.le_refl _) _).alloc (by simp) _⟩

set_option maxRecDepth 100000 in
theorem alike_any (x y : Piece) (w : World) :
    Calls Try.prog 95 #[pV x, pV y] w fun e w' => e = .returned (.bool (alk x y)) ∧ Below w.heap.size w w' := by
  simp only [pV]
  go_enter Try.func95, Try.ntmps95
  by_cases h1 : x.turn = y.turn
  · by_cases h2 : x.rad = y.rad
    · by_cases h3 : x.wid = y.wid
      · go_wp2_with fail
        all_goals
          go_ret
          exact ⟨ret_bool (by rw [Bool.eq_iff_iff]; simp [alk, *]), ((Below.refl _ _).alloc (Nat.le_refl _) _).alloc (by simp) _⟩
      · go_wp2_with fail
        go_ret
        exact ⟨ret_bool (by simp [alk, *]), ((Below.refl _ _).alloc (Nat.le_refl _) _).alloc (by simp) _⟩
    · go_wp2_with fail
      go_ret
      exact ⟨ret_bool (by simp [alk, *]), ((Below.refl _ _).alloc (Nat.le_refl _) _).alloc (by simp) _⟩
  · go_wp2_with fail
    go_ret
    exact ⟨ret_bool (by simp [alk, *]), ((Below.refl _ _).alloc (Nat.le_refl _) _).alloc (by simp) _⟩
end Go.Proofs.Ytomloklckpcaiaa
