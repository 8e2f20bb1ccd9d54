/- Bends: their groups, plainly; the test whether two of them lie together. -/
import Derived.Test.YtomloklckpcaiaaSeeOut
namespace Go.Proofs.Ytomloklckpcaiaa
open Go.RowKit Go.Shelf Go.Sort Go.Proofs

/-- A bend, with its beginning: six cells. -/
abbrev Bd := Int × Piece
def bC (e : Bd) : List Value := pC e.2 ++ [.int .i64 e.1]
def bV (e : Bd) : Value := .agg #[.int .i64 e.2.len, .int .i64 e.2.turn, .int .i64 e.2.rad, .int .i64 e.2.wid, .int .i64 e.2.sur, .int .i64 e.1]
/-- y belongs to the group of x. -/
def tog (gap : Int) (x y : Bd) : Bool := decide (x.2.turn = y.2.turn) && decide (y.1 - x.1 - x.2.len ≤ gap)

set_option maxRecDepth 100000 in
theorem tog_any (x y : Bd) (gap : Int) (q : Nat) (w : World) (hq : w.cell? ⟨q, 0, none⟩ = some (.int .i64 gap)) (hx : 0 ≤ x.1 ∧ x.1 ≤ 1000000000) (hy : 0 ≤ y.1 ∧ y.1 ≤ 1000000000) (hl : 0 ≤ x.2.len ∧ x.2.len ≤ 5000) :
    Calls Try.prog 63 #[bV x, bV y, .pointer (some ⟨q, 0, none⟩)] w fun e w' => e = .returned (.bool (tog gap x y)) ∧ Below w.heap.size w w' := by
  have hql : q < w.heap.size := block_lt_of_cell hq
  obtain ⟨hx1, hx2⟩ := hx
  obtain ⟨hy1, hy2⟩ := hy
  obtain ⟨hl1, hl2⟩ := hl
  have hw1 : IntKind.i64.wrap (y.1 - x.1) = y.1 - x.1 := IntWalk.i64_in _ (by omega)
  have hw2 : IntKind.i64.wrap (y.1 - x.1 - x.2.len) = y.1 - x.1 - x.2.len := IntWalk.i64_in _ (by omega)
  simp only [bV]
  go_enter Try.func63, Try.ntmps63
  by_cases ht : x.2.turn = y.2.turn
  · have htog : Hid (decide (y.1 - x.1 - x.2.len ≤ gap) = tog gap x y) := by simp [Hid, tog, ht]
    go_wp2_with fail
    go_ret
    exact ⟨ret_bool htog.out, ((Below.refl _ _).alloc (Nat.le_refl _) _).alloc (by simp) _⟩
  · have htog : Hid (false = tog gap x y) := by simp [Hid, tog, ht]
    go_wp2_with fail
    go_ret
    exact ⟨ret_bool htog.out, ((Below.refl _ _).alloc (Nat.le_refl _) _).alloc (by simp) _⟩
end Go.Proofs.Ytomloklckpcaiaa
