/- Where two surveys differ, plainly: place by place, and by stretches. -/
import Derived.Test.YtomloklckpcaiaaNormAt
namespace Go.Proofs.Ytomloklckpcaiaa
open Go.RowKit Go.Shelf Go.Sort Go.Proofs

structure Dif where
  fr : Int
  til : Int
def dC (d : Dif) : List Value := [.int .i64 d.fr, .int .i64 d.til]
theorem dC_len (d : Dif) : (dC d).length = 2 := rfl
/-- Two pieces are alike, up to the tolerance for radii. -/
def near (tol : Int) (x y : Piece) : Bool := decide (x.turn = y.turn) && (decide (x.rad - y.rad ≤ tol) && (decide (-(x.rad - y.rad) ≤ tol) && (decide (x.wid = y.wid) && decide (x.sur = y.sur))))
/-- Places from p to q differ, behind l. -/
def addD (l : List Dif) (p q : Int) : List Dif :=
  match l.getLast? with
  | some d => if d.til = p then l.dropLast ++ [⟨d.fr, q⟩] else l ++ [⟨p, q⟩]
  | none => l ++ [⟨p, q⟩]
theorem addD_nil (p q : Int) : addD [] p q = [⟨p, q⟩] := rfl
theorem addD_at (l : List Dif) (d : Dif) (p q : Int) : addD (l ++ [d]) p q = if d.til = p then l ++ [⟨d.fr, q⟩] else l ++ [d] ++ [⟨p, q⟩] := by simp [addD]
theorem addD_len (l : List Dif) (p q : Int) : (addD l p q).length ≤ l.length + 1 := by
  rcases nil_or_snoc l with rfl | ⟨ds, y, rfl⟩
  · rw [addD_nil]; simp
  · rw [addD_at]; split <;> simp
theorem addD_join (l : List Dif) (p q r : Int) : addD (addD l p q) q r = addD l p r := by
  rcases nil_or_snoc l with rfl | ⟨ds, y, rfl⟩
  · rw [addD_nil, addD_nil]
    show addD ([] ++ [_]) _ _ = _
    rw [addD_at, if_pos rfl]; rfl
  · rw [addD_at, addD_at]
    split
    · rw [addD_at, if_pos rfl]
    · rw [addD_at, if_pos rfl]
/-- Place by place, for the first k places. -/
def cmpK (tol : Int) (xs ys : List Piece) : Nat → List Dif
  | 0 => []
  | k + 1 => match xs[k]?, ys[k]? with
    | some x, some y => if near tol x y then cmpK tol xs ys k else addD (cmpK tol xs ys k) k (k + 1)
    | _, _ => cmpK tol xs ys k
theorem cmpK_succ (tol : Int) (xs ys : List Piece) (k : Nat) {x y : Piece} (hx : xs[k]? = some x) (hy : ys[k]? = some y) :
    cmpK tol xs ys (k + 1) = if near tol x y then cmpK tol xs ys k else addD (cmpK tol xs ys k) k (k + 1) := by
  rw [cmpK, hx, hy]
theorem cmpK_len (tol : Int) (xs ys : List Piece) : ∀ k, (cmpK tol xs ys k).length ≤ k
  | 0 => Nat.le_refl _
  | k + 1 => by
    have h := cmpK_len tol xs ys k
    rw [cmpK]
    split
    · split
      · omega
      · have := addD_len (cmpK tol xs ys k) k (k + 1); omega
    · omega
/-- A stretch without a new piece, all at once. -/
theorem cmpK_run (tol : Int) (xs ys : List Piece) {x y : Piece} (k : Nat) : ∀ m : Nat, (∀ i, i < m + 1 → xs[k + i]? = some x ∧ ys[k + i]? = some y) →
    cmpK tol xs ys (k + (m + 1)) = if near tol x y then cmpK tol xs ys k else addD (cmpK tol xs ys k) k ((k : Int) + (m + 1 : Nat))
  | 0, h => by
    obtain ⟨h1, h2⟩ := h 0 (by omega)
    exact cmpK_succ tol xs ys k h1 h2
  | m + 1, h => by
    obtain ⟨h1, h2⟩ := h (m + 1) (by omega)
    have ih := cmpK_run tol xs ys k m (fun i hi => h i (by omega))
    show cmpK tol xs ys ((k + (m + 1)) + 1) = _
    rw [cmpK_succ tol xs ys (k + (m + 1)) h1 h2, ih]
    split
    · rfl
    · have e : ((k + (m + 1) : Nat) : Int) = (k : Int) + (m + 1 : Nat) := by omega
      rw [e, addD_join]
      congr 1
/-- A road does not differ from itself. -/
theorem cmpK_own (xs : List Piece) {tol : Int} (h : 0 ≤ tol) : ∀ k, cmpK tol xs xs k = []
  | 0 => rfl
  | k + 1 => by
    rw [cmpK, cmpK_own xs h k]
    split
    · rename_i x y h1 h2
      rw [h1] at h2
      cases h2
      rw [if_pos (by simp [near, h])]
    · rfl
end Go.Proofs.Ytomloklckpcaiaa
