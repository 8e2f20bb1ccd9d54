/- The reference's Corners, walked. -/
import Derived.Test.YtcniibngfnkobaaGreatDoorPCCorn
namespace Go.Proofs.YtcniibngfnkobaaGreatDoor
open Go.RowKit Go.Shelf Go.Sort Go.Proofs

theorem flat_setF {α : Type} {f : α → List Value} {sz : Nat} (hf : ∀ x, (f x).length = sz) : ∀ (xs : List α) (i j : Nat) (x y : α) (v : Value), xs[i]? = some x → j < sz → f y = (f x).set j v → (xs.set i y).flatMap f = (xs.flatMap f).set (i * sz + j) v
  | [], i, _, _, _, _, h, _, _ => by simp at h
  | a :: xs, 0, j, x, y, v, h, hj, hy => by
    simp at h; subst h
    rw [List.set_cons_zero, List.flatMap_cons, List.flatMap_cons, hy, Nat.zero_mul, Nat.zero_add, List.set_append_left _ _ (by rw [hf]; exact hj)]
  | a :: xs, i + 1, j, x, y, v, h, hj, hy => by
    have e : (i + 1) * sz + j = sz + (i * sz + j) := by rw [Nat.succ_mul]; omega
    rw [List.set_cons_succ, List.flatMap_cons, List.flatMap_cons, flat_setF hf xs i j x y v (by simpa using h) hj hy, e, List.set_append_right _ _ (by rw [hf]; omega), hf, Nat.add_sub_cancel_left]
/-- One cell of an element of an own row is written. -/
theorem OW.setF {α : Type} {f : α → List Value} {sz : Nat} {e : TypeId} {base : Nat} {w : World} {b n c : Nat} {xs : List α} (h : OW f sz e base w (some ⟨b, 0, none⟩) n c xs) (hf : ∀ x, (f x).length = sz) (i j : Nat) {x y : α} {v : Value}
    (hx : xs[i]? = some x) (hj : j < sz) (hy : f y = (f x).set j v) : OW f sz e base (w.setCell ⟨b, i * sz + j, none⟩ v) (some ⟨b, 0, none⟩) n c (xs.set i y) := by
  refine ⟨⟨by rw [flat_setF hf xs i j x y v hx hj hy]; simpa using h.1.1, ?_⟩, by simpa using h.2⟩
  rcases h.1.2 with ⟨h3, _⟩ | ⟨g, cap, cur, h3, hb, hg, hn, hc, hs, ht⟩
  · cases h3
  · injection h3 with h3 h4 h5
    injection h3 with h3
    injection h3 with h3
    subst h3 h5
    refine .inr ⟨b, c, cur.setIfInBounds (i * sz + j) v, rfl, hb, ?_, hn, hc, by simpa using hs, ?_⟩
    · simp [World.setCell, Array.getElem?_modify, hg]
    · rw [Array.toList_setIfInBounds, List.take_set, ht, flat_setF hf xs i j x y v hx hj hy]
end Go.Proofs.YtcniibngfnkobaaGreatDoor
