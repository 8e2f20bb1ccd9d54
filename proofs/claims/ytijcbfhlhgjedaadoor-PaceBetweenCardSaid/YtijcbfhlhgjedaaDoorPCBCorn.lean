/- road.Corners: the bends, their groups, the corners. -/
import Derived.Test.YtijcbfhlhgjedaaDoorPCBGrouped
namespace Go.Proofs.YtijcbfhlhgjedaaDoor
open Go.RowKit Go.Shelf Go.Sort Go.Proofs

attribute [local go_sem] Oper.semAt_some

structure Corner where
  fr : Int
  til : Int
  turn : Int
  rad : Int
  inn : Int
  out : Int
  ang : Int
def kC (c : Corner) : List Value := [.int .i64 c.fr, .int .i64 c.til, .int .i64 c.turn, .int .i64 c.rad, .int .i64 c.inn, .int .i64 c.out, .int .i64 c.ang]
theorem App1.keeps {α : Type} {f : α → List Value} {sz : Nat} {e : TypeId} {base : Nat} {W w' : World} {A : Option Addr} {n c g c' : Nat} {xs : List α} {y : α} (hown : OW f sz e base W A n c xs) (h : App1 f sz e base W A n c xs y g c' w') (B : Nat) : KeepsFrom B W w' := by
  refine ⟨h.size, fun k o _ hk ho => (h.far k (Array.getElem?_eq_some_iff.1 hk).1 (fun b hb e => ?_)).trans hk⟩
  subst hb
  rcases hown.1.2 with ⟨h3, _⟩ | ⟨g', cap, cur, h3, _, hg', _⟩
  · cases h3
  · injection h3 with h3
    injection h3 with h3
    subst h3
    subst e
    rw [hg'] at hk
    cases hk
    cases ho
end Go.Proofs.YtijcbfhlhgjedaaDoor

/- Corners, plainly: the reference's groups are the groups of bends; the turning between a group's ends is its angle. No program in sight. -/
namespace Go.Proofs.YtijcbfhlhgjedaaDoor
open Go.RowKit Go.Proofs

theorem ends {g : List Bd} (h : g ≠ []) : ∃ x gt gi y, g = x :: gt ∧ g = gi ++ [y] := by
  cases g with
  | nil => exact absurd rfl h
  | cons x gt => exact ⟨x, gt, (x :: gt).dropLast, (x :: gt).getLast h, rfl, (List.dropLast_concat_getLast h).symm⟩
end Go.Proofs.YtijcbfhlhgjedaaDoor

/- road.Corners: what is refused. -/
namespace Go.Proofs.YtijcbfhlhgjedaaDoor
open Go.RowKit Go.Shelf Go.Sort Go.Proofs

end Go.Proofs.YtijcbfhlhgjedaaDoor

/- SameCorners: two lists of corners that are one list. -/
namespace Go.Proofs.YtijcbfhlhgjedaaDoor
open Go.RowKit Go.Shelf Go.Sort Go.Proofs

theorem KS.at_ {w : World} {B n : Nat} {A : Option Addr} {xs : List Corner} (h : SL kC 7 w B A n xs) {k : Nat} (hk : k < xs.length) : ∃ b off, A = some ⟨b, off, none⟩ ∧ b < B ∧
    w.cell? ⟨b, off + k * 7, none⟩ = some (.int .i64 xs[k].fr) ∧ w.cell? ⟨b, off + k * 7 + 1, none⟩ = some (.int .i64 xs[k].til) ∧ w.cell? ⟨b, off + k * 7 + 2, none⟩ = some (.int .i64 xs[k].turn) ∧
    w.cell? ⟨b, off + k * 7 + 3, none⟩ = some (.int .i64 xs[k].rad) ∧ w.cell? ⟨b, off + k * 7 + 4, none⟩ = some (.int .i64 xs[k].inn) ∧ w.cell? ⟨b, off + k * 7 + 5, none⟩ = some (.int .i64 xs[k].out) ∧ w.cell? ⟨b, off + k * 7 + 6, none⟩ = some (.int .i64 xs[k].ang) := by
  obtain ⟨b, off, e, hb, hc⟩ := h.at_ hk
  exact ⟨b, off, e, hb, hc 0 _ rfl, hc 1 _ rfl, hc 2 _ rfl, hc 3 _ rfl, hc 4 _ rfl, hc 5 _ rfl, hc 6 _ rfl⟩
end Go.Proofs.YtijcbfhlhgjedaaDoor

/- The reference's Corners, walked. -/
namespace Go.Proofs.YtijcbfhlhgjedaaDoor
open Go.RowKit Go.Shelf Go.Sort Go.Proofs

end Go.Proofs.YtijcbfhlhgjedaaDoor
