/- road.Corners: the bends, their groups, the corners. -/
import Derived.Test.YtknjkcibkejieaaDoorCBGrouped
import Derived.RegionTactic
import Derived.BigRegion
namespace Go.Proofs.YtknjkcibkejieaaDoor
open Go.RowKit Go.Shelf Go.Sort Go.Proofs

attribute [local go_sem] Oper.semAt_some

structure Corner where
  fr : Int
  til : Int
  turn : Int
  rad : Int
  inn : Int
  out : Int
  ang : Int
def kC (c : Corner) : List Value := [.int .i64 c.fr, .int .i64 c.til, .int .i64 c.turn, .int .i64 c.rad, .int .i64 c.inn, .int .i64 c.out, .int .i64 c.ang]
theorem App1.keeps {α : Type} {f : α → List Value} {sz : Nat} {e : TypeId} {base : Nat} {W w' : World} {A : Option Addr} {n c g c' : Nat} {xs : List α} {y : α} (hown : OW f sz e base W A n c xs) (h : App1 f sz e base W A n c xs y g c' w') (B : Nat) : KeepsFrom B W w' := by
  refine ⟨h.size, fun k o _ hk ho => (h.far k (Array.getElem?_eq_some_iff.1 hk).1 (fun b hb e => ?_)).trans hk⟩
  subst hb
  rcases hown.1.2 with ⟨h3, _⟩ | ⟨g', cap, cur, h3, _, hg', _⟩
  · cases h3
  · injection h3 with h3
    injection h3 with h3
    subst h3
    subst e
    rw [hg'] at hk
    cases hk
    cases ho
end Go.Proofs.YtknjkcibkejieaaDoor

/- Corners, plainly: the reference's groups are the groups of bends; the turning between a group's ends is its angle. No program in sight. -/
namespace Go.Proofs.YtknjkcibkejieaaDoor
open Go.RowKit Go.Proofs

theorem ends {g : List Bd} (h : g ≠ []) : ∃ x gt gi y, g = x :: gt ∧ g = gi ++ [y] := by
  cases g with
  | nil => exact absurd rfl h
  | cons x gt => exact ⟨x, gt, (x :: gt).dropLast, (x :: gt).getLast h, rfl, (List.dropLast_concat_getLast h).symm⟩
end Go.Proofs.YtknjkcibkejieaaDoor

/- road.Corners: what is refused. -/
namespace Go.Proofs.YtknjkcibkejieaaDoor
open Go.RowKit Go.Shelf Go.Sort Go.Proofs

end Go.Proofs.YtknjkcibkejieaaDoor

/- SameCorners: two lists of corners that are one list. -/
namespace Go.Proofs.YtknjkcibkejieaaDoor
open Go.RowKit Go.Shelf Go.Sort Go.Proofs

theorem KS.at_ {w : World} {B n : Nat} {A : Option Addr} {xs : List Corner} (h : SL kC 7 w B A n xs) {k : Nat} (hk : k < xs.length) : ∃ b off, A = some ⟨b, off, none⟩ ∧ b < B ∧
    w.cell? ⟨b, off + k * 7, none⟩ = some (.int .i64 xs[k].fr) ∧ w.cell? ⟨b, off + k * 7 + 1, none⟩ = some (.int .i64 xs[k].til) ∧ w.cell? ⟨b, off + k * 7 + 2, none⟩ = some (.int .i64 xs[k].turn) ∧
    w.cell? ⟨b, off + k * 7 + 3, none⟩ = some (.int .i64 xs[k].rad) ∧ w.cell? ⟨b, off + k * 7 + 4, none⟩ = some (.int .i64 xs[k].inn) ∧ w.cell? ⟨b, off + k * 7 + 5, none⟩ = some (.int .i64 xs[k].out) ∧ w.cell? ⟨b, off + k * 7 + 6, none⟩ = some (.int .i64 xs[k].ang) := by
  obtain ⟨b, off, e, hb, hc⟩ := h.at_ hk
  exact ⟨b, off, e, hb, hc 0 _ rfl, hc 1 _ rfl, hc 2 _ rfl, hc 3 _ rfl, hc 4 _ rfl, hc 5 _ rfl, hc 6 _ rfl⟩
end Go.Proofs.YtknjkcibkejieaaDoor

/- The reference's Corners, walked. -/
namespace Go.Proofs.YtknjkcibkejieaaDoor
open Go.RowKit Go.Shelf Go.Sort Go.Proofs

end Go.Proofs.YtknjkcibkejieaaDoor

/- append of a whole slice onto a row of the call's own. Plain theorems over any program. -/
namespace Go.Proofs.YtknjkcibkejieaaDoor
open Go.RowKit Go.Proofs

section
variable {α : Type} {P : Program} {f : α → List Value} {sz : Nat} {e : TypeId} {base : Nat} {W : World} {A A2 : Option Addr} {n c m c2 B : Nat} {xs ys : List α}
theorem flat_of (hf : ∀ x, (f x).length = sz) (hsz : 0 < sz) : ∀ (ys : List α) (j : Nat) (u : Value), (ys.flatMap f)[j]? = some u → ∃ y, ys[j / sz]? = some y ∧ (f y)[j % sz]? = some u
  | [], j, u, h => by simp at h
  | y :: ys, j, u, h => by
    rw [List.flatMap_cons] at h
    rcases Nat.lt_or_ge j sz with hj | hj
    · rw [List.getElem?_append_left (by rw [hf]; exact hj)] at h
      exact ⟨y, by rw [Nat.div_eq_of_lt hj]; rfl, by rw [Nat.mod_eq_of_lt hj]; exact h⟩
    · rw [List.getElem?_append_right (by rw [hf]; exact hj), hf] at h
      obtain ⟨y', h1, h2⟩ := flat_of hf hsz ys (j - sz) u h
      refine ⟨y', ?_, ?_⟩
      · rw [show j / sz = (j - sz) / sz + 1 by rw [Nat.div_eq_sub_div hsz hj]]
        simpa using h1
      · rw [← h2, Nat.mod_eq_sub_mod hj]
/-- The cells of a slice that reads as ys. -/
theorem SL.cells (hy : SL f sz W B A2 m ys) (hf : ∀ x, (f x).length = sz) (hsz : 0 < sz) {ad : Addr} (hA : A2 = some ad) : ∀ j u, (ys.flatMap f)[j]? = some u → W.cell? (ad.add j) = some u := by
  intro j u hj
  obtain ⟨y, h1, h2⟩ := flat_of hf hsz ys j u hj
  have hl := (List.getElem?_eq_some_iff.1 h1).1
  obtain ⟨b, off, e1, hb, hc⟩ := hy.2 (by rw [hy.1]; exact Nat.lt_of_le_of_lt (Nat.zero_le _) hl)
  rw [hA] at e1
  cases e1
  have := hc (j / sz) y h1 (j % sz) u h2
  have e0 : ((⟨b, off, none⟩ : Addr).add j) = ⟨b, off + (j / sz) * sz + j % sz, none⟩ := by
    have hj : j / sz * sz + j % sz = j := by rw [Nat.mul_comm]; exact Nat.div_add_mod j sz
    unfold Addr.add
    split
    · rename_i hj0
      have hj0' : j = 0 := by simpa using hj0
      subst hj0'
      simp
    · rw [Nat.add_assoc, hj]
  rw [e0]
  exact this
end
end Go.Proofs.YtknjkcibkejieaaDoor

/- slices.Clone at pieces, crests and junctions. -/
namespace Go.Proofs.YtknjkcibkejieaaDoor
open Go.RowKit Go.Shelf Go.Sort Go.Proofs

theorem OW.zero {α : Type} {f : α → List Value} {sz : Nat} {e : TypeId} {base : Nat} {w : World} {N : Nat} (hb : BK w N e #[]) (hN : base ≤ N) : OW f sz e base w (some ⟨N, 0, none⟩) 0 0 ([] : List α) :=
  ⟨⟨by simp, .inr ⟨N, 0, #[], rfl, hN, hb, Nat.le_refl _, by unfold maxLen; omega, by simp, by simp⟩⟩, rfl⟩
end Go.Proofs.YtknjkcibkejieaaDoor

/- slices.Reverse at pieces, crests and junctions, of a row of the caller's own. -/
namespace Go.Proofs.YtknjkcibkejieaaDoor
open Go.RowKit Go.Shelf Go.Sort Go.Proofs

section
variable {α : Type}
end

end Go.Proofs.YtknjkcibkejieaaDoor
