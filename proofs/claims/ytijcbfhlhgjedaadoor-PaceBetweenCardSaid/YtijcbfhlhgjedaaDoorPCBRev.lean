/- append of a whole slice onto a row of the call's own. Plain theorems over any program. -/
import Derived.Test.YtijcbfhlhgjedaaDoorPCBGrouped
import Derived.Test.YtijcbfhlhgjedaaDoorPCBCorn
import Derived.RegionTactic
import Derived.BigRegion
namespace Go.Proofs.YtijcbfhlhgjedaaDoor
open Go.RowKit Go.Proofs

section
variable {α : Type} {P : Program} {f : α → List Value} {sz : Nat} {e : TypeId} {base : Nat} {W : World} {A A2 : Option Addr} {n c m c2 B : Nat} {xs ys : List α}
theorem flat_of (hf : ∀ x, (f x).length = sz) (hsz : 0 < sz) : ∀ (ys : List α) (j : Nat) (u : Value), (ys.flatMap f)[j]? = some u → ∃ y, ys[j / sz]? = some y ∧ (f y)[j % sz]? = some u
  | [], j, u, h => by simp at h
  | y :: ys, j, u, h => by
    rw [List.flatMap_cons] at h
    rcases Nat.lt_or_ge j sz with hj | hj
    · rw [List.getElem?_append_left (by rw [hf]; exact hj)] at h
      exact ⟨y, by rw [Nat.div_eq_of_lt hj]; rfl, by rw [Nat.mod_eq_of_lt hj]; exact h⟩
    · rw [List.getElem?_append_right (by rw [hf]; exact hj), hf] at h
      obtain ⟨y', h1, h2⟩ := flat_of hf hsz ys (j - sz) u h
      refine ⟨y', ?_, ?_⟩
      · rw [show j / sz = (j - sz) / sz + 1 by rw [Nat.div_eq_sub_div hsz hj]]
        simpa using h1
      · rw [← h2, Nat.mod_eq_sub_mod hj]
/-- The cells of a slice that reads as ys. -/
theorem SL.cells (hy : SL f sz W B A2 m ys) (hf : ∀ x, (f x).length = sz) (hsz : 0 < sz) {ad : Addr} (hA : A2 = some ad) : ∀ j u, (ys.flatMap f)[j]? = some u → W.cell? (ad.add j) = some u := by
  intro j u hj
  obtain ⟨y, h1, h2⟩ := flat_of hf hsz ys j u hj
  have hl := (List.getElem?_eq_some_iff.1 h1).1
  obtain ⟨b, off, e1, hb, hc⟩ := hy.2 (by rw [hy.1]; exact Nat.lt_of_le_of_lt (Nat.zero_le _) hl)
  rw [hA] at e1
  cases e1
  have := hc (j / sz) y h1 (j % sz) u h2
  have e0 : ((⟨b, off, none⟩ : Addr).add j) = ⟨b, off + (j / sz) * sz + j % sz, none⟩ := by
    have hj : j / sz * sz + j % sz = j := by rw [Nat.mul_comm]; exact Nat.div_add_mod j sz
    unfold Addr.add
    split
    · rename_i hj0
      have hj0' : j = 0 := by simpa using hj0
      subst hj0'
      simp
    · rw [Nat.add_assoc, hj]
  rw [e0]
  exact this
end
end Go.Proofs.YtijcbfhlhgjedaaDoor

/- slices.Clone at pieces, crests and junctions. -/
namespace Go.Proofs.YtijcbfhlhgjedaaDoor
open Go.RowKit Go.Shelf Go.Sort Go.Proofs

theorem OW.zero {α : Type} {f : α → List Value} {sz : Nat} {e : TypeId} {base : Nat} {w : World} {N : Nat} (hb : BK w N e #[]) (hN : base ≤ N) : OW f sz e base w (some ⟨N, 0, none⟩) 0 0 ([] : List α) :=
  ⟨⟨by simp, .inr ⟨N, 0, #[], rfl, hN, hb, Nat.le_refl _, by unfold maxLen; omega, by simp, by simp⟩⟩, rfl⟩
end Go.Proofs.YtijcbfhlhgjedaaDoor

/- slices.Reverse at pieces, crests and junctions, of a row of the caller's own. -/
namespace Go.Proofs.YtijcbfhlhgjedaaDoor
open Go.RowKit Go.Shelf Go.Sort Go.Proofs

section
variable {α : Type}
end

end Go.Proofs.YtijcbfhlhgjedaaDoor
