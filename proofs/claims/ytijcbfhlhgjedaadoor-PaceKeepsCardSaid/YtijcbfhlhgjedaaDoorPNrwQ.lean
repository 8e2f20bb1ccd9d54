/- Narrowing round by round: what a round reads and leaves: plain. No program in sight. -/
import Derived.Test.YtijcbfhlhgjedaaDoorPNrwP
namespace Go.Proofs.YtijcbfhlhgjedaaDoor
open Go.RowKit Go.Shelf Go.Sort Go.Proofs

/-- The numbers of a passing are small. -/
def smP (x : PassR) : Prop := -2000000000000000 ≤ x.early ∧ x.early ≤ 2000000000000000 ∧ -2000000000000000 ≤ x.late ∧ x.late ≤ 2000000000000000
theorem maxM_val : maxM = 1125899906842624 := rfl
theorem befP_set {L : List PassR} {k : Nat} {y : PassR} (h : k < L.length) : befP (L.set k y) (k + 1) = y := by
  unfold befP
  rw [if_neg (by omega), Nat.add_sub_cancel, getD_at (by rw [List.length_set]; exact h), List.getElem_set_self]
theorem sm_z : smP zP := ⟨by decide, by decide, by decide, by decide⟩
theorem sm_F {S : Spd} {R : Road} (hS : SOK S) (hv : OK R) {x : PassR} (hx : 0 ≤ x.place ∧ x.place ≤ sumL R.ps) (h : bdF 1000070000000 (qS S R) x) : smP x := by
  obtain ⟨h1, h2, h3, h4⟩ := h
  have hq := (qm_of hS hv).t _ hx.1 hx.2
  rw [maxM_val] at h2 h4
  exact ⟨by omega, by omega, by omega, by omega⟩
theorem sm_B {S : Spd} {R : Road} (hS : SOK S) (hv : OK R) {x : PassR} (hx : 0 ≤ x.place ∧ x.place ≤ sumL R.ps) (h : bdB2 1000070000000 (qS S R) x) : smP x := by
  obtain ⟨h1, h2, h3, h4⟩ := h
  have hq := (qm_of hS hv).t _ hx.1 hx.2
  rw [maxM_val] at h2 h4
  exact ⟨by omega, by omega, by omega, by omega⟩
theorem fwd_round {S : Spd} {R : Road} (hS : SOK S) (hv : OK R) {ls : List PassR} (hp : POK (sumL R.ps) ls) {k : Nat} (hk : k < ls.length) :
    ∃ (x b : PassR) (q z : Nat), (fwd (qS S R) (sS S R) ls k)[k]? = some x ∧ befP (fwd (qS S R) (sS S R) ls k) k = b ∧ (0 < k → (fwd (qS S R) (sS S R) ls k)[k - 1]? = some b) ∧ (k = 0 → b = zP) ∧ x.place = (z : Int) ∧ b.place = (q : Int) ∧ q ≤ z ∧ (z : Int) ≤ sumL R.ps ∧ smP x ∧ smP b ∧
      fwd (qS S R) (sS S R) ls (k + 1) = (fwd (qS S R) (sS S R) ls k).set k ⟨z, max x.early (b.early + (tQ S R.ps z - tQ S R.ps q)), min x.late (b.late + (tSl S R.ps z - tSl S R.ps q))⟩ ∧
      befP (fwd (qS S R) (sS S R) ls (k + 1)) (k + 1) = ⟨z, max x.early (b.early + (tQ S R.ps z - tQ S R.ps q)), min x.late (b.late + (tSl S R.ps z - tSl S R.ps q))⟩ := by
  have hK := fwd_keep (qm_of hS hv) hp k (by omega)
  have hl : k < (fwd (qS S R) (sS S R) ls k).length := by rw [hK.l]; exact hk
  obtain ⟨e1, e2⟩ := hK.e k hk hl
  obtain ⟨p1, -⟩ := pok_at hp hk
  have hx := List.getElem?_eq_getElem hl
  have hst : fwd (qS S R) (sS S R) ls (k + 1) = (fwd (qS S R) (sS S R) ls k).set k (stepF (qS S R) (sS S R) (befP (fwd (qS S R) (sS S R) ls k) k) ((fwd (qS S R) (sS S R) ls k)[k]'hl)) := by rw [fwd, getD_at hl]
  generalize (fwd (qS S R) (sS S R) ls k)[k]'hl = x at *
  have hxp := p1
  rw [← e1] at hxp
  have hfin : ∀ (q z : Nat), x.place = (z : Int) → (befP (fwd (qS S R) (sS S R) ls k) k).place = (q : Int) → stepF (qS S R) (sS S R) (befP (fwd (qS S R) (sS S R) ls k) k) x = ⟨z, max x.early ((befP (fwd (qS S R) (sS S R) ls k) k).early + (tQ S R.ps z - tQ S R.ps q)), min x.late ((befP (fwd (qS S R) (sS S R) ls k) k).late + (tSl S R.ps z - tSl S R.ps q))⟩ := by
    intro q z hz hq
    unfold stepF
    rw [hz, hq]
    rfl
  obtain ⟨z, hz⟩ : ∃ z : Nat, x.place = (z : Int) := ⟨x.place.toNat, by omega⟩
  rcases bef_place hK hk with ⟨h0, hb⟩ | ⟨h1, h2, h0, hb0, hb, hbd⟩
  · have hs := hfin 0 z hz (by rw [hb]; rfl)
    refine ⟨x, _, 0, z, hx, rfl, fun h => by omega, fun _ => hb, hz, by rw [hb]; rfl, by omega, by omega, sm_F hS hv hxp e2, by rw [hb]; exact sm_z, by rw [hst, hs], by rw [hst, hs, befP_set hl]⟩
  · have hpp := (pok_at hp h1).1
    have hlt := pok_lt hp (i := k - 1) (by omega)
    simp only [show k - 1 + 1 = k by omega] at hlt
    have hbp := hpp
    rw [← hb] at hbp
    obtain ⟨q, hq⟩ : ∃ q : Nat, (befP (fwd (qS S R) (sS S R) ls k) k).place = (q : Int) := ⟨(befP (fwd (qS S R) (sS S R) ls k) k).place.toNat, by omega⟩
    have hs := hfin q z hz hq
    refine ⟨x, _, q, z, hx, rfl, fun _ => ?_, fun h => by omega, hz, hq, ?_, by omega, sm_F hS hv hxp e2, sm_F hS hv hbp hbd, by rw [hst, hs], by rw [hst, hs, befP_set hl]⟩
    · rw [hb0]
      exact List.getElem?_eq_getElem h2
    · have : (q : Int) < z := by rw [← hz, ← hq, e1, hb]; exact hlt
      omega
theorem bwd_round {S : Spd} {R : Road} (hS : SOK S) (hv : OK R) {ls L : List PassR} (hp : POK (sumL R.ps) ls) (hL : PKeep (bdF 1000070000000 (qS S R)) ls L) {k : Nat} (hk : k + 2 ≤ ls.length) :
    ∃ (x y : PassR) (q z : Nat), (bwd (qS S R) (sS S R) L k)[ls.length - 2 - k]? = some x ∧ (bwd (qS S R) (sS S R) L k)[ls.length - 1 - k]? = some y ∧ x.place = (q : Int) ∧ y.place = (z : Int) ∧ q ≤ z ∧ (z : Int) ≤ sumL R.ps ∧ smP x ∧ smP y ∧
      bwd (qS S R) (sS S R) L (k + 1) = (bwd (qS S R) (sS S R) L k).set (ls.length - 2 - k) ⟨q, max x.early (y.early - (tSl S R.ps z - tSl S R.ps q)), min x.late (y.late - (tQ S R.ps z - tQ S R.ps q))⟩ := by
  have hK := bwd_keep (qm_of hS hv) hp hL k (by omega)
  have hl : ls.length - 2 - k < (bwd (qS S R) (sS S R) L k).length := by rw [hK.l]; omega
  have hl2 : ls.length - 1 - k < (bwd (qS S R) (sS S R) L k).length := by rw [hK.l]; omega
  obtain ⟨e1, e2⟩ := hK.e (ls.length - 2 - k) (by omega) hl
  obtain ⟨f1, f2⟩ := hK.e (ls.length - 1 - k) (by omega) hl2
  obtain ⟨p1, -⟩ := pok_at hp (i := ls.length - 2 - k) (by omega)
  obtain ⟨p2, -⟩ := pok_at hp (i := ls.length - 1 - k) (by omega)
  have hlt := pok_lt hp (i := ls.length - 2 - k) (by omega)
  simp only [show ls.length - 2 - k + 1 = ls.length - 1 - k by omega] at hlt
  have hst : bwd (qS S R) (sS S R) L (k + 1) = (bwd (qS S R) (sS S R) L k).set (ls.length - 2 - k) (stepB (qS S R) (sS S R) ((bwd (qS S R) (sS S R) L k)[ls.length - 1 - k]'hl2) ((bwd (qS S R) (sS S R) L k)[ls.length - 2 - k]'hl)) := by
    rw [bwd]
    simp only [hL.l]
    rw [getD_at hl, getD_at hl2]
  have hx := List.getElem?_eq_getElem hl
  have hy := List.getElem?_eq_getElem hl2
  generalize (bwd (qS S R) (sS S R) L k)[ls.length - 2 - k]'hl = x at *
  generalize (bwd (qS S R) (sS S R) L k)[ls.length - 1 - k]'hl2 = y at *
  rw [← e1] at p1 hlt
  rw [← f1] at p2 hlt
  obtain ⟨q, hq⟩ : ∃ q : Nat, x.place = (q : Int) := ⟨x.place.toNat, by omega⟩
  obtain ⟨z, hz⟩ : ∃ z : Nat, y.place = (z : Int) := ⟨y.place.toNat, by omega⟩
  refine ⟨x, y, q, z, hx, hy, hq, hz, by omega, by omega, sm_B hS hv p1 e2, sm_B hS hv p2 f2, ?_⟩
  rw [hst]
  unfold stepB
  rw [hz, hq]
  rfl
end Go.Proofs.YtijcbfhlhgjedaaDoor
