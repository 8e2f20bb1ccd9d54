/- The theorem of delays: the first best choice is the best one; calls read at the place 0 in time are late in no plan: plain. No program in sight. -/
import Derived.Test.YtijcbfhlhgjedaaDoorPInT
import Derived.Test.YtijcbfhlhgjedaaDoorPPas
namespace Go.Proofs.YtijcbfhlhgjedaaDoor
open Go.RowKit Go.Shelf Go.Sort Go.Proofs

theorem it_itC {Q : Int → Int} {a : Int} {cs : List CallR} : ∀ (us : List Int) {f : Nat} {s v : Int}, chO cs.length f us → itC Q a cs us f s v = itM Q a cs us s v
  | [], _, _, _, _ => rfl
  | i :: is, f, s, v, h => by
    obtain ⟨k, rfl, h1, h2, h3⟩ := h
    have hx := List.getElem?_eq_getElem h2
    rw [itC_cons (by omega) hx, itM_cons hx]
    by_cases he : endsB Q a (cs[k]'h2) (s + (cs[k]'h2).lasts) = true
    · rw [if_pos he, if_pos he]
      exact it_itC is h3
    · rw [if_neg he, if_neg he]
theorem itC_it {Q : Int → Int} {a : Int} {cs : List CallR} : ∀ (us : List Int) {f : Nat} {s v w : Int}, itC Q a cs us f s v = some w → chO cs.length f us
  | [], _, _, _, _, _ => trivial
  | i :: is, f, s, v, w, h => by
    by_cases hi : (f : Int) ≤ i ∧ i < cs.length
    · obtain ⟨k, rfl⟩ : ∃ k : Nat, i = (k : Int) := ⟨i.toNat, by omega⟩
      have hk : k < cs.length := by omega
      have hx := List.getElem?_eq_getElem hk
      rw [itC_cons hi.1 hx] at h
      by_cases he : endsB Q a (cs[k]'hk) (s + (cs[k]'hk).lasts) = true
      · rw [if_pos he] at h
        exact ⟨k, rfl, by omega, hk, itC_it is (f := k + 1) h⟩
      · rw [if_neg he] at h
        cases h
    · rw [itC_no hi] at h
      cases h
/-- The first best choice is in time, worth most, and the first of those. -/
theorem better {Q : Int → Int} {a : Int} {cs : List CallR} {G : List Int} (h : Gr Q a cs (bv Q a cs 0) 0 0 0 G) : itC Q a cs G 0 0 0 = some (bv Q a cs 0) ∧ ∀ us v, itC Q a cs us 0 0 0 = some v → v ≤ bv Q a cs 0 ∧ (v = bv Q a cs 0 → bfL us G = false) := by
  refine ⟨?_, fun us v hv => ?_⟩
  · have h1 := h.ok
    have h2 := it_itC (Q := Q) (a := a) (s := 0) (v := 0) G h1.1
    exact h2.trans h1.2
  · have h1 : chO cs.length 0 us := itC_it us (f := 0) hv
    have h2 := it_itC (Q := Q) (a := a) (s := 0) (v := 0) us h1
    have h3 := h2.symm.trans hv
    have h4 := it_le us h1 h3
    rw [List.drop_zero] at h4
    refine ⟨by omega, fun e => ?_⟩
    rw [e] at h3
    exact h.min (by rw [List.drop_zero]; omega) us h1 h3
def allL (n : Nat) : List Int := (List.range n).map fun i : Nat => (i : Int)
theorem allL_succ (n : Nat) : allL (n + 1) = allL n ++ [(n : Int)] := by simp [allL, List.range_succ]
theorem lsum_zero (cs : List CallR) (m : Nat) : lsum cs m 0 = 0 := by simp [lsum]
theorem all_it {Q : Int → Int} {a : Int} {cs : List CallR} : ∀ (m k : Nat) (s v w : Int), k + m = cs.length → itC Q a cs ((List.range' k m).map fun i : Nat => (i : Int)) k s v = some w → ∀ i, k ≤ i → (h : i < cs.length) → endsB Q a (cs[i]'h) (s + lsum cs k (i + 1 - k)) = true
  | 0, k, s, v, w, hm, _, i, hi, h => by omega
  | m + 1, k, s, v, w, hm, hw, i, hi, h => by
    have hk : k < cs.length := by omega
    have hx := List.getElem?_eq_getElem hk
    rw [List.range'_succ, List.map_cons, itC_cons (Int.le_refl _) hx] at hw
    by_cases he : endsB Q a (cs[k]'hk) (s + (cs[k]'hk).lasts) = true
    · rw [if_pos he] at hw
      by_cases hik : i = k
      · subst hik
        rw [show i + 1 - i = 0 + 1 by omega, lsum_cons cs i 0 hk, lsum_zero, Int.add_zero]
        exact he
      · have e : ((k + 1 : Nat) : Int) = (k : Int) + 1 := by omega
        rw [← e] at hw
        have ih := all_it m (k + 1) _ _ w (by omega) hw i (by omega) h
        rw [show i + 1 - k = (i - k) + 1 by omega, lsum_cons cs k (i - k) hk]
        rw [show i + 1 - (k + 1) = i - k by omega] at ih
        rw [← Int.add_assoc]
        exact ih
    · rw [if_neg he] at hw
      cases hw
theorem lsum_tail {n : Int} {cs : List CallR} (hc : COK n cs) {i : Nat} (hi : i < cs.length) : ∀ j, j ≤ i → lsum cs j (i + 1 - j) ≤ lsum cs 0 (i + 1)
  | 0, _ => Int.le_refl _
  | j + 1, hj => by
    have ih := lsum_tail hc hi j (by omega)
    have hjl : j < cs.length := by omega
    have h1 := lsum_cons cs j (i - j) hjl
    have h2 := (kAt_bd hc hjl).2.1.1
    rw [show i + 1 - j = (i - j) + 1 by omega, h1] at ih
    rw [show i + 1 - (j + 1) = i - j by omega]
    omega
/-- Calls that are all in time, read at the place 0, are late in no plan. -/
theorem every_plan {S : Spd} {R : Road} {cs : List CallR} (hc : COK (sumL R.ps) cs) {v : Int} (h : itC (qS S R) 0 cs (allL cs.length) 0 0 0 = some v) : (planR (qS S R) (sS S R) cs).2.2 = 0 ∨ (planR (qS S R) (sS S R) cs).2.1.early = true := by
  have h1 := all_it (Q := qS S R) (a := 0) (cs := cs) cs.length 0 0 0 v (by omega) (by rw [← List.range_eq_range']; exact h)
  have hl : ∀ j i, j ≤ i → i < cs.length → lateD S R cs j i 0 = false := by
    intro j i hj hi
    have h2 := h1 i (Nat.zero_le _) hi
    have h3 := lsum_tail hc hi j hj
    have h4 := (kAt_bd hc hi).1
    unfold endsB at h2
    rw [decide_eq_true_eq, Nat.sub_zero] at h2
    unfold lateD
    rw [List.getElem?_eq_getElem hi]
    simp only [Bool.or_eq_false_iff, decide_eq_false_iff_not]
    refine ⟨by omega, ?_⟩
    have h5 : qS S R 0 = tQ S R.ps 0 := rfl
    have h6 : qS S R (cs[i]'hi).place = tQ S R.ps (cs[i]'hi).place.toNat := rfl
    rw [h5, h6] at h2
    omega
  rcases plan_cases (S := S) (R := R) hc with ⟨h2 | ⟨hall, hea⟩, h4, h5⟩ | ⟨-, h2⟩
  · obtain ⟨j, i, a, b, c⟩ := h2
    rw [hl j i a b] at c
    cases c
  · obtain ⟨j, a, b, c⟩ := first_true cs.length hea
    rw [planR_early (sS S R) hc hall a c b]
    exact .inr rfl
  · rw [h2]
    exact .inl rfl
end Go.Proofs.YtijcbfhlhgjedaaDoor
