/- A good plan as the document says it: plain. No program in sight. -/
import Derived.Test.YtijcbfhlhgjedaaDoorRPlanP
namespace Go.Proofs.YtijcbfhlhgjedaaDoor
open Go.RowKit Go.Shelf Go.Sort Go.Proofs

/-- What the document asks of the trigger of call j. -/
def goodAt (S : Spd) (R : Road) (cs : List CallR) (ls : List Int) (j : Nat) : Bool := match cs[j]?, ls[j]? with
  | some c, some p => okTo S R cs j cs.length p.toNat && !decide (c.ahead < sS S R c.place - sS S R p)
  | _, _ => true
theorem goodM_iff {Q Mo : Int → Int} : ∀ {cs : List CallR} {ls : List Int}, ls.length = cs.length → (goodM Q Mo cs ls = true ↔ ∀ (j : Nat) (h : j < cs.length) (h' : j < ls.length), goodJ Q Mo (cs[j]'h) (cs.drop (j + 1)) (ls[j]'h') = true)
  | [], [], _ => ⟨fun _ j h => absurd h (Nat.not_lt_zero _), fun _ => rfl⟩
  | [], _ :: _, h => by simp at h
  | _ :: _, [], h => by simp at h
  | c :: cs, p :: ps, hl => by
    rw [goodM, Bool.and_eq_true, goodM_iff (cs := cs) (ls := ps) (by simpa using hl)]
    constructor
    · rintro ⟨h0, h1⟩ j h h'
      cases j with
      | zero => exact h0
      | succ j => exact h1 j (by simpa using h) (by simpa using h')
    · intro h
      refine ⟨h 0 (by simp) (by simp), fun j hj hj' => ?_⟩
      have := h (j + 1) (by simpa using hj) (by simpa using hj')
      simpa using this
theorem goodJ_at {S : Spd} {R : Road} {cs : List CallR} {ls : List Int} (hS : SOK S) (hv : OK R) (hc : COK (sumL R.ps) cs) (ht : TOK (sumL R.ps) cs.length ls) {j : Nat} (h : j < cs.length) (h' : j < ls.length) :
    goodJ (qS S R) (sS S R) (cs[j]'h) (cs.drop (j + 1)) (ls[j]'h') = goodAt S R cs ls j := by
  have hp := (ht.t j h' _ (List.getElem?_eq_getElem h')).1
  have hpl := (hc.k j h _ (List.getElem?_eq_getElem h)).1
  simp only [inR, Bool.and_eq_true, decide_eq_true_eq] at hp hpl
  obtain ⟨q, hq⟩ : ∃ q : Nat, ls[j]'h' = (q : Int) := ⟨(ls[j]'h').toNat, by omega⟩
  obtain ⟨z, hz⟩ : ∃ z : Nat, (cs[j]'h).place = (z : Int) := ⟨((cs[j]'h).place).toNat, by omega⟩
  unfold goodAt goodJ
  rw [List.getElem?_eq_getElem h, List.getElem?_eq_getElem h', hq]
  dsimp only
  rw [Int.toNat_natCast, ← List.drop_eq_getElem_cons h]
  have e : (!decide ((cs[j]'h).ahead < sS S R (cs[j]'h).place - sS S R (q : Int))) = decide (sS S R (cs[j]'h).place - sS S R (q : Int) ≤ (cs[j]'h).ahead) := by
    rw [← decide_not]
    exact decide_eq_decide.2 (by omega)
  rw [e]
  by_cases hle : q ≤ z
  · rw [okTo_room hS hv hc h hz hle, decide_eq_true (show (q : Int) ≤ (cs[j]'h).place by omega), Bool.true_and]
  · rw [decide_eq_false (show ¬ (q : Int) ≤ (cs[j]'h).place by omega), Bool.false_and]
    have hf : okTo S R cs j cs.length q = false := by
      rw [Bool.eq_false_iff]
      intro hk
      have h1 := okTo_iff.1 hk j (Nat.le_refl _) h
      unfold lateD at h1
      rw [List.getElem?_eq_getElem h] at h1
      simp only [Bool.or_eq_false_iff, decide_eq_false_iff_not] at h1
      omega
    rw [hf, Bool.false_and]
theorem goodM_true {S : Spd} {R : Road} {cs : List CallR} {ls : List Int} (hS : SOK S) (hv : OK R) (hc : COK (sumL R.ps) cs) (ht : TOK (sumL R.ps) cs.length ls) (h : ∀ j, j < cs.length → goodAt S R cs ls j = true) : goodM (qS S R) (sS S R) cs ls = true :=
  (goodM_iff ht.l).2 fun j hj hj' => by rw [goodJ_at hS hv hc ht hj hj']; exact h j hj
theorem goodM_false {S : Spd} {R : Road} {cs : List CallR} {ls : List Int} (hS : SOK S) (hv : OK R) (hc : COK (sumL R.ps) cs) (ht : TOK (sumL R.ps) cs.length ls) {j : Nat} (hj : j < cs.length) (h : goodAt S R cs ls j = false) : goodM (qS S R) (sS S R) cs ls = false := by
  rw [Bool.eq_false_iff]
  intro hg
  have hj' : j < ls.length := by rw [ht.l]; exact hj
  have := (goodM_iff ht.l).1 hg j hj hj'
  rw [goodJ_at hS hv hc ht hj hj', h] at this
  cases this
end Go.Proofs.YtijcbfhlhgjedaaDoor
