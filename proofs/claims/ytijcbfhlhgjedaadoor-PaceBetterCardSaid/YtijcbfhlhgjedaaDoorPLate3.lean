/- The document's plan and the plan: plain: late at the start, the greatest trigger. No program in sight. -/
import Derived.Test.YtijcbfhlhgjedaaDoorPCOpenK
namespace Go.Proofs.YtijcbfhlhgjedaaDoor
open Go.RowKit Go.Shelf Go.Sort Go.Proofs

theorem rvs_at (Q : Int → Int) : ∀ (cs : List CallR) (s : Int) (i : Nat) (h : i < cs.length), (rvs Q s cs)[i]? = some (Q (cs[i]'h).place - (s + lsum cs 0 (i + 1)) - (cs[i]'h).lead)
  | [], _, _, h => by simp at h
  | c :: cs, s, 0, _ => by simp [rvs, lsum]
  | c :: cs, s, i + 1, h => by
    have hi : i < cs.length := by simpa using h
    rw [rvs, List.getElem?_cons_succ, rvs_at Q cs (s + c.lasts) i hi]
    have e : lsum (c :: cs) 0 (i + 1 + 1) = c.lasts + lsum cs 0 (i + 1) := by simp [lsum]
    rw [e]
    simp only [List.getElem_cons_succ]
    congr 1
    omega
theorem lsum_drop (cs : List CallR) (j k : Nat) : lsum (cs.drop j) 0 k = lsum cs j k := by simp [lsum]
theorem rvs_drop (Q : Int → Int) (cs : List CallR) (j i : Nat) (hj : j ≤ i) (h : i < cs.length) : (rvs Q 0 (cs.drop j))[i - j]? = some (Q (cs[i]'h).place - lsum cs j (i + 1 - j) - (cs[i]'h).lead) := by
  have hl : i - j < (cs.drop j).length := by rw [List.length_drop]; omega
  rw [rvs_at Q (cs.drop j) 0 (i - j) hl, lsum_drop, Int.zero_add]
  have e : j + (i - j) = i := by omega
  have e2 : i - j + 1 = i + 1 - j := by omega
  simp only [List.getElem_drop, e, e2]
/-- Late for a run at g no further than the call's place: the call's bound lies below the time at g. -/
theorem lateD_rvs {S : Spd} {R : Road} {cs : List CallR} {N : Int} (_hc : COK N cs) {j i g : Nat} (_hj : j ≤ i) (h : i < cs.length) (hg : (g : Int) ≤ (cs[i]'h).place) :
    lateD S R cs j i g = decide (qS S R (cs[i]'h).place - lsum cs j (i + 1 - j) - (cs[i]'h).lead < qS S R (g : Int)) := by
  unfold lateD
  rw [List.getElem?_eq_getElem h]
  simp only
  rw [decide_eq_false (by omega), Bool.false_or]
  refine decide_eq_decide.2 ?_
  unfold qS
  rw [Int.toNat_natCast]
  omega
theorem okTo_iff {S : Spd} {R : Road} {cs : List CallR} {j k g : Nat} : okTo S R cs j k g = true ↔ ∀ i, j ≤ i → i < k → lateD S R cs j i g = false := by
  unfold okTo
  rw [List.all_eq_true]
  constructor
  · intro h i h1 h2
    have := h i (List.mem_range'_1.2 ⟨h1, by omega⟩)
    simpa using this
  · intro h i hi
    obtain ⟨h1, h2⟩ := List.mem_range'_1.1 hi
    rw [h i h1 (by omega)]
    rfl
theorem late_zero {S : Spd} {R : Road} {cs : List CallR} (hc : COK (sumL R.ps) cs) {j i : Nat} (hj : j ≤ i) (h : i < cs.length) :
    ∃ r, (rvs (qS S R) 0 (cs.drop j))[i - j]? = some r ∧ lateD S R cs j i 0 = decide (r < 0) := by
  refine ⟨_, rvs_drop (qS S R) cs j i hj h, ?_⟩
  have hpl := (hc.k i h _ (List.getElem?_eq_getElem h)).1
  simp only [inR, Bool.and_eq_true, decide_eq_true_eq] at hpl
  rw [lateD_rvs hc hj h (by omega)]
  have e : qS S R ((0 : Nat) : Int) = 0 := by unfold qS; rw [Int.toNat_natCast]; exact tQ_zero S R.ps
  rw [e]
theorem lateM_none {S : Spd} {R : Road} {cs : List CallR} (hc : COK (sumL R.ps) cs) {j : Nat} (h : okTo S R cs j cs.length 0 = true) : lateM (qS S R) (cs.drop j) = none := by
  unfold lateM
  rw [List.findIdx?_eq_none_iff]
  intro y hy
  obtain ⟨k, hk, e⟩ := List.getElem_of_mem hy
  have hl := rvs_len (qS S R) 0 (cs.drop j)
  rw [List.length_drop] at hl
  obtain ⟨r, h1, h2⟩ := late_zero hc (S := S) (j := j) (i := j + k) (by omega) (by omega)
  rw [okTo_iff.1 h (j + k) (by omega) (by omega)] at h2
  rw [show j + k - j = k by omega, List.getElem?_eq_getElem hk, e] at h1
  cases h1
  exact h2.symm
theorem lateM_some {S : Spd} {R : Road} {cs : List CallR} (hc : COK (sumL R.ps) cs) {j i : Nat} (hj : j ≤ i) (hi : i < cs.length) (h : okTo S R cs j i 0 = true) (hl : lateD S R cs j i 0 = true) : lateM (qS S R) (cs.drop j) = some (i - j) := by
  unfold lateM
  rw [List.findIdx?_eq_some_iff_getElem]
  have hl0 := rvs_len (qS S R) 0 (cs.drop j)
  rw [List.length_drop] at hl0
  have hk : i - j < (rvs (qS S R) 0 (cs.drop j)).length := by omega
  refine ⟨hk, ?_, fun m hm => ?_⟩
  · obtain ⟨r, h1, h2⟩ := late_zero hc (S := S) hj hi
    rw [List.getElem?_eq_getElem hk] at h1
    rw [Option.some.inj h1, ← h2, hl]
  · have hm2 : m < (rvs (qS S R) 0 (cs.drop j)).length := by omega
    obtain ⟨r, h1, h2⟩ := late_zero hc (S := S) (j := j) (i := j + m) (by omega) (by omega)
    rw [okTo_iff.1 h (j + m) (by omega) (by omega)] at h2
    rw [show j + m - j = m by omega, List.getElem?_eq_getElem hm2] at h1
    rw [Option.some.inj h1, ← h2]
    simp
/-- The first late pair is the plan's clash. -/
theorem planA_late {S : Spd} {R : Road} {cs : List CallR} (Mo : Int → Int) (hc : COK (sumL R.ps) cs) {j i : Nat} (hj : j ≤ i) (hi : i < cs.length) (hok : ∀ k, k < j → okTo S R cs k cs.length 0 = true) (h : okTo S R cs j i 0 = true) (hl : lateD S R cs j i 0 = true) :
    ∀ d : Nat, d ≤ j → planA (qS S R) Mo (j - d) (cs.drop (j - d)) = .inl (j, i)
  | 0, _ => by
    rw [Nat.sub_zero]
    have h1 := lateM_some hc hj hi h hl
    rw [List.drop_eq_getElem_cons (by omega)] at h1 ⊢
    simp only [planA, h1]
    rw [show j + (i - j) = i by omega]
  | d + 1, hd => by
    have ih := planA_late Mo hc hj hi hok h hl d (by omega)
    have h1 := lateM_none hc (hok (j - (d + 1)) (by omega))
    have hlt : j - (d + 1) < cs.length := by omega
    rw [List.drop_eq_getElem_cons hlt] at h1 ⊢
    rw [show j - (d + 1) + 1 = j - d by omega] at h1 ⊢
    simp only [planA, h1]
    rw [show j - (d + 1) + 1 = j - d by omega, ih]
theorem planR_late {S : Spd} {R : Road} {cs : List CallR} (Mo : Int → Int) (hc : COK (sumL R.ps) cs) {j i : Nat} (hj : j ≤ i) (hi : i < cs.length) (hok : ∀ k, k < j → okTo S R cs k cs.length 0 = true) (h : okTo S R cs j i 0 = true) (hl : lateD S R cs j i 0 = true) :
    planR (qS S R) Mo cs = ([], ⟨j, i, false⟩, 5) := by
  have h1 := planA_late Mo hc hj hi hok h hl j (Nat.le_refl _)
  rw [Nat.sub_self, List.drop_zero] at h1
  unfold planR
  rw [h1]
/-- The trigger of call j. -/
def trigAt (Q : Int → Int) (cs : List CallR) (j : Nat) : Nat := match cs[j]? with
  | some c => trigM Q c (cs.drop (j + 1))
  | none => 0
/-- Call j's trigger is too far ahead of it. -/
def earlyAt (Q Mo : Int → Int) (cs : List CallR) (j : Nat) : Bool := match cs[j]? with
  | some c => decide (Mo (trigAt Q cs j) + c.ahead < Mo c.place)
  | none => false
theorem planA_fine {S : Spd} {R : Road} {cs : List CallR} (Mo : Int → Int) (hc : COK (sumL R.ps) cs) (hok : ∀ k, k < cs.length → okTo S R cs k cs.length 0 = true) :
    ∀ d : Nat, d ≤ cs.length → planA (qS S R) Mo (cs.length - d) (cs.drop (cs.length - d)) =
      .inr ((List.range' (cs.length - d) d).map fun j => (trigAt (qS S R) cs j : Int), (List.range' (cs.length - d) d).find? (earlyAt (qS S R) Mo cs))
  | 0, _ => by
    rw [Nat.sub_zero, List.drop_length]
    rfl
  | d + 1, hd => by
    have ih := planA_fine Mo hc hok d (by omega)
    have hlt : cs.length - (d + 1) < cs.length := by omega
    have h1 := lateM_none hc (hok (cs.length - (d + 1)) hlt)
    have e1 : cs.length - (d + 1) + 1 = cs.length - d := by omega
    have e2 : trigAt (qS S R) cs (cs.length - (d + 1)) = trigM (qS S R) (cs[cs.length - (d + 1)]'hlt) (cs.drop (cs.length - (d + 1) + 1)) := by
      unfold trigAt
      rw [List.getElem?_eq_getElem hlt]
    have e3 : earlyAt (qS S R) Mo cs (cs.length - (d + 1)) = decide (Mo (trigAt (qS S R) cs (cs.length - (d + 1))) + (cs[cs.length - (d + 1)]'hlt).ahead < Mo (cs[cs.length - (d + 1)]'hlt).place) := by
      unfold earlyAt
      rw [List.getElem?_eq_getElem hlt]
    rw [List.range'_succ, List.map_cons, List.find?_cons, e3]
    rw [List.drop_eq_getElem_cons hlt] at h1 ⊢
    simp only [planA, h1]
    rw [← e2, e1, ih]
    dsimp only
    by_cases hb : Mo (trigAt (qS S R) cs (cs.length - (d + 1))) + (cs[cs.length - (d + 1)]'hlt).ahead < Mo (cs[cs.length - (d + 1)]'hlt).place
    · simp only [if_pos hb, decide_eq_true hb]
    · simp only [if_neg hb, decide_eq_false hb]
theorem planR_early {S : Spd} {R : Road} {cs : List CallR} (Mo : Int → Int) (hc : COK (sumL R.ps) cs) (hok : ∀ k, k < cs.length → okTo S R cs k cs.length 0 = true) {j : Nat} (hj : j < cs.length) (hb : ∀ k, k < j → earlyAt (qS S R) Mo cs k = false) (he : earlyAt (qS S R) Mo cs j = true) :
    planR (qS S R) Mo cs = ([], ⟨j, j, true⟩, 5) := by
  have h1 := planA_fine Mo hc hok cs.length (Nat.le_refl _)
  rw [Nat.sub_self, List.drop_zero] at h1
  have h2 : (List.range' 0 cs.length).find? (earlyAt (qS S R) Mo cs) = some j := by
    rw [List.find?_eq_some_iff_getElem]
    refine ⟨he, j, by simpa using hj, by simp, fun k hk => ?_⟩
    simpa using hb k hk
  unfold planR
  rw [h1, h2]
theorem planR_fine {S : Spd} {R : Road} {cs : List CallR} (Mo : Int → Int) (hc : COK (sumL R.ps) cs) (hok : ∀ k, k < cs.length → okTo S R cs k cs.length 0 = true) (hb : ∀ k, k < cs.length → earlyAt (qS S R) Mo cs k = false) :
    planR (qS S R) Mo cs = ((List.range' 0 cs.length).map fun j => (trigAt (qS S R) cs j : Int), ⟨0, 0, false⟩, 0) := by
  have h1 := planA_fine Mo hc hok cs.length (Nat.le_refl _)
  rw [Nat.sub_self, List.drop_zero] at h1
  have h2 : (List.range' 0 cs.length).find? (earlyAt (qS S R) Mo cs) = none := by
    rw [List.find?_eq_none]
    intro k hk
    have := (List.mem_range'_1.1 hk).2
    rw [hb k (by omega)]
    simp
  unfold planR
  rw [h1, h2]
end Go.Proofs.YtijcbfhlhgjedaaDoor

/- A good plan as the document says it: plain. No program in sight. -/
namespace Go.Proofs.YtijcbfhlhgjedaaDoor
open Go.RowKit Go.Shelf Go.Sort Go.Proofs

end Go.Proofs.YtijcbfhlhgjedaaDoor

/- The latest plan is good, no good plan has a greater trigger, and where there is none no plan is good: plain. No program in sight. -/
namespace Go.Proofs.YtijcbfhlhgjedaaDoor
open Go.RowKit Go.Shelf Go.Sort Go.Proofs

theorem first_true {f : Nat → Bool} : ∀ n, (∃ j, j < n ∧ f j = true) → ∃ j, j < n ∧ f j = true ∧ ∀ k, k < j → f k = false
  | 0, ⟨j, h, _⟩ => absurd h (Nat.not_lt_zero _)
  | n + 1, ⟨j, h, hf⟩ => by
    by_cases hn : ∃ j, j < n ∧ f j = true
    · obtain ⟨k, h1, h2, h3⟩ := first_true n hn
      exact ⟨k, by omega, h2, h3⟩
    · have hjn : j = n := by
        rcases Nat.lt_or_ge j n with h1 | h1
        · exact absurd ⟨j, h1, hf⟩ hn
        · omega
      exact ⟨j, h, hf, fun k hk => by rw [Bool.eq_false_iff]; intro q; exact hn ⟨k, by omega, q⟩⟩
/-- The triggers of the latest plan. -/
def trigsL (S : Spd) (R : Road) (cs : List CallR) : List Int := (List.range' 0 cs.length).map fun j => (trigAt (qS S R) cs j : Int)
/-- All calls can be read from the start on. -/
def allOk (S : Spd) (R : Road) (cs : List CallR) : Prop := ∀ k, k < cs.length → okTo S R cs k cs.length 0 = true
theorem okTo_first {S : Spd} {R : Road} {cs : List CallR} {j : Nat} (hf : okTo S R cs j cs.length 0 = false) : ∃ i, j ≤ i ∧ i < cs.length ∧ okTo S R cs j i 0 = true ∧ lateD S R cs j i 0 = true := by
  have hex : ∃ i, i < cs.length ∧ (decide (j ≤ i) && lateD S R cs j i 0) = true := by
    apply Classical.byContradiction
    intro hn
    have : okTo S R cs j cs.length 0 = true := okTo_iff.2 fun i h1 h2 => by
      rw [Bool.eq_false_iff]
      intro q
      exact hn ⟨i, h2, by rw [decide_eq_true h1, q]; rfl⟩
    rw [hf] at this
    cases this
  obtain ⟨i, h1, h2, h3⟩ := first_true cs.length hex
  rw [Bool.and_eq_true, decide_eq_true_eq] at h2
  refine ⟨i, h2.1, h1, okTo_iff.2 fun k hk1 hk2 => ?_, h2.2⟩
  have := h3 k hk2
  rw [decide_eq_true hk1, Bool.true_and] at this
  exact this
theorem plan_cases {S : Spd} {R : Road} {cs : List CallR} (hc : COK (sumL R.ps) cs) :
    (((∃ j i, j ≤ i ∧ i < cs.length ∧ lateD S R cs j i 0 = true) ∨ (allOk S R cs ∧ ∃ j, j < cs.length ∧ earlyAt (qS S R) (sS S R) cs j = true)) ∧ (planR (qS S R) (sS S R) cs).1 = [] ∧ (planR (qS S R) (sS S R) cs).2.2 = 5) ∨
    ((allOk S R cs ∧ ∀ j, j < cs.length → earlyAt (qS S R) (sS S R) cs j = false) ∧ planR (qS S R) (sS S R) cs = (trigsL S R cs, ⟨0, 0, false⟩, 0)) := by
  by_cases hall : allOk S R cs
  · by_cases hea : ∃ j, j < cs.length ∧ earlyAt (qS S R) (sS S R) cs j = true
    · obtain ⟨j, h1, h2, h3⟩ := first_true cs.length hea
      refine .inl ⟨.inr ⟨hall, hea⟩, ?_⟩
      rw [planR_early (sS S R) hc hall h1 h3 h2]
      exact ⟨rfl, rfl⟩
    · have hno : ∀ j, j < cs.length → earlyAt (qS S R) (sS S R) cs j = false := fun j hj => by rw [Bool.eq_false_iff]; intro q; exact hea ⟨j, hj, q⟩
      exact .inr ⟨⟨hall, hno⟩, planR_fine (sS S R) hc hall hno⟩
  · have hex : ∃ j, j < cs.length ∧ (!okTo S R cs j cs.length 0) = true := by
      apply Classical.byContradiction
      intro hn
      exact hall fun k hk => by
        cases hq : okTo S R cs k cs.length 0
        · exact absurd ⟨k, hk, by rw [hq]; rfl⟩ hn
        · rfl
    obtain ⟨j, h1, h2, h3⟩ := first_true cs.length hex
    obtain ⟨i, h4, h5, h6, h7⟩ := okTo_first (S := S) (R := R) (cs := cs) (j := j) (by simpa using h2)
    refine .inl ⟨.inl ⟨j, i, h4, h5, h7⟩, ?_⟩
    rw [planR_late (sS S R) hc h4 h5 (fun k hk => by simpa using h3 k hk) h6 h7]
    exact ⟨rfl, rfl⟩
end Go.Proofs.YtijcbfhlhgjedaaDoor
