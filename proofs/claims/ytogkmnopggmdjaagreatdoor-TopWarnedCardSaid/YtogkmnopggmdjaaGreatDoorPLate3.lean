/- The document's plan and the plan: plain: late at the start, the greatest trigger. No program in sight. -/
import Derived.Test.YtogkmnopggmdjaaGreatDoorPPlanS
namespace Go.Proofs.YtogkmnopggmdjaaGreatDoor
open Go.RowKit Go.Shelf Go.Sort Go.Proofs

theorem rvs_at (Q : Int → Int) : ∀ (cs : List CallR) (s : Int) (i : Nat) (h : i < cs.length), (rvs Q s cs)[i]? = some (Q (cs[i]'h).place - (s + lsum cs 0 (i + 1)) - (cs[i]'h).lead)
  | [], _, _, h => by simp at h
  | c :: cs, s, 0, _ => by simp [rvs, lsum]
  | c :: cs, s, i + 1, h => by
    have hi : i < cs.length := by simpa using h
    rw [rvs, List.getElem?_cons_succ, rvs_at Q cs (s + c.lasts) i hi]
    have e : lsum (c :: cs) 0 (i + 1 + 1) = c.lasts + lsum cs 0 (i + 1) := by simp [lsum]
    rw [e]
    simp only [List.getElem_cons_succ]
    congr 1
    omega
theorem lsum_drop (cs : List CallR) (j k : Nat) : lsum (cs.drop j) 0 k = lsum cs j k := by simp [lsum]
theorem rvs_drop (Q : Int → Int) (cs : List CallR) (j i : Nat) (hj : j ≤ i) (h : i < cs.length) : (rvs Q 0 (cs.drop j))[i - j]? = some (Q (cs[i]'h).place - lsum cs j (i + 1 - j) - (cs[i]'h).lead) := by
  have hl : i - j < (cs.drop j).length := by rw [List.length_drop]; omega
  rw [rvs_at Q (cs.drop j) 0 (i - j) hl, lsum_drop, Int.zero_add]
  have e : j + (i - j) = i := by omega
  have e2 : i - j + 1 = i + 1 - j := by omega
  simp only [List.getElem_drop, e, e2]
/-- Late for a run at g no further than the call's place: the call's bound lies below the time at g. -/
theorem lateD_rvs {S : Spd} {R : Road} {cs : List CallR} {N : Int} (_hc : COK N cs) {j i g : Nat} (_hj : j ≤ i) (h : i < cs.length) (hg : (g : Int) ≤ (cs[i]'h).place) :
    lateD S R cs j i g = decide (qS S R (cs[i]'h).place - lsum cs j (i + 1 - j) - (cs[i]'h).lead < qS S R (g : Int)) := by
  unfold lateD
  rw [List.getElem?_eq_getElem h]
  simp only
  rw [decide_eq_false (by omega), Bool.false_or]
  refine decide_eq_decide.2 ?_
  unfold qS
  rw [Int.toNat_natCast]
  omega
theorem okTo_iff {S : Spd} {R : Road} {cs : List CallR} {j k g : Nat} : okTo S R cs j k g = true ↔ ∀ i, j ≤ i → i < k → lateD S R cs j i g = false := by
  unfold okTo
  rw [List.all_eq_true]
  constructor
  · intro h i h1 h2
    have := h i (List.mem_range'_1.2 ⟨h1, by omega⟩)
    simpa using this
  · intro h i hi
    obtain ⟨h1, h2⟩ := List.mem_range'_1.1 hi
    rw [h i h1 (by omega)]
    rfl
theorem lastN_congr {f g : Nat → Bool} : ∀ n, (∀ q, q ≤ n → f q = g q) → lastN f n = lastN g n
  | 0, _ => rfl
  | n + 1, h => by
    unfold lastN
    rw [h (n + 1) (Nat.le_refl _), lastN_congr n (fun q hq => h q (by omega))]
theorem place_mono {N : Int} {cs : List CallR} (hc : COK N cs) {j : Nat} : ∀ (d : Nat) (h : j + d < cs.length), (cs[j]'(by omega)).place ≤ (cs[j + d]'h).place
  | 0, _ => Int.le_refl _
  | d + 1, h => by
    have h1 := place_mono hc (j := j) d (by omega)
    have h2 := (hc.k (j + (d + 1)) h _ (List.getElem?_eq_getElem h)).2.2.2.2.2 _ (by omega) (List.getElem?_eq_getElem (show j + (d + 1) - 1 < cs.length by omega))
    have e : j + (d + 1) - 1 = j + d := by omega
    simp only [e] at h2
    omega
theorem rvs_mem3 {Q : Int → Int} {cs : List CallR} {j : Nat} (y : Int) : y ∈ rvs Q 0 (cs.drop j) ↔ ∃ i, ∃ h : i < cs.length, j ≤ i ∧ y = Q (cs[i]'h).place - lsum cs j (i + 1 - j) - (cs[i]'h).lead := by
  constructor
  · intro hy
    obtain ⟨k, hk, e⟩ := List.getElem_of_mem hy
    have hl := rvs_len Q 0 (cs.drop j)
    rw [List.length_drop] at hl
    have h1 : j + k < cs.length := by omega
    have h2 := rvs_drop Q cs j (j + k) (by omega) h1
    rw [show j + k - j = k by omega, List.getElem?_eq_getElem hk, e] at h2
    exact ⟨j + k, h1, by omega, by rw [Option.some.inj h2]⟩
  · rintro ⟨i, h, hj, rfl⟩
    exact List.mem_of_getElem? (rvs_drop Q cs j i hj h)
theorem okTo_room {S : Spd} {R : Road} {cs : List CallR} (hS : SOK S) (hv : OK R) (hc : COK (sumL R.ps) cs) {j p : Nat} (hj : j < cs.length) (hp : (cs[j]'hj).place = (p : Int)) {q : Nat} (hq : q ≤ p) :
    okTo S R cs j cs.length q = decide (qS S R (q : Int) ≤ roomM (qS S R) (cs.drop j)) := by
  have hpl := (hc.k j hj _ (List.getElem?_eq_getElem hj)).1
  rw [hp] at hpl
  simp only [inR, Bool.and_eq_true, decide_eq_true_eq] at hpl
  have hn := hv.n1
  have hb := (tQS_bd hS hv q (by omega)).1
  have hle : ∀ i (h : i < cs.length), j ≤ i → (q : Int) ≤ (cs[i]'h).place := by
    intro i h hji
    have h1 := place_mono hc (j := j) (i - j) (by omega)
    have e : j + (i - j) = i := by omega
    simp only [e] at h1
    omega
  rw [Bool.eq_iff_iff, okTo_iff, decide_eq_true_eq]
  unfold roomM
  rw [le_minL]
  constructor
  · intro h
    refine ⟨by unfold qS maxM; rw [Int.toNat_natCast]; omega, fun y hy => ?_⟩
    obtain ⟨i, hi, hji, rfl⟩ := (rvs_mem3 y).1 hy
    have h1 := h i hji hi
    rw [lateD_rvs hc hji hi (hle i hi hji), decide_eq_false_iff_not] at h1
    omega
  · rintro ⟨_, h⟩ i hji hi
    have h1 := h _ ((rvs_mem3 _).2 ⟨i, hi, hji, rfl⟩)
    rw [lateD_rvs hc hji hi (hle i hi hji), decide_eq_false_iff_not]
    omega
theorem late_zero {S : Spd} {R : Road} {cs : List CallR} (hc : COK (sumL R.ps) cs) {j i : Nat} (hj : j ≤ i) (h : i < cs.length) :
    ∃ r, (rvs (qS S R) 0 (cs.drop j))[i - j]? = some r ∧ lateD S R cs j i 0 = decide (r < 0) := by
  refine ⟨_, rvs_drop (qS S R) cs j i hj h, ?_⟩
  have hpl := (hc.k i h _ (List.getElem?_eq_getElem h)).1
  simp only [inR, Bool.and_eq_true, decide_eq_true_eq] at hpl
  rw [lateD_rvs hc hj h (by omega)]
  have e : qS S R ((0 : Nat) : Int) = 0 := by unfold qS; rw [Int.toNat_natCast]; exact tQ_zero S R.ps
  rw [e]
theorem lateM_none {S : Spd} {R : Road} {cs : List CallR} (hc : COK (sumL R.ps) cs) {j : Nat} (h : okTo S R cs j cs.length 0 = true) : lateM (qS S R) (cs.drop j) = none := by
  unfold lateM
  rw [List.findIdx?_eq_none_iff]
  intro y hy
  obtain ⟨k, hk, e⟩ := List.getElem_of_mem hy
  have hl := rvs_len (qS S R) 0 (cs.drop j)
  rw [List.length_drop] at hl
  obtain ⟨r, h1, h2⟩ := late_zero hc (S := S) (j := j) (i := j + k) (by omega) (by omega)
  rw [okTo_iff.1 h (j + k) (by omega) (by omega)] at h2
  rw [show j + k - j = k by omega, List.getElem?_eq_getElem hk, e] at h1
  cases h1
  exact h2.symm
theorem lateM_some {S : Spd} {R : Road} {cs : List CallR} (hc : COK (sumL R.ps) cs) {j i : Nat} (hj : j ≤ i) (hi : i < cs.length) (h : okTo S R cs j i 0 = true) (hl : lateD S R cs j i 0 = true) : lateM (qS S R) (cs.drop j) = some (i - j) := by
  unfold lateM
  rw [List.findIdx?_eq_some_iff_getElem]
  have hl0 := rvs_len (qS S R) 0 (cs.drop j)
  rw [List.length_drop] at hl0
  have hk : i - j < (rvs (qS S R) 0 (cs.drop j)).length := by omega
  refine ⟨hk, ?_, fun m hm => ?_⟩
  · obtain ⟨r, h1, h2⟩ := late_zero hc (S := S) hj hi
    rw [List.getElem?_eq_getElem hk] at h1
    rw [Option.some.inj h1, ← h2, hl]
  · have hm2 : m < (rvs (qS S R) 0 (cs.drop j)).length := by omega
    obtain ⟨r, h1, h2⟩ := late_zero hc (S := S) (j := j) (i := j + m) (by omega) (by omega)
    rw [okTo_iff.1 h (j + m) (by omega) (by omega)] at h2
    rw [show j + m - j = m by omega, List.getElem?_eq_getElem hm2] at h1
    rw [Option.some.inj h1, ← h2]
    simp
/-- The first late pair is the plan's clash. -/
theorem planA_late {S : Spd} {R : Road} {cs : List CallR} (Mo : Int → Int) (hc : COK (sumL R.ps) cs) {j i : Nat} (hj : j ≤ i) (hi : i < cs.length) (hok : ∀ k, k < j → okTo S R cs k cs.length 0 = true) (h : okTo S R cs j i 0 = true) (hl : lateD S R cs j i 0 = true) :
    ∀ d : Nat, d ≤ j → planA (qS S R) Mo (j - d) (cs.drop (j - d)) = .inl (j, i)
  | 0, _ => by
    rw [Nat.sub_zero]
    have h1 := lateM_some hc hj hi h hl
    rw [List.drop_eq_getElem_cons (by omega)] at h1 ⊢
    simp only [planA, h1]
    rw [show j + (i - j) = i by omega]
  | d + 1, hd => by
    have ih := planA_late Mo hc hj hi hok h hl d (by omega)
    have h1 := lateM_none hc (hok (j - (d + 1)) (by omega))
    have hlt : j - (d + 1) < cs.length := by omega
    rw [List.drop_eq_getElem_cons hlt] at h1 ⊢
    rw [show j - (d + 1) + 1 = j - d by omega] at h1 ⊢
    simp only [planA, h1]
    rw [show j - (d + 1) + 1 = j - d by omega, ih]
theorem planR_late {S : Spd} {R : Road} {cs : List CallR} (Mo : Int → Int) (hc : COK (sumL R.ps) cs) {j i : Nat} (hj : j ≤ i) (hi : i < cs.length) (hok : ∀ k, k < j → okTo S R cs k cs.length 0 = true) (h : okTo S R cs j i 0 = true) (hl : lateD S R cs j i 0 = true) :
    planR (qS S R) Mo cs = ([], ⟨j, i, false⟩, 5) := by
  have h1 := planA_late Mo hc hj hi hok h hl j (Nat.le_refl _)
  rw [Nat.sub_self, List.drop_zero] at h1
  unfold planR
  rw [h1]
/-- The trigger of call j. -/
def trigAt (Q : Int → Int) (cs : List CallR) (j : Nat) : Nat := match cs[j]? with
  | some c => trigM Q c (cs.drop (j + 1))
  | none => 0
/-- Call j's trigger is too far ahead of it. -/
def earlyAt (Q Mo : Int → Int) (cs : List CallR) (j : Nat) : Bool := match cs[j]? with
  | some c => decide (Mo (trigAt Q cs j) + c.ahead < Mo c.place)
  | none => false
theorem planA_fine {S : Spd} {R : Road} {cs : List CallR} (Mo : Int → Int) (hc : COK (sumL R.ps) cs) (hok : ∀ k, k < cs.length → okTo S R cs k cs.length 0 = true) :
    ∀ d : Nat, d ≤ cs.length → planA (qS S R) Mo (cs.length - d) (cs.drop (cs.length - d)) =
      .inr ((List.range' (cs.length - d) d).map fun j => (trigAt (qS S R) cs j : Int), (List.range' (cs.length - d) d).find? (earlyAt (qS S R) Mo cs))
  | 0, _ => by
    rw [Nat.sub_zero, List.drop_length]
    rfl
  | d + 1, hd => by
    have ih := planA_fine Mo hc hok d (by omega)
    have hlt : cs.length - (d + 1) < cs.length := by omega
    have h1 := lateM_none hc (hok (cs.length - (d + 1)) hlt)
    have e1 : cs.length - (d + 1) + 1 = cs.length - d := by omega
    have e2 : trigAt (qS S R) cs (cs.length - (d + 1)) = trigM (qS S R) (cs[cs.length - (d + 1)]'hlt) (cs.drop (cs.length - (d + 1) + 1)) := by
      unfold trigAt
      rw [List.getElem?_eq_getElem hlt]
    have e3 : earlyAt (qS S R) Mo cs (cs.length - (d + 1)) = decide (Mo (trigAt (qS S R) cs (cs.length - (d + 1))) + (cs[cs.length - (d + 1)]'hlt).ahead < Mo (cs[cs.length - (d + 1)]'hlt).place) := by
      unfold earlyAt
      rw [List.getElem?_eq_getElem hlt]
    rw [List.range'_succ, List.map_cons, List.find?_cons, e3]
    rw [List.drop_eq_getElem_cons hlt] at h1 ⊢
    simp only [planA, h1]
    rw [← e2, e1, ih]
    dsimp only
    by_cases hb : Mo (trigAt (qS S R) cs (cs.length - (d + 1))) + (cs[cs.length - (d + 1)]'hlt).ahead < Mo (cs[cs.length - (d + 1)]'hlt).place
    · simp only [if_pos hb, decide_eq_true hb]
    · simp only [if_neg hb, decide_eq_false hb]
theorem planR_early {S : Spd} {R : Road} {cs : List CallR} (Mo : Int → Int) (hc : COK (sumL R.ps) cs) (hok : ∀ k, k < cs.length → okTo S R cs k cs.length 0 = true) {j : Nat} (hj : j < cs.length) (hb : ∀ k, k < j → earlyAt (qS S R) Mo cs k = false) (he : earlyAt (qS S R) Mo cs j = true) :
    planR (qS S R) Mo cs = ([], ⟨j, j, true⟩, 5) := by
  have h1 := planA_fine Mo hc hok cs.length (Nat.le_refl _)
  rw [Nat.sub_self, List.drop_zero] at h1
  have h2 : (List.range' 0 cs.length).find? (earlyAt (qS S R) Mo cs) = some j := by
    rw [List.find?_eq_some_iff_getElem]
    refine ⟨he, j, by simpa using hj, by simp, fun k hk => ?_⟩
    simpa using hb k hk
  unfold planR
  rw [h1, h2]
theorem planR_fine {S : Spd} {R : Road} {cs : List CallR} (Mo : Int → Int) (hc : COK (sumL R.ps) cs) (hok : ∀ k, k < cs.length → okTo S R cs k cs.length 0 = true) (hb : ∀ k, k < cs.length → earlyAt (qS S R) Mo cs k = false) :
    planR (qS S R) Mo cs = ((List.range' 0 cs.length).map fun j => (trigAt (qS S R) cs j : Int), ⟨0, 0, false⟩, 0) := by
  have h1 := planA_fine Mo hc hok cs.length (Nat.le_refl _)
  rw [Nat.sub_self, List.drop_zero] at h1
  have h2 : (List.range' 0 cs.length).find? (earlyAt (qS S R) Mo cs) = none := by
    rw [List.find?_eq_none]
    intro k hk
    have := (List.mem_range'_1.1 hk).2
    rw [hb k (by omega)]
    simp
  unfold planR
  rw [h1, h2]
end Go.Proofs.YtogkmnopggmdjaaGreatDoor

/- A good plan as the document says it: plain. No program in sight. -/
namespace Go.Proofs.YtogkmnopggmdjaaGreatDoor
open Go.RowKit Go.Shelf Go.Sort Go.Proofs

/-- What the document asks of the trigger of call j. -/
def goodAt (S : Spd) (R : Road) (cs : List CallR) (ls : List Int) (j : Nat) : Bool := match cs[j]?, ls[j]? with
  | some c, some p => okTo S R cs j cs.length p.toNat && !decide (c.ahead < sS S R c.place - sS S R p)
  | _, _ => true
end Go.Proofs.YtogkmnopggmdjaaGreatDoor

/- The latest plan is good, no good plan has a greater trigger, and where there is none no plan is good: plain. No program in sight. -/
namespace Go.Proofs.YtogkmnopggmdjaaGreatDoor
open Go.RowKit Go.Shelf Go.Sort Go.Proofs

theorem first_true {f : Nat → Bool} : ∀ n, (∃ j, j < n ∧ f j = true) → ∃ j, j < n ∧ f j = true ∧ ∀ k, k < j → f k = false
  | 0, ⟨j, h, _⟩ => absurd h (Nat.not_lt_zero _)
  | n + 1, ⟨j, h, hf⟩ => by
    by_cases hn : ∃ j, j < n ∧ f j = true
    · obtain ⟨k, h1, h2, h3⟩ := first_true n hn
      exact ⟨k, by omega, h2, h3⟩
    · have hjn : j = n := by
        rcases Nat.lt_or_ge j n with h1 | h1
        · exact absurd ⟨j, h1, hf⟩ hn
        · omega
      exact ⟨j, h, hf, fun k hk => by rw [Bool.eq_false_iff]; intro q; exact hn ⟨k, by omega, q⟩⟩
/-- The triggers of the latest plan. -/
def trigsL (S : Spd) (R : Road) (cs : List CallR) : List Int := (List.range' 0 cs.length).map fun j => (trigAt (qS S R) cs j : Int)
theorem trigsL_len (S : Spd) (R : Road) (cs : List CallR) : (trigsL S R cs).length = cs.length := by simp [trigsL]
theorem trigsL_at (S : Spd) (R : Road) (cs : List CallR) {j : Nat} (h : j < cs.length) : (trigsL S R cs)[j]? = some (trigAt (qS S R) cs j : Int) := by
  simp [trigsL, h]
/-- All calls can be read from the start on. -/
def allOk (S : Spd) (R : Road) (cs : List CallR) : Prop := ∀ k, k < cs.length → okTo S R cs k cs.length 0 = true
theorem okTo_first {S : Spd} {R : Road} {cs : List CallR} {j : Nat} (hf : okTo S R cs j cs.length 0 = false) : ∃ i, j ≤ i ∧ i < cs.length ∧ okTo S R cs j i 0 = true ∧ lateD S R cs j i 0 = true := by
  have hex : ∃ i, i < cs.length ∧ (decide (j ≤ i) && lateD S R cs j i 0) = true := by
    apply Classical.byContradiction
    intro hn
    have : okTo S R cs j cs.length 0 = true := okTo_iff.2 fun i h1 h2 => by
      rw [Bool.eq_false_iff]
      intro q
      exact hn ⟨i, h2, by rw [decide_eq_true h1, q]; rfl⟩
    rw [hf] at this
    cases this
  obtain ⟨i, h1, h2, h3⟩ := first_true cs.length hex
  rw [Bool.and_eq_true, decide_eq_true_eq] at h2
  refine ⟨i, h2.1, h1, okTo_iff.2 fun k hk1 hk2 => ?_, h2.2⟩
  have := h3 k hk2
  rw [decide_eq_true hk1, Bool.true_and] at this
  exact this
theorem plan_cases {S : Spd} {R : Road} {cs : List CallR} (hc : COK (sumL R.ps) cs) :
    (((∃ j i, j ≤ i ∧ i < cs.length ∧ lateD S R cs j i 0 = true) ∨ (allOk S R cs ∧ ∃ j, j < cs.length ∧ earlyAt (qS S R) (sS S R) cs j = true)) ∧ (planR (qS S R) (sS S R) cs).1 = [] ∧ (planR (qS S R) (sS S R) cs).2.2 = 5) ∨
    ((allOk S R cs ∧ ∀ j, j < cs.length → earlyAt (qS S R) (sS S R) cs j = false) ∧ planR (qS S R) (sS S R) cs = (trigsL S R cs, ⟨0, 0, false⟩, 0)) := by
  by_cases hall : allOk S R cs
  · by_cases hea : ∃ j, j < cs.length ∧ earlyAt (qS S R) (sS S R) cs j = true
    · obtain ⟨j, h1, h2, h3⟩ := first_true cs.length hea
      refine .inl ⟨.inr ⟨hall, hea⟩, ?_⟩
      rw [planR_early (sS S R) hc hall h1 h3 h2]
      exact ⟨rfl, rfl⟩
    · have hno : ∀ j, j < cs.length → earlyAt (qS S R) (sS S R) cs j = false := fun j hj => by rw [Bool.eq_false_iff]; intro q; exact hea ⟨j, hj, q⟩
      exact .inr ⟨⟨hall, hno⟩, planR_fine (sS S R) hc hall hno⟩
  · have hex : ∃ j, j < cs.length ∧ (!okTo S R cs j cs.length 0) = true := by
      apply Classical.byContradiction
      intro hn
      exact hall fun k hk => by
        cases hq : okTo S R cs k cs.length 0
        · exact absurd ⟨k, hk, by rw [hq]; rfl⟩ hn
        · rfl
    obtain ⟨j, h1, h2, h3⟩ := first_true cs.length hex
    obtain ⟨i, h4, h5, h6, h7⟩ := okTo_first (S := S) (R := R) (cs := cs) (j := j) (by simpa using h2)
    refine .inl ⟨.inl ⟨j, i, h4, h5, h7⟩, ?_⟩
    rw [planR_late (sS S R) hc h4 h5 (fun k hk => by simpa using h3 k hk) h6 h7]
    exact ⟨rfl, rfl⟩
/-- A meter of a road takes some time. -/
theorem meter_at {S : Spd} {R : Road} (hS : SOK S) (hv : OK R) {k : Nat} (hk : (k : Int) < sumL R.ps) : ∃ p, pOk p = true ∧ (units R.ps)[k]? = some (one p) ∧ (0 ≤ mQ S (one p) ∧ mQ S (one p) ≤ 10000000) ∧ 1 ≤ mSl S (one p) ∧ mSl S (one p) ≤ 10000700 := by
  obtain ⟨i, hat⟩ := at_ex (ps := R.ps) (x := (k : Int)) (by omega) hk
  have hpi := List.getElem?_eq_getElem hat.1
  have hux := at_units (fun q hq => by have := pOk_len (hv.pk q hq); omega) (by omega) hat hpi
  rw [Int.toNat_natCast] at hux
  have hp := hv.pk _ (List.getElem_mem hat.1)
  refine ⟨_, hp, hux, ?_⟩
  rw [mQ_one, mSl_one]
  exact ⟨mQ_bd hS hp, mSl_bd hS hp⟩
theorem tok_at {R : Road} {cs : List CallR} {ls : List Int} (hc : COK (sumL R.ps) cs) (ht : TOK (sumL R.ps) cs.length ls) {j : Nat} (hj : j < cs.length) : ∃ (q z : Nat), ls[j]? = some (q : Int) ∧ (q : Int) ≤ sumL R.ps ∧ (cs[j]'hj).place = (z : Int) ∧ (z : Int) ≤ sumL R.ps := by
  have h' : j < ls.length := by rw [ht.l]; exact hj
  have hp := (ht.t j h' _ (List.getElem?_eq_getElem h')).1
  have hpl := (hc.k j hj _ (List.getElem?_eq_getElem hj)).1
  simp only [inR, Bool.and_eq_true, decide_eq_true_eq] at hp hpl
  refine ⟨(ls[j]'h').toNat, (cs[j]'hj).place.toNat, ?_, by omega, by omega, by omega⟩
  rw [List.getElem?_eq_getElem h', Int.toNat_of_nonneg hp.1]
theorem goodAt_iff {S : Spd} {R : Road} {cs : List CallR} {ls : List Int} {j q z : Nat} (hj : j < cs.length) (hq : ls[j]? = some (q : Int)) (hz : (cs[j]'hj).place = (z : Int)) :
    goodAt S R cs ls j = true ↔ okTo S R cs j cs.length q = true ∧ tSl S R.ps z - tSl S R.ps q ≤ (cs[j]'hj).ahead := by
  unfold goodAt
  rw [List.getElem?_eq_getElem hj, hq]
  dsimp only
  unfold sS
  rw [hz, Int.toNat_natCast, Int.toNat_natCast, Bool.and_eq_true, Bool.not_eq_true', decide_eq_false_iff_not]
  exact ⟨fun ⟨a, b⟩ => ⟨a, by omega⟩, fun ⟨a, b⟩ => ⟨a, by omega⟩⟩
theorem ok_place {S : Spd} {R : Road} {cs : List CallR} {j q z : Nat} (hj : j < cs.length) (hz : (cs[j]'hj).place = (z : Int)) (h : okTo S R cs j cs.length q = true) : q ≤ z := by
  have h1 := okTo_iff.1 h j (Nat.le_refl _) hj
  unfold lateD at h1
  rw [List.getElem?_eq_getElem hj] at h1
  simp only [Bool.or_eq_false_iff, decide_eq_false_iff_not] at h1
  omega
theorem trigAt_eq {S : Spd} {R : Road} {cs : List CallR} {j z : Nat} (hS : SOK S) (hv : OK R) (hc : COK (sumL R.ps) cs) (hj : j < cs.length) (hz : (cs[j]'hj).place = (z : Int)) :
    trigAt (qS S R) cs j = lastN (fun q => okTo S R cs j cs.length q) z := by
  unfold trigAt
  rw [List.getElem?_eq_getElem hj]
  dsimp only
  unfold trigM
  rw [hz, Int.toNat_natCast, ← List.drop_eq_getElem_cons hj]
  exact (lastN_congr z fun q hq => okTo_room hS hv hc hj hz hq).symm
theorem okRoom {S : Spd} {R : Road} {cs : List CallR} (hS : SOK S) (hv : OK R) (hc : COK (sumL R.ps) cs) {j z : Nat} (hj : j < cs.length) (hz : (cs[j]'hj).place = (z : Int)) (h : okTo S R cs j cs.length 0 = true) : qS S R 0 ≤ roomM (qS S R) (cs.drop j) := by
  rw [okTo_room hS hv hc hj hz (Nat.zero_le z), decide_eq_true_eq] at h
  exact h
/-- The latest plan is a plan. -/
theorem trigs_ok {S : Spd} {R : Road} {cs : List CallR} (hS : SOK S) (hv : OK R) (hc : COK (sumL R.ps) cs) (h : allOk S R cs) : TOK (sumL R.ps) cs.length (trigsL S R cs) := by
  refine ⟨trigsL_len S R cs, fun j hj x hx => ?_⟩
  rw [trigsL_len] at hj
  rw [trigsL_at S R cs hj] at hx
  cases hx
  have hpl := (hc.k j hj _ (List.getElem?_eq_getElem hj)).1
  simp only [inR, Bool.and_eq_true, decide_eq_true_eq] at hpl
  obtain ⟨z, hz⟩ : ∃ z : Nat, (cs[j]'hj).place = (z : Int) := ⟨((cs[j]'hj).place).toNat, by omega⟩
  have h1 := trigAt_eq hS hv hc hj hz
  have h2 := lastN_le (fun q => okTo S R cs j cs.length q) z
  refine ⟨by simp [inR]; omega, fun y h0 hy => ?_⟩
  have hj1 : j - 1 < cs.length := by omega
  rw [trigsL_at S R cs hj1] at hy
  cases hy
  have hl := (lasts_bd hc (j - 1) hj1).1
  have hpp := place_mono hc (j := j - 1) 1 (by omega)
  simp only [show j - 1 + 1 = j by omega] at hpp
  have hz1 : 0 ≤ (cs[j - 1]'hj1).place := by
    have := (hc.k (j - 1) hj1 _ (List.getElem?_eq_getElem hj1)).1
    simp only [inR, Bool.and_eq_true, decide_eq_true_eq] at this
    exact this.1
  have hr := okRoom hS hv hc hj1 (z := ((cs[j - 1]'hj1).place).toNat) (by omega) (h (j - 1) hj1)
  rw [List.drop_eq_getElem_cons hj1, show j - 1 + 1 = j by omega, List.drop_eq_getElem_cons hj] at hr
  have := trig_mono hl hpp hr
  unfold trigAt
  rw [List.getElem?_eq_getElem hj, List.getElem?_eq_getElem hj1]
  dsimp only
  rw [show j - 1 + 1 = j by omega, List.drop_eq_getElem_cons hj]
  omega
/-- The latest plan is good. -/
theorem trigs_good {S : Spd} {R : Road} {cs : List CallR} (hS : SOK S) (hv : OK R) (hc : COK (sumL R.ps) cs) (h : allOk S R cs) (he : ∀ j, j < cs.length → earlyAt (qS S R) (sS S R) cs j = false) : ∀ j, j < cs.length → goodAt S R cs (trigsL S R cs) j = true := by
  intro j hj
  obtain ⟨q, z, h1, h2, h3, h4⟩ := tok_at hc (trigs_ok hS hv hc h) hj
  have hq := (trigsL_at S R cs hj).symm.trans h1
  obtain rfl : trigAt (qS S R) cs j = q := by have := Option.some.inj hq; omega
  refine (goodAt_iff hj h1 h3).2 ⟨?_, ?_⟩
  · rw [trigAt_eq hS hv hc hj h3]
    exact lastN_holds (fun q => okTo S R cs j cs.length q) (h j hj) z
  · have := he j hj
    unfold earlyAt at this
    rw [List.getElem?_eq_getElem hj] at this
    dsimp only at this
    rw [decide_eq_false_iff_not, h3] at this
    unfold sS at this
    rw [Int.toNat_natCast, Int.toNat_natCast] at this
    omega
end Go.Proofs.YtogkmnopggmdjaaGreatDoor
