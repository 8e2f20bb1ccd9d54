/- Edits applied, plain: a correction, applied, gives the other list; it has the least number of edits; which edits are as defined. No program in sight. -/
import Derived.Test.YtnmipejpjeakbaaGreatDoorPNList
namespace Go.Proofs.YtnmipejpjeakbaaGreatDoor

/-- The edits of a place: the notes they lay there, whether the note there stays, the edits behind. -/
def eAt (i : Int) : List EdR → List NoteR × Bool × List EdR
  | [] => ([], true, [])
  | e :: l => if e.at_ = i then ((if e.kd = 2 then (eAt i l).1 else e.nt :: (eAt i l).1), (e.kd == 1) && (eAt i l).2.1, (eAt i l).2.2) else ([], true, e :: l)
/-- Notes with edits applied, from a place on. -/
def apE (i : Int) : List NoteR → List EdR → List NoteR
  | [], l => (eAt i l).1
  | x :: a, l => (eAt i l).1 ++ ((if (eAt i l).2.1 then [x] else []) ++ apE (i + 1) a (eAt i l).2.2)
theorem apE_ins (i : Int) (a : List NoteR) (y : NoteR) (l : List EdR) : apE i a (⟨i, 1, y⟩ :: l) = y :: apE i a l := by
  cases a <;> simp [apE, eAt]
theorem mnd_nil (i : Int) : mnd i [] [] = [] := by rw [mnd]
theorem mnd_ins (i : Int) (y : NoteR) (b : List NoteR) : mnd i [] (y :: b) = ⟨i, 1, y⟩ :: mnd i [] b := by rw [mnd]
theorem mnd_del (i : Int) (x : NoteR) (a : List NoteR) : mnd i (x :: a) [] = ⟨i, 2, ⟨0, 0, 0, 0, 0, 0, 0, 0, 0, 0⟩⟩ :: mnd (i + 1) a [] := by rw [mnd]
theorem mnd_cons (i : Int) (x y : NoteR) (a b : List NoteR) : mnd i (x :: a) (y :: b) =
    if x = y ∧ cst a b = cst (x :: a) (y :: b) then mnd (i + 1) a b
    else if cst a b + 1 = cst (x :: a) (y :: b) then ⟨i, 3, y⟩ :: mnd (i + 1) a b
    else if cst a (y :: b) + 1 = cst (x :: a) (y :: b) then ⟨i, 2, ⟨0, 0, 0, 0, 0, 0, 0, 0, 0, 0⟩⟩ :: mnd (i + 1) a (y :: b)
    else ⟨i, 1, y⟩ :: mnd i (x :: a) b := by rw [mnd]
/-- The edits from a place on lie there or behind. -/
theorem mnd_ge : ∀ (k : Nat) (i : Int) (a b : List NoteR), a.length + b.length ≤ k → ∀ e ∈ mnd i a b, i ≤ e.at_
  | _, i, [], [], _, e, h => by rw [mnd_nil] at h; cases h
  | 0, i, [], y :: b, h, _, _ => by simp at h
  | 0, i, x :: a, _, h, _, _ => by simp at h
  | k + 1, i, [], y :: b, h, e, he => by
    rw [mnd_ins] at he
    rcases List.mem_cons.1 he with rfl | he
    · exact Int.le_refl _
    · exact mnd_ge k i [] b (by simp at h ⊢; omega) e he
  | k + 1, i, x :: a, [], h, e, he => by
    rw [mnd_del] at he
    rcases List.mem_cons.1 he with rfl | he
    · exact Int.le_refl _
    · have := mnd_ge k (i + 1) a [] (by simp at h ⊢; omega) e he
      omega
  | k + 1, i, x :: a, y :: b, h, e, he => by
    simp only [List.length_cons] at h
    have h1 := fun he => mnd_ge k (i + 1) a b (by omega) e he
    have h2 := fun he => mnd_ge k (i + 1) a (y :: b) (by simp; omega) e he
    have h3 := fun he => mnd_ge k i (x :: a) b (by simp; omega) e he
    rw [mnd_cons] at he
    split at he
    · have := h1 he; omega
    · split at he
      · rcases List.mem_cons.1 he with rfl | he
        · exact Int.le_refl _
        · have := h1 he; omega
      · split at he
        · rcases List.mem_cons.1 he with rfl | he
          · exact Int.le_refl _
          · have := h2 he; omega
        · rcases List.mem_cons.1 he with rfl | he
          · exact Int.le_refl _
          · exact h3 he
theorem eAt_none (i : Int) (l : List EdR) (h : ∀ e ∈ l, i + 1 ≤ e.at_) : eAt i l = ([], true, l) := by
  cases l with
  | nil => rfl
  | cons e l =>
    have := h e (by simp)
    rw [eAt, if_neg (by omega)]
/-- A correction, applied, gives the other list. -/
theorem ap_mnd : ∀ (k : Nat) (i : Int) (a b : List NoteR), a.length + b.length ≤ k → apE i a (mnd i a b) = b
  | _, i, [], [], _ => by rw [mnd_nil]; rfl
  | 0, i, [], y :: b, h => by simp at h
  | 0, i, x :: a, _, h => by simp at h
  | k + 1, i, [], y :: b, h => by
    rw [mnd_ins, apE_ins, ap_mnd k i [] b (by simp at h ⊢; omega)]
  | k + 1, i, x :: a, [], h => by
    simp only [List.length_cons] at h
    rw [mnd_del, apE, eAt, if_pos rfl, eAt_none i _ (mnd_ge _ (i + 1) a [] (Nat.le_refl _))]
    simp only [if_pos]
    rw [ap_mnd k (i + 1) a [] (by simp at h ⊢; omega)]
    rfl
  | k + 1, i, x :: a, y :: b, h => by
    simp only [List.length_cons] at h
    rw [mnd_cons]
    split
    · rename_i hc
      rw [apE, eAt_none i _ (mnd_ge _ (i + 1) a b (Nat.le_refl _)), ap_mnd k (i + 1) a b (by omega), hc.1]
      rfl
    · split
      · rw [apE, eAt, if_pos rfl, eAt_none i _ (mnd_ge _ (i + 1) a b (Nat.le_refl _)), ap_mnd k (i + 1) a b (by omega)]
        rfl
      · split
        · rw [apE, eAt, if_pos rfl, eAt_none i _ (mnd_ge _ (i + 1) a (y :: b) (Nat.le_refl _)), ap_mnd k (i + 1) a (y :: b) (by simp; omega)]
          rfl
        · rw [apE_ins, ap_mnd k i (x :: a) b (by simp; omega)]
/-- A correction has as few edits as possible. -/
theorem mnd_len : ∀ (k : Nat) (i : Int) (a b : List NoteR), a.length + b.length ≤ k → (mnd i a b).length = cst a b
  | _, i, [], [], _ => by rw [mnd_nil, cst_nil]; rfl
  | 0, i, [], y :: b, h => by simp at h
  | 0, i, x :: a, _, h => by simp at h
  | k + 1, i, [], y :: b, h => by
    rw [mnd_ins, List.length_cons, mnd_len k i [] b (by simp at h ⊢; omega), cst_nil, cst_nil, List.length_cons]
  | k + 1, i, x :: a, [], h => by
    rw [mnd_del, List.length_cons, mnd_len k (i + 1) a [] (by simp at h ⊢; omega), cst_nil', cst_nil', List.length_cons]
  | k + 1, i, x :: a, y :: b, h => by
    simp only [List.length_cons] at h
    rw [mnd_cons]
    split
    · rename_i hc
      rw [mnd_len k (i + 1) a b (by omega), hc.2]
    · split
      · rename_i hc
        rw [List.length_cons, mnd_len k (i + 1) a b (by omega), hc]
      · split
        · rename_i hc
          rw [List.length_cons, mnd_len k (i + 1) a (y :: b) (by simp; omega), hc]
        · rename_i h1 h2 h3
          rw [List.length_cons, mnd_len k i (x :: a) b (by simp; omega)]
          rw [cst_cons] at h1 h2 h3 ⊢
          by_cases hxy : x = y
          · rw [if_pos hxy] at h1; exact absurd ⟨hxy, rfl⟩ h1
          · rw [if_neg hxy] at h2 h3 ⊢
            omega
theorem cst_zero : ∀ (a b : List NoteR), cst a b = 0 ↔ a = b
  | [], b => by rw [cst_nil]; cases b <;> simp
  | x :: a, [] => by rw [cst_nil']; simp
  | x :: a, y :: b => by
    rw [cst_cons]
    split
    · rename_i h
      rw [cst_zero a b, h]
      simp
    · rename_i h
      constructor
      · intro hh; omega
      · intro hh; injection hh with h1 _; exact absurd h1 h
theorem mnd_mem : ∀ (k : Nat) (i : Int) (a b : List NoteR), a.length + b.length ≤ k → ∀ e ∈ mnd i a b, (e.kd = 2 ∧ e.nt = ⟨0, 0, 0, 0, 0, 0, 0, 0, 0, 0⟩ ∨ (e.kd = 1 ∨ e.kd = 3) ∧ e.nt ∈ b) ∧ e.at_ ≤ i + a.length ∧ (e.kd ≠ 1 → e.at_ < i + a.length)
  | _, i, [], [], _, e, h => by rw [mnd_nil] at h; cases h
  | 0, i, [], y :: b, h, _, _ => by simp at h
  | 0, i, x :: a, _, h, _, _ => by simp at h
  | k + 1, i, [], y :: b, h, e, he => by
    rw [mnd_ins] at he
    rcases List.mem_cons.1 he with rfl | he
    · exact ⟨.inr ⟨.inl rfl, by simp⟩, by simp, fun hh => absurd rfl hh⟩
    · obtain ⟨h1, h2⟩ := mnd_mem k i [] b (by simp at h ⊢; omega) e he
      exact ⟨h1.imp id (fun q => ⟨q.1, by simp [q.2]⟩), h2⟩
  | k + 1, i, x :: a, [], h, e, he => by
    rw [mnd_del] at he
    simp only [List.length_cons]
    rcases List.mem_cons.1 he with rfl | he
    · exact ⟨.inl ⟨rfl, rfl⟩, by simp; omega, fun _ => by simp; omega⟩
    · obtain ⟨h1, h2, h3⟩ := mnd_mem k (i + 1) a [] (by simp at h ⊢; omega) e he
      exact ⟨h1, by omega, fun q => by have := h3 q; omega⟩
  | k + 1, i, x :: a, y :: b, h, e, he => by
    simp only [List.length_cons] at h
    have h1 := fun he => mnd_mem k (i + 1) a b (by omega) e he
    have h2 := fun he => mnd_mem k (i + 1) a (y :: b) (by simp; omega) e he
    have h3 := fun he => mnd_mem k i (x :: a) b (by simp; omega) e he
    have w1 : ∀ {p : Prop}, (p ∨ (e.kd = 1 ∨ e.kd = 3) ∧ e.nt ∈ b) → (p ∨ (e.kd = 1 ∨ e.kd = 3) ∧ e.nt ∈ y :: b) := fun q => q.imp id (fun q => ⟨q.1, by simp [q.2]⟩)
    rw [mnd_cons] at he
    simp only [List.length_cons] at h1 h2 h3 ⊢
    split at he
    · obtain ⟨q1, q2, q3⟩ := h1 he; exact ⟨w1 q1, by omega, fun q => by have := q3 q; omega⟩
    · split at he
      · rcases List.mem_cons.1 he with rfl | he
        · exact ⟨.inr ⟨.inr rfl, by simp⟩, by simp; omega, fun _ => by simp; omega⟩
        · obtain ⟨q1, q2, q3⟩ := h1 he; exact ⟨w1 q1, by omega, fun q => by have := q3 q; omega⟩
      · split at he
        · rcases List.mem_cons.1 he with rfl | he
          · exact ⟨.inl ⟨rfl, rfl⟩, by simp; omega, fun _ => by simp; omega⟩
          · obtain ⟨q1, q2, q3⟩ := h2 he; exact ⟨q1, by omega, fun q => by have := q3 q; omega⟩
        · rcases List.mem_cons.1 he with rfl | he
          · exact ⟨.inr ⟨.inl rfl, by simp⟩, by simp; omega, fun hh => absurd rfl hh⟩
          · obtain ⟨q1, q2, q3⟩ := h3 he; exact ⟨w1 q1, q2, q3⟩
def zN (n : NoteR) : Prop := n = ⟨0, 0, 0, 0, 0, 0, 0, 0, 0, 0⟩
/-- One edit, by itself: as defined for a list of n notes. -/
def edOne (n : Nat) (e : EdR) : Bool :=
  if e.kd = 1 then decide (0 ≤ e.at_ ∧ e.at_ ≤ n) && nVal e.nt
  else if e.kd = 2 then decide (0 ≤ e.at_ ∧ e.at_ ≤ (n : Int) - 1) && decide (e.nt = ⟨0, 0, 0, 0, 0, 0, 0, 0, 0, 0⟩)
  else if e.kd = 3 then decide (0 ≤ e.at_ ∧ e.at_ ≤ (n : Int) - 1) && nVal e.nt
  else false
/-- The edits as the program checks them: the last place, whether it is used. -/
def edGo (n : Nat) : Int → Bool → List EdR → Bool
  | _, _, [] => true
  | last, used, e :: l =>
    decide (last ≤ e.at_ ∧ e.at_ ≤ n) &&
    (let u := used && decide (e.at_ ≤ last)
     !u && (if e.kd = 1 then nVal e.nt && edGo n e.at_ false l
      else if e.kd = 2 then decide (e.at_ ≠ n) && decide (e.nt = ⟨0, 0, 0, 0, 0, 0, 0, 0, 0, 0⟩) && edGo n e.at_ true l
      else if e.kd = 3 then decide (e.at_ ≠ n) && nVal e.nt && edGo n e.at_ true l
      else false))
/-- The edits as the document checks them: behind an edit of place p and kind k. -/
def edDoc (n : Nat) : Int → Int → List EdR → Bool
  | _, _, [] => true
  | p, k, e :: l => edOne n e && !(decide (e.at_ < p) || (decide (e.at_ = p) && decide (k ≠ 1))) && edDoc n e.at_ e.kd l
theorem edGo_doc (n : Nat) : ∀ (l : List EdR) (last : Int) (used : Bool) (k : Int), 0 ≤ last → (used = true ↔ k ≠ 1) → edGo n last used l = edDoc n last k l
  | [], _, _, _, _, _ => rfl
  | e :: l, last, used, k, h0, hk => by
    have ih1 : 0 ≤ e.at_ → e.kd = 1 → edGo n e.at_ false l = edDoc n e.at_ e.kd l := fun h h1 => edGo_doc n l e.at_ false e.kd h (by simp [h1])
    have ih2 : 0 ≤ e.at_ → e.kd ≠ 1 → edGo n e.at_ true l = edDoc n e.at_ e.kd l := fun h h1 => edGo_doc n l e.at_ true e.kd h (by simp [h1])
    rw [edGo, edDoc]
    dsimp only
    by_cases h1 : last ≤ e.at_
    · have h2 : 0 ≤ e.at_ := by omega
      have e1 : decide (e.at_ < last) = false := by simp; omega
      by_cases hn : e.at_ ≤ n
      · have e2 : decide (last ≤ e.at_ ∧ e.at_ ≤ (n : Int)) = true := by simp; omega
        have e3 : (used && decide (e.at_ ≤ last)) = (decide (e.at_ = last) && decide (k ≠ 1)) := by
          have : decide (e.at_ ≤ last) = decide (e.at_ = last) := decide_eq_decide.2 (by omega)
          rw [this, Bool.and_comm]
          congr 1
          by_cases hu : used = true
          · rw [hu]; simp [hk.1 hu]
          · have : ¬ k ≠ 1 := fun q => hu (hk.2 q)
            simp [Bool.not_eq_true _ ▸ hu, this]
        rw [e2, e1, Bool.true_and, Bool.false_or, e3]
        unfold edOne
        by_cases k1 : e.kd = 1
        · rw [if_pos k1, if_pos k1, ih1 h2 k1]
          have : decide (0 ≤ e.at_ ∧ e.at_ ≤ (n : Int)) = true := by simp; omega
          rw [this, Bool.true_and]
          cases (decide (e.at_ = last) && decide (k ≠ 1)) <;> simp
        · rw [if_neg k1, if_neg k1, ih2 h2 k1]
          have e5 : decide (0 ≤ e.at_ ∧ e.at_ ≤ (n : Int) - 1) = decide (e.at_ ≠ n) := decide_eq_decide.2 (by omega)
          by_cases k2 : e.kd = 2
          · rw [if_pos k2, if_pos k2, e5]
            cases (decide (e.at_ = last) && decide (k ≠ 1)) <;> simp
          · rw [if_neg k2, if_neg k2, e5]
            by_cases k3 : e.kd = 3
            · rw [if_pos k3, if_pos k3]
              cases (decide (e.at_ = last) && decide (k ≠ 1)) <;> simp
            · rw [if_neg k3, if_neg k3]
              cases (decide (e.at_ = last) && decide (k ≠ 1)) <;> simp
      · have e2 : decide (last ≤ e.at_ ∧ e.at_ ≤ (n : Int)) = false := by simp; omega
        have e6 : edOne n e = false := by
          unfold edOne
          have a1 : decide (0 ≤ e.at_ ∧ e.at_ ≤ (n : Int)) = false := by simp; omega
          have a2 : decide (0 ≤ e.at_ ∧ e.at_ ≤ (n : Int) - 1) = false := by simp; omega
          rw [a1, a2]
          simp
        rw [e2, e6]
        simp
    · have e1 : decide (e.at_ < last) = true := by simp; omega
      have e2 : decide (last ≤ e.at_ ∧ e.at_ ≤ (n : Int)) = false := by simp; omega
      rw [e1, e2]
      simp
/-- Which edits are as defined. -/
def edB (n : Nat) (l : List EdR) : Bool := edDoc n 0 1 l
theorem edB_go (n : Nat) (l : List EdR) : edGo n 0 false l = edB n l := edGo_doc n l 0 false 1 (Int.le_refl _) (by simp)
end Go.Proofs.YtnmipejpjeakbaaGreatDoor
