/- Edits, plain: a correction is as defined; how long a list is with edits applied. No program in sight. -/
import Derived.Test.YtnmipejpjeakbaaGreatDoorPAll
namespace Go.Proofs.YtnmipejpjeakbaaGreatDoor

theorem edDoc_mnd (n : Nat) : ∀ (q : Nat) (i : Int) (a b : List NoteR) (p k : Int), a.length + b.length ≤ q → 0 ≤ i → i + (a.length : Nat) = n → (∀ y ∈ b, nVal y = true) → p ≤ i → (p = i → k = 1) → edDoc n p k (mnd i a b) = true
  | _, i, [], [], p, k, _, _, _, _, _, _ => by rw [mnd_nil]; rfl
  | 0, i, [], y :: b, _, _, h, _, _, _, _, _ => by simp at h
  | 0, i, x :: a, _, _, _, h, _, _, _, _, _ => by simp at h
  | q + 1, i, [], y :: b, p, k, h, h0, hn, hv, hp, hk => by
    rw [mnd_ins, edDoc]
    have hy := hv y (List.mem_cons_self ..)
    have ih := edDoc_mnd n q i [] b i 1 (by simp at h ⊢; omega) h0 hn (fun z hz => hv z (List.mem_cons_of_mem _ hz)) (Int.le_refl _) (fun _ => rfl)
    have h1 : edOne n ⟨i, 1, y⟩ = true := by simp at hn; simp [edOne, hy]; omega
    have h2 : (decide ((⟨i, 1, y⟩ : EdR).at_ < p) || decide ((⟨i, 1, y⟩ : EdR).at_ = p) && decide (k ≠ 1)) = false := by
      by_cases e : p = i
      · simp [e, hk e]
      · simp; omega
    rw [h1, h2, ih]
    rfl
  | q + 1, i, x :: a, [], p, k, h, h0, hn, hv, hp, hk => by
    simp only [List.length_cons] at h hn
    rw [mnd_del, edDoc]
    have ih := edDoc_mnd n q (i + 1) a [] i 2 (by simp at h ⊢; omega) (by omega) (by omega) hv (by omega) (fun e => by omega)
    have h1 : edOne n ⟨i, 2, ⟨0, 0, 0, 0, 0, 0, 0, 0, 0, 0⟩⟩ = true := by simp [edOne]; omega
    have h2 : (decide ((⟨i, 2, ⟨0, 0, 0, 0, 0, 0, 0, 0, 0, 0⟩⟩ : EdR).at_ < p) || decide ((⟨i, 2, ⟨0, 0, 0, 0, 0, 0, 0, 0, 0, 0⟩⟩ : EdR).at_ = p) && decide (k ≠ 1)) = false := by
      by_cases e : p = i
      · simp [e, hk e]
      · simp; omega
    rw [h1, h2, ih]
    rfl
  | q + 1, i, x :: a, y :: b, p, k, h, h0, hn, hv, hp, hk => by
    simp only [List.length_cons] at h hn
    have hy := hv y (List.mem_cons_self ..)
    have hvb : ∀ z ∈ b, nVal z = true := fun z hz => hv z (List.mem_cons_of_mem _ hz)
    have h2 : ∀ (d : Int) (z : NoteR), (decide ((⟨i, d, z⟩ : EdR).at_ < p) || decide ((⟨i, d, z⟩ : EdR).at_ = p) && decide (k ≠ 1)) = false := fun d z => by
      by_cases e : p = i
      · simp [e, hk e]
      · simp; omega
    rw [mnd_cons]
    split
    · exact edDoc_mnd n q (i + 1) a b p k (by omega) (by omega) (by omega) hvb (by omega) (fun e => by omega)
    · split
      · rw [edDoc, h2, edDoc_mnd n q (i + 1) a b i 3 (by omega) (by omega) (by omega) hvb (by omega) (fun e => by omega)]
        have h1 : edOne n ⟨i, 3, y⟩ = true := by simp [edOne, hy]; omega
        rw [h1]
        rfl
      · split
        · rw [edDoc, h2, edDoc_mnd n q (i + 1) a (y :: b) i 2 (by simp; omega) (by omega) (by omega) hv (by omega) (fun e => by omega)]
          have h1 : edOne n ⟨i, 2, ⟨0, 0, 0, 0, 0, 0, 0, 0, 0, 0⟩⟩ = true := by simp [edOne]; omega
          rw [h1]
          rfl
        · rw [edDoc, h2, edDoc_mnd n q i (x :: a) b i 1 (by simp; omega) (by omega) (by simp; omega) hvb (by omega) (fun e => rfl)]
          have h1 : edOne n ⟨i, 1, y⟩ = true := by simp [edOne, hy]; omega
          rw [h1]
          rfl
theorem edB_mnd (a b : List NoteR) (hv : ∀ y ∈ b, nVal y = true) : edB a.length (mnd 0 a b) = true :=
  edDoc_mnd a.length _ 0 a b 0 1 (Nat.le_refl _) (Int.le_refl _) (by omega) hv (Int.le_refl _) (fun _ => rfl)
theorem eAt_len (i : Int) : ∀ (l : List EdR), (eAt i l).1.length + (eAt i l).2.2.length ≤ l.length
  | [] => by simp [eAt]
  | e :: l => by
    have ih := eAt_len i l
    rw [eAt]
    split
    · split
      · simp only [List.length_cons]; omega
      · simp only [List.length_cons]; omega
    · simp
theorem apE_len : ∀ (a : List NoteR) (i : Int) (l : List EdR), (apE i a l).length ≤ a.length + l.length
  | [], i, l => by
    have := eAt_len i l
    rw [apE]
    simp
    omega
  | x :: a, i, l => by
    have h1 := eAt_len i l
    have h2 := apE_len a (i + 1) (eAt i l).2.2
    rw [apE, List.length_append, List.length_append, List.length_cons]
    have : (if (eAt i l).2.1 = true then [x] else []).length ≤ 1 := by split <;> simp
    omega
/-- Only insertions, in order: what lies at a place, and what lies behind. -/
theorem eAt_ins (i : Int) : ∀ (l : List EdR), (∀ e ∈ l, e.kd = 1 ∧ i ≤ e.at_) → l.Pairwise (fun d e => d.at_ ≤ e.at_) →
    (eAt i l).2.1 = true ∧ (eAt i l).1.length + (eAt i l).2.2.length = l.length ∧ (∀ e ∈ (eAt i l).2.2, e ∈ l ∧ i + 1 ≤ e.at_) ∧ (eAt i l).2.2.Pairwise (fun d e => d.at_ ≤ e.at_)
  | [], _, _ => by simp [eAt]
  | e :: l, h, hp => by
    obtain ⟨hp1, hp2⟩ := List.pairwise_cons.1 hp
    have he := h e (List.mem_cons_self ..)
    by_cases hi : e.at_ = i
    · obtain ⟨i1, i2, i3, i4⟩ := eAt_ins i l (fun d hd => h d (List.mem_cons_of_mem _ hd)) hp2
      rw [eAt, if_pos hi, if_neg (by omega)]
      refine ⟨by simp [he.1, i1], by simp only [List.length_cons]; omega, fun d hd => ?_, i4⟩
      exact ⟨List.mem_cons_of_mem _ (i3 d hd).1, (i3 d hd).2⟩
    · rw [eAt, if_neg hi]
      refine ⟨rfl, by simp, fun d hd => ⟨hd, ?_⟩, hp⟩
      rcases List.mem_cons.1 hd with rfl | hd
      · omega
      · have := hp1 d hd
        omega
theorem apE_ins_len : ∀ (a : List NoteR) (i : Int) (l : List EdR), (∀ e ∈ l, e.kd = 1 ∧ i ≤ e.at_ ∧ e.at_ ≤ i + (a.length : Nat)) → l.Pairwise (fun d e => d.at_ ≤ e.at_) → (apE i a l).length = a.length + l.length
  | [], i, l, h, hp => by
    obtain ⟨i1, i2, i3, i4⟩ := eAt_ins i l (fun d hd => ⟨(h d hd).1, (h d hd).2.1⟩) hp
    have h0 : (eAt i l).2.2 = [] := by
      cases hq : (eAt i l).2.2 with
      | nil => rfl
      | cons d r =>
        have hd : d ∈ (eAt i l).2.2 := by rw [hq]; simp
        have h1 := i3 d hd
        have h2 := (h d h1.1).2.2
        simp at h2
        omega
    rw [h0] at i2
    rw [apE]
    simp at i2 ⊢
    exact i2
  | x :: a, i, l, h, hp => by
    obtain ⟨i1, i2, i3, i4⟩ := eAt_ins i l (fun d hd => ⟨(h d hd).1, (h d hd).2.1⟩) hp
    have ih := apE_ins_len a (i + 1) (eAt i l).2.2 (fun d hd => by
      have h1 := i3 d hd
      have h2 := h d h1.1
      simp only [List.length_cons] at h2
      exact ⟨h2.1, h1.2, by omega⟩) i4
    rw [apE, i1, List.length_append, List.length_append, ih, List.length_cons]
    simp
    omega
theorem edDoc_ins (n : Nat) : ∀ (l : List EdR) (p k : Int), (∀ e ∈ l, e.kd = 1 ∧ 0 ≤ e.at_ ∧ e.at_ ≤ n ∧ nVal e.nt = true ∧ p ≤ e.at_) → l.Pairwise (fun d e => d.at_ ≤ e.at_) → k = 1 → edDoc n p k l = true
  | [], _, _, _, _, _ => rfl
  | e :: l, p, k, h, hp, hk => by
    subst hk
    obtain ⟨hp1, hp2⟩ := List.pairwise_cons.1 hp
    obtain ⟨h1, h2, h3, h4, h5⟩ := h e (List.mem_cons_self ..)
    have ih := edDoc_ins n l e.at_ e.kd (fun d hd => by
      obtain ⟨q1, q2, q3, q4, _⟩ := h d (List.mem_cons_of_mem _ hd)
      exact ⟨q1, q2, q3, q4, hp1 d hd⟩) hp2 h1
    have e1 : edOne n e = true := by simp [edOne, h1, h4]; omega
    rw [edDoc, e1, ih]
    simp
    omega
end Go.Proofs.YtnmipejpjeakbaaGreatDoor
