/- Grades, plain: each radius has one grade whose meaning contains it; a greater radius never has a less one. -/
import Derived.Test.YtcniibngfnkobaaGreatDoorPAll
namespace Go.Proofs.YtcniibngfnkobaaGreatDoor

theorem cnt_iff : ∀ (l : List Int) (x : Int), l.Pairwise (· < ·) → ∀ k (hk : k < l.length), l[k] ≤ x ↔ k < l.countP (fun g => decide (g ≤ x))
  | [], _, _, k, hk => by simp at hk
  | a :: l, x, h, k, hk => by
    obtain ⟨h1, h2⟩ := List.pairwise_cons.1 h
    have ih := cnt_iff l x h2
    rw [List.countP_cons]
    by_cases ha : a ≤ x
    · rw [if_pos (decide_eq_true ha)]
      cases k with
      | zero => simp [ha]
      | succ k =>
        have := ih k (by simpa using hk)
        rw [List.getElem_cons_succ, this]
        omega
    · have h0 : l.countP (fun g => decide (g ≤ x)) = 0 := by
        rw [List.countP_eq_zero]
        intro y hy
        have := h1 y hy
        simp
        omega
      rw [if_neg (by simpa using ha), h0]
      cases k with
      | zero => simp [ha]
      | succ k =>
        have hk' : k < l.length := by simpa using hk
        have := h1 l[k] (List.getElem_mem hk')
        rw [List.getElem_cons_succ]
        omega
theorem gradeI_rng (b : BkR) (x : Int) : 1 ≤ gradeI b x ∧ gradeI b x ≤ (b.gs.length : Nat) + 1 := by
  unfold gradeI
  have : b.gs.countP (fun g => decide (g ≤ x)) ≤ b.gs.length := List.countP_le_length
  omega
theorem gradeI_mono (b : BkR) {x y : Int} (h : x ≤ y) : gradeI b x ≤ gradeI b y := by
  unfold gradeI
  have : b.gs.countP (fun g => decide (g ≤ x)) ≤ b.gs.countP (fun g => decide (g ≤ y)) := by
    apply List.countP_mono_left
    intro a _ ha
    simp only [decide_eq_true_eq] at ha ⊢
    omega
  omega
/-- A radius lies within the radii of a grade exactly if it has that grade. -/
theorem grade_iff {b : BkR} (hv : BkOK b) {x : Int} (h5 : 5 ≤ x) (h2 : x ≤ 2000) {g : Nat} (h1 : 1 ≤ g) (hg : g ≤ b.gs.length + 1) : (radLo b g ≤ x ∧ x ≤ radHi b g) ↔ gradeI b x = g := by
  have hc : b.gs.countP (fun g => decide (g ≤ x)) ≤ b.gs.length := List.countP_le_length
  have hi := cnt_iff b.gs x hv.inc
  have hL : radLo b g ≤ x ↔ (1 < g → g - 2 < b.gs.countP (fun g => decide (g ≤ x))) := by
    unfold radLo
    by_cases e : 1 < g
    · rw [if_pos (by omega), show ((g : Int) - 2).toNat = g - 2 by omega, List.getD_eq_getElem?_getD, List.getElem?_eq_getElem (by omega)]
      rw [Option.getD_some, hi (g - 2) (by omega)]
      simp [e]
    · rw [if_neg (by omega)]
      simp [e, h5]
  have hH : x ≤ radHi b g ↔ (g ≤ b.gs.length → ¬ g - 1 < b.gs.countP (fun g => decide (g ≤ x))) := by
    unfold radHi
    by_cases e : g ≤ b.gs.length
    · rw [if_pos (by omega), show ((g : Int) - 1).toNat = g - 1 by omega, List.getD_eq_getElem?_getD, List.getElem?_eq_getElem (by omega)]
      rw [Option.getD_some, ← hi (g - 1) (by omega)]
      simp only [e, true_implies]
      omega
    · rw [if_neg (by omega)]
      simp [e, h2]
  rw [hL, hH]
  unfold gradeI
  constructor
  · rintro ⟨a1, a2⟩
    by_cases e1 : 1 < g <;> by_cases e2 : g ≤ b.gs.length
    · have := a1 e1; have := a2 e2; omega
    · have := a1 e1; omega
    · have := a2 e2; omega
    · omega
  · intro e
    exact ⟨fun _ => by omega, fun _ => by omega⟩
theorem rad_le {b : BkR} (hv : BkOK b) {g : Nat} (h1 : 1 ≤ g) (hg : g ≤ b.gs.length + 1) : radLo b g ≤ radHi b g := by
  unfold radLo radHi
  by_cases e1 : 1 < g
  · rw [if_pos (by omega), show ((g : Int) - 2).toNat = g - 2 by omega, List.getD_eq_getElem?_getD, List.getElem?_eq_getElem (by omega), Option.getD_some]
    by_cases e2 : g ≤ b.gs.length
    · rw [if_pos (by omega), show ((g : Int) - 1).toNat = g - 1 by omega, List.getD_eq_getElem?_getD, List.getElem?_eq_getElem (by omega), Option.getD_some]
      have := List.pairwise_iff_getElem.1 hv.inc (g - 2) (g - 1) (by omega) (by omega) (by omega)
      omega
    · rw [if_neg (by omega)]
      exact (hv.rng _ (List.getElem_mem (by omega))).2
  · rw [if_neg (by omega)]
    by_cases e2 : g ≤ b.gs.length
    · rw [if_pos (by omega), show ((g : Int) - 1).toNat = g - 1 by omega, List.getD_eq_getElem?_getD, List.getElem?_eq_getElem (by omega), Option.getD_some]
      have := (hv.rng _ (List.getElem_mem (show g - 1 < b.gs.length by omega))).1
      omega
    · rw [if_neg (by omega)]
      omega
/-- The meaning of a corner's note of a grade that the book has. -/
theorem mean_grade {b : BkR} {g : Nat} (h1 : 1 ≤ g) (hg : g ≤ b.gs.length + 1) : meanN b ⟨1, 1, g, 0, 0, 0, 0, 0, 0, 0⟩ = some ⟨radLo b g, radHi b g, 0, 0, b.sh, b.lo - 1⟩ := by
  have hr : radI b g = (radLo b g, radHi b g, true) := by
    unfold radI radIn
    rw [if_pos]
    simp
    omega
  have hl : latR b ⟨1, 1, g, 0, 0, 0, 0, 0, 0, 0⟩ = (0, 0, true) := rfl
  unfold meanN
  rw [hl]
  simp only
  rw [hr]
  rfl
theorem nVal_grade {g : Nat} (h1 : 1 ≤ g) (hg : g ≤ 9) : nVal ⟨1, 1, g, 0, 0, 0, 0, 0, 0, 0⟩ = true := by
  have : g = 1 ∨ g = 2 ∨ g = 3 ∨ g = 4 ∨ g = 5 ∨ g = 6 ∨ g = 7 ∨ g = 8 ∨ g = 9 := by omega
  rcases this with rfl | rfl | rfl | rfl | rfl | rfl | rfl | rfl | rfl <;> decide
end Go.Proofs.YtcniibngfnkobaaGreatDoor
