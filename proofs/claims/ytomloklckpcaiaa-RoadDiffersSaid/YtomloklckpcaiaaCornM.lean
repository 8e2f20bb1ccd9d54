/- Corners, plainly: the reference's groups are the groups of bends; the turning between a group's ends is its angle. No program in sight. -/
import Derived.Test.YtomloklckpcaiaaCorn
namespace Go.Proofs.Ytomloklckpcaiaa
open Go.RowKit Go.Proofs

theorem filter_split {α : Type} {p : α → Bool} {l A B : List α} {x : α} (h : l.filter p = A ++ x :: B) : ∃ l1 l2, l = l1 ++ x :: l2 ∧ l1.filter p = A ∧ l2.filter p = B := by
  obtain ⟨l1, l2, rfl, h1, h2⟩ := List.filter_eq_append_iff.1 h
  obtain ⟨m1, m2, rfl, h3, h4, h5⟩ := List.filter_eq_cons_iff.1 h2
  refine ⟨l1 ++ m1, m2, by simp, ?_, h5⟩
  rw [List.filter_append, h1, List.filter_eq_nil_iff.2 h3, List.append_nil]
theorem its_split {ps : List Piece} {l1 l2 : List (Int × Piece)} {e : Int × Piece} (h : its 0 ps = l1 ++ e :: l2) :
    ∃ hk : l1.length < ps.length, e.1 = sumL (ps.take l1.length) ∧ e.2 = ps[l1.length] ∧ l1 = its 0 (ps.take l1.length) := by
  have hl := congrArg List.length h
  rw [its_len] at hl
  have hk : l1.length < ps.length := by rw [hl]; simp
  have h1 := its_at 0 ps l1.length hk
  rw [h, List.getElem?_append_right (Nat.le_refl _), Nat.sub_self] at h1
  simp at h1
  have h2 : l1 = its 0 (ps.take l1.length) := by rw [← its_take_its, h, List.take_left]
  exact ⟨hk, by rw [h1], by rw [h1], h2⟩
theorem bfr_bds (l : List (Int × Piece)) : bfr l = angS (bds l) := by
  induction l with
  | nil => rfl
  | cons e l ih =>
    have e1 : bfr (e :: l) = trn e.2 e.2.len + bfr l := by simp [bfr]
    rw [e1, ih]
    by_cases h : e.2.turn = 0
    · have e2 : bds (e :: l) = bds l := by simp [bds, h]
      rw [e2, trn, if_pos h]; omega
    · have e2 : bds (e :: l) = e :: bds l := by simp [bds, h]
      rw [e2]; simp [angS]
theorem angS_append (a b : List Bd) : angS (a ++ b) = angS a + angS b := by simp [angS]
/-- The turning up to a bend's beginning, and up to its end. -/
theorem upt_begin {R : Road} (hv : OK R) {A B : List Bd} {x : Bd} (h : bds (its 0 R.ps) = A ++ x :: B) : upt R.ps x.1 = angS A ∧ upt R.ps (x.1 + x.2.len) = angS A + trn x.2 x.2.len := by
  obtain ⟨l1, l2, h1, h2, h3⟩ := filter_split h
  obtain ⟨hk, e1, e2, e3⟩ := its_split h1
  have hp := pOk_len (hv.pk _ (List.getElem_mem hk))
  have hb : bfP (R.ps.take l1.length) = angS A := by rw [← bfr_its _ 0, ← e3, bfr_bds]; exact congrArg angS h2
  have u1 := upt_at R.ps l1.length hk hv.pk x.1 (by omega) (by omega)
  have u2 := upt_at R.ps l1.length hk hv.pk (x.1 + x.2.len) (by rw [e2]; omega) (by rw [e2]; omega)
  rw [hb, ← e2, e1, Int.sub_self, trn_zero _ (by rw [e2]; exact pOk_tOk (hv.pk _ (List.getElem_mem hk))), Int.add_zero, ← e1] at u1
  rw [hb, ← e2, show x.1 + x.2.len - sumL (R.ps.take l1.length) = x.2.len by omega] at u2
  exact ⟨u1, u2⟩
theorem grp_part' {gap : Int} {l g : List Bd} (h : g ∈ grp gap l) : ∃ A B, l = A ++ (g ++ B) := by
  obtain ⟨G1, G2, e⟩ := List.append_of_mem h
  refine ⟨G1.flatten, G2.flatten, ?_⟩
  have := grp_flat gap l
  rw [e] at this
  rw [← this]
  simp
theorem addB_nonempty (gap : Int) (gs : List (List Bd)) (x : Bd) (h : ∀ g ∈ gs, g ≠ []) : ∀ g ∈ addB gap gs x, g ≠ [] := by
  intro g hg
  unfold addB at hg
  split at hg
  · split at hg
    · rcases List.mem_append.1 hg with h1 | h1
      · exact h g (List.dropLast_subset _ h1)
      · simp at h1; subst h1; simp
    · rcases List.mem_append.1 hg with h1 | h1
      · exact h g h1
      · simp at h1; subst h1; simp
  · rcases List.mem_append.1 hg with h1 | h1
    · exact h g h1
    · simp at h1; subst h1; simp
theorem grp_ne (gap : Int) (l : List Bd) : ∀ g ∈ grp gap l, g ≠ [] := by
  have key : ∀ (l : List Bd) (gs : List (List Bd)), (∀ g ∈ gs, g ≠ []) → ∀ g ∈ l.foldl (addB gap) gs, g ≠ [] := by
    intro l
    induction l with
    | nil => intro gs h; exact h
    | cons x l ih => intro gs h; exact ih _ (addB_nonempty gap gs x h)
  exact key l [] (by simp)
/-- The corner of a group, known by its ends. -/
theorem crn_of {g gt gi : List Bd} {x y : Bd} (h0 : g = x :: gt) (h1 : g = gi ++ [y]) : crn g = ⟨x.1, y.1 + y.2.len, y.2.turn, minR y.2.rad g, x.2.rad, y.2.rad, max (angS g) (-(angS g))⟩ := by
  have e1 : g.head? = some x := by rw [h0]; rfl
  have e2 : g.getLast? = some y := by rw [h1]; simp
  unfold crn
  rw [e1, e2]
  rfl
theorem ends {g : List Bd} (h : g ≠ []) : ∃ x gt gi y, g = x :: gt ∧ g = gi ++ [y] := by
  cases g with
  | nil => exact absurd rfl h
  | cons x gt => exact ⟨x, gt, (x :: gt).dropLast, (x :: gt).getLast h, rfl, (List.dropLast_concat_getLast h).symm⟩
/-- The turning between a group's ends. -/
theorem grp_turn {gap : Int} {R : Road} (hv : OK R) {g : List Bd} (h : g ∈ grp gap (bds (its 0 R.ps))) : upt R.ps (crn g).til - upt R.ps (crn g).fr = angS g := by
  obtain ⟨A, B, e⟩ := grp_part' h
  obtain ⟨x, gt, gi, y, h0, h1⟩ := ends (grp_ne _ _ g h)
  rw [crn_of h0 h1]
  have u := (upt_begin hv (A := A) (x := x) (B := gt ++ B) (by rw [e, h0]; simp)).1
  have v := (upt_begin hv (A := A ++ gi) (x := y) (B := B) (by rw [e, h1]; simp)).2
  show upt R.ps (y.1 + y.2.len) - upt R.ps x.1 = _
  rw [u, v, angS_append, h1, angS_snoc]
  omega

/-- The reference's corners without their angles. -/
def crn0 (g : List Bd) : Corner := { crn g with ang := 0 }
theorem minR_min (a b : Int) (g : List Bd) : minR (min a b) g = min a (minR b g) := by
  induction g generalizing b with
  | nil => rfl
  | cons e g ih => simp only [minR, List.foldl_cons] at ih ⊢; rw [Int.min_assoc, ih]
theorem minR_le (b : Int) (g : List Bd) {e : Bd} (h : e ∈ g) : minR b g ≤ e.2.rad := by
  induction g generalizing b with
  | nil => cases h
  | cons d g ih =>
    rcases List.mem_cons.1 h with rfl | h
    · show minR (min b e.2.rad) g ≤ _
      rw [Int.min_comm, minR_min]; omega
    · exact ih (min b d.2.rad) h
theorem minR_init (a b : Int) (g : List Bd) {e : Bd} (h : e ∈ g) (he : e.2.rad = b) : minR a g = min a (minR b g) := by
  have h1 := minR_le b g h
  have h2 := minR_min a b g
  have h3 := minR_min b a g
  rw [Int.min_comm] at h3
  have h4 : minR b g ≤ b := by omega
  have h5 := minR_le a g h
  omega
/-- A bend that joins a group, as the reference changes its corner. -/
theorem crn0_join {g : List Bd} {x y : Bd} (ht : y.2.turn = x.2.turn) : crn0 (g ++ [y] ++ [x]) = { crn0 (g ++ [y]) with til := x.1 + x.2.len, rad := min (crn0 (g ++ [y])).rad x.2.rad, out := x.2.rad } := by
  obtain ⟨f, gt, gi, z, h0, h1⟩ := ends (g := g ++ [y]) (by simp)
  obtain rfl : y = z := by have := List.append_inj' h1 rfl; simpa using this.2
  rw [crn0, crn0, crn_of h0 rfl, crn_of (g := g ++ [y] ++ [x]) (x := f) (gt := gt ++ [x]) (gi := g ++ [y]) (y := x) (by rw [h0]; simp) rfl]
  simp only [Corner.mk.injEq, true_and, and_true]
  refine ⟨ht.symm, ?_⟩
  rw [minR_snoc, minR_init x.2.rad y.2.rad (g ++ [y]) (e := y) (by simp) rfl]
  omega
theorem crn0_one (x : Bd) : crn0 [x] = ⟨x.1, x.1 + x.2.len, x.2.turn, x.2.rad, x.2.rad, x.2.rad, 0⟩ := by
  rw [crn0, crn_of (g := [x]) (x := x) (gt := []) (gi := []) (y := x) rfl rfl]
  simp [minR]
/-- The groups of the first pieces. -/
def gsk (gap : Int) (ps : List Piece) (k : Nat) : List (List Bd) := grp gap (bds (its 0 (ps.take k)))
theorem gsk_succ (gap : Int) (ps : List Piece) (k : Nat) (h : k < ps.length) : gsk gap ps (k + 1) = if ps[k].turn = 0 then gsk gap ps k else addB gap (gsk gap ps k) (sumL (ps.take k), ps[k]) := by
  have e : bds (its 0 (ps.take (k + 1))) = bds (its 0 (ps.take k)) ++ (if ps[k].turn = 0 then [] else [(sumL (ps.take k), ps[k])]) := by
    rw [← its_take_its, its_take ps k h, its_take_its, bds, List.filter_append]
    congr 1
    by_cases ht : ps[k].turn = 0 <;> simp [ht]
  unfold gsk
  rw [e]
  split
  · rw [List.append_nil]
  · rw [grp_snoc]
theorem gsk_len (gap : Int) (ps : List Piece) (k : Nat) : (gsk gap ps k).length ≤ k := by
  have h1 := grp_len gap (bds (its 0 (ps.take k)))
  have h2 := List.length_filter_le (fun e : Int × Piece => decide (e.2.turn ≠ 0)) (its 0 (ps.take k))
  rw [its_len] at h2
  have h3 : (ps.take k).length ≤ k := List.length_take_le ..
  unfold gsk
  have h4 : (bds (its 0 (ps.take k))).length ≤ (ps.take k).length := h2
  omega
/-- What the reference makes of the groups. -/
theorem crns_of (gap least : Int) (R : Road) (hv : OK R) : crns gap least R = (((gsk gap R.ps R.ps.length).map fun g => { crn0 g with ang := max (upt R.ps (crn0 g).til - upt R.ps (crn0 g).fr) (-(upt R.ps (crn0 g).til - upt R.ps (crn0 g).fr)) }).filter fun c => decide (least ≤ c.ang)) := by
  unfold crns gsk
  rw [List.take_length]
  congr 1
  refine List.map_congr_left fun g hg => ?_
  have h1 := grp_turn hv hg
  have h2 : (crn0 g).til = (crn g).til ∧ (crn0 g).fr = (crn g).fr := ⟨rfl, rfl⟩
  rw [h2.1, h2.2, h1]
  obtain ⟨x, gt, gi, y, h0, h1⟩ := ends (grp_ne _ _ g hg)
  rw [crn0, crn_of h0 h1]
end Go.Proofs.Ytomloklckpcaiaa
