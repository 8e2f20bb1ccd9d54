/- The way back, plainly: the corners of a reversed road. No program in sight. -/
import Derived.Test.YtcniibngfnkobaaGreatDoorTellP
namespace Go.Proofs.YtcniibngfnkobaaGreatDoor
open Go.RowKit Go.Proofs

theorem addB_nil (gap : Int) (x : Bd) : addB gap [] x = [[x]] := rfl

theorem minR_init (a b : Int) (g : List Bd) {e : Bd} (h : e ∈ g) (he : e.2.rad = b) : minR a g = min a (minR b g) := by
  have h1 := minR_le b g h
  have h2 := minR_min a b g
  have h3 := minR_min b a g
  rw [Int.min_comm] at h3
  have h4 : minR b g ≤ b := by omega
  have h5 := minR_le a g h
  omega
/-- Groups, from the right. -/
def conR (gap : Int) (a : Bd) : List (List Bd) → List (List Bd)
  | [] => [[a]]
  | [] :: gs => [a] :: [] :: gs
  | (y :: g) :: gs => if tog gap a y then (a :: y :: g) :: gs else [a] :: (y :: g) :: gs
def grpR (gap : Int) : List Bd → List (List Bd)
  | [] => []
  | a :: l => conR gap a (grpR gap l)
theorem conR_ne (gap : Int) (a : Bd) (gs : List (List Bd)) (h : ∀ g ∈ gs, g ≠ []) : ∀ g ∈ conR gap a gs, g ≠ [] := by
  intro g hg
  match gs, h with
  | [], _ => simp [conR] at hg; subst hg; simp
  | [] :: gs, h => exact absurd rfl (h [] (by simp))
  | (y :: g') :: gs, h =>
    have hg' : g ∈ (if tog gap a y then (a :: y :: g') :: gs else [a] :: (y :: g') :: gs) := hg
    by_cases ht : tog gap a y = true
    · rw [if_pos ht] at hg'
      rcases List.mem_cons.1 hg' with h1 | h1
      · rw [h1]; simp
      · exact h g (List.mem_cons_of_mem _ h1)
    · rw [if_neg ht] at hg'
      rcases List.mem_cons.1 hg' with h1 | h1
      · rw [h1]; simp
      · exact h g h1
theorem grpR_ne (gap : Int) : ∀ (l : List Bd), ∀ g ∈ grpR gap l, g ≠ []
  | [] => by simp [grpR]
  | a :: l => conR_ne gap a _ (grpR_ne gap l)
theorem addB_cons (gap : Int) (h : List Bd) (gs : List (List Bd)) (x : Bd) (hne : gs ≠ []) : addB gap (h :: gs) x = h :: addB gap gs x := by
  obtain ⟨ds, G, rfl⟩ : ∃ ds G, gs = ds ++ [G] := ⟨_, _, (List.dropLast_concat_getLast hne).symm⟩
  have e : h :: (ds ++ [G]) = (h :: ds) ++ [G] := rfl
  unfold addB
  rw [e, List.getLast?_concat, List.getLast?_concat, List.dropLast_concat, List.dropLast_concat]
  simp only [Option.bind_some, Option.getD_some]
  split
  · split
    · simp
    · simp
  · simp
theorem addB_one (gap : Int) (h : List Bd) (y x : Bd) : addB gap [h ++ [y]] x = if tog gap y x then [h ++ [y] ++ [x]] else [h ++ [y], [x]] := by
  have := addB_at gap [] h y x
  simpa using this
theorem con_add (gap : Int) (a x : Bd) (gs : List (List Bd)) (hne : ∀ g ∈ gs, g ≠ []) : conR gap a (addB gap gs x) = addB gap (conR gap a gs) x := by
  match gs, hne with
  | [], _ =>
    have e := addB_one gap [] a x
    simp only [List.nil_append, List.cons_append] at e
    rw [addB_nil]
    show conR gap a [[x]] = addB gap [[a]] x
    rw [e]
    unfold conR
    rfl
  | [] :: gs, h => exact absurd rfl (h [] (by simp))
  | (y :: g) :: [], h =>
    obtain ⟨i, z, hz⟩ : ∃ i z, y :: g = i ++ [z] := ⟨_, _, (List.dropLast_concat_getLast (by simp)).symm⟩
    have e1 := addB_one gap i z x
    rw [← hz] at e1
    rw [e1]
    have e2 : ∀ l, conR gap a ((y :: g) :: l) = if tog gap a y then (a :: y :: g) :: l else [a] :: (y :: g) :: l := fun l => rfl
    have e3 := addB_one gap (a :: i) z x
    rw [List.cons_append, ← hz] at e3
    rw [e2]
    by_cases h1 : tog gap z x
    · rw [if_pos h1] at e3 ⊢
      by_cases h2 : tog gap a y
      · rw [if_pos h2, e3]
        show (if tog gap a y then (a :: y :: (g ++ [x])) :: [] else _) = _
        rw [if_pos h2]; rfl
      · rw [if_neg h2, addB_cons gap [a] _ x (by simp), e1, if_pos h1]
        show (if tog gap a y then _ else [a] :: (y :: (g ++ [x])) :: []) = _
        rw [if_neg h2]; rfl
    · rw [if_neg h1] at e3 ⊢
      rw [e2]
      by_cases h2 : tog gap a y
      · rw [if_pos h2, if_pos h2, e3]
      · rw [if_neg h2, if_neg h2, addB_cons gap [a] _ x (by simp), e1, if_neg h1]
  | (y :: g) :: h :: gs, hn =>
    rw [addB_cons gap (y :: g) (h :: gs) x (by simp)]
    have e2 : ∀ l, conR gap a ((y :: g) :: l) = if tog gap a y then (a :: y :: g) :: l else [a] :: (y :: g) :: l := fun l => rfl
    rw [e2, e2]
    by_cases ht : tog gap a y = true
    · rw [if_pos ht, if_pos ht, addB_cons gap (a :: y :: g) (h :: gs) x (by simp)]
    · rw [if_neg ht, if_neg ht, addB_cons gap [a] ((y :: g) :: h :: gs) x (by simp), addB_cons gap (y :: g) (h :: gs) x (by simp)]
theorem grpR_snoc (gap : Int) (x : Bd) : ∀ l : List Bd, grpR gap (l ++ [x]) = addB gap (grpR gap l) x
  | [] => rfl
  | a :: l => by
    rw [List.cons_append, grpR, grpR_snoc gap x l, con_add gap a x _ (grpR_ne gap l)]
    rfl
theorem grpR_eq (gap : Int) (l : List Bd) : grpR gap l = grp gap l := by
  have key : ∀ n, ∀ l : List Bd, l.length = n → grpR gap l = grp gap l := by
    intro n
    induction n with
    | zero => intro l h; rw [List.length_eq_zero_iff] at h; subst h; rfl
    | succ n ih =>
      intro l h
      obtain ⟨i, z, rfl⟩ : ∃ i z, l = i ++ [z] := ⟨_, _, (List.dropLast_concat_getLast (by intro e; subst e; simp at h)).symm⟩
      rw [grpR_snoc, grp_snoc, ih i (by simpa using h)]
  exact key _ l rfl

/-- A bend seen from the other end of a road of n meters. -/
def mir (n : Int) (e : Bd) : Bd := (n - e.1 - e.2.len, neg e.2)
def mirG (n : Int) (g : List Bd) : List Bd := (g.map (mir n)).reverse
def mirC (n : Int) (c : Corner) : Corner := ⟨n - c.til, n - c.fr, -c.turn, c.rad, c.out, c.inn, c.ang⟩
theorem tog_mir (gap n : Int) (x y : Bd) : tog gap (mir n y) (mir n x) = tog gap x y := by
  unfold tog mir neg
  have e1 : decide (-y.2.turn = -x.2.turn) = decide (x.2.turn = y.2.turn) := by rw [decide_eq_decide]; omega
  have e2 : n - x.1 - x.2.len - (n - y.1 - y.2.len) - y.2.len = y.1 - x.1 - x.2.len := by omega
  simp only [e1, e2]
theorem con_mir (gap n : Int) (x : Bd) (gs : List (List Bd)) (hne : ∀ g ∈ gs, g ≠ []) : conR gap (mir n x) (gs.map (mirG n)).reverse = ((addB gap gs x).map (mirG n)).reverse := by
  by_cases h : gs = []
  · subst h; rfl
  · obtain ⟨ds, G, rfl⟩ : ∃ ds G, gs = ds ++ [G] := ⟨_, _, (List.dropLast_concat_getLast h).symm⟩
    obtain ⟨g, y, rfl⟩ : ∃ g y, G = g ++ [y] := ⟨_, _, (List.dropLast_concat_getLast (hne G (by simp))).symm⟩
    rw [addB_at]
    have e1 : mirG n (g ++ [y]) = mir n y :: mirG n g := by simp [mirG]
    have e2 : ((ds ++ [g ++ [y]]).map (mirG n)).reverse = (mir n y :: mirG n g) :: (ds.map (mirG n)).reverse := by simp [e1]
    rw [e2]
    show (if tog gap (mir n x) (mir n y) then _ else _) = _
    rw [tog_mir]
    split
    · simp [mirG]
    · simp [mirG]
theorem grp_mir (gap n : Int) : ∀ l : List Bd, grp gap (mirG n l) = ((grp gap l).map (mirG n)).reverse := by
  have key : ∀ k, ∀ l : List Bd, l.length = k → grp gap (mirG n l) = ((grp gap l).map (mirG n)).reverse := by
    intro k
    induction k with
    | zero => intro l h; rw [List.length_eq_zero_iff] at h; subst h; rfl
    | succ k ih =>
      intro l h
      obtain ⟨i, z, rfl⟩ : ∃ i z, l = i ++ [z] := ⟨_, _, (List.dropLast_concat_getLast (by intro e; subst e; simp at h)).symm⟩
      have e1 : mirG n (i ++ [z]) = mir n z :: mirG n i := by simp [mirG]
      rw [e1, ← grpR_eq, grpR, grpR_eq, ih i (by simpa using h), con_mir gap n z _ (grp_ne gap i), grp_snoc]
  exact fun l => key _ l rfl
theorem its_shift : ∀ (ps : List Piece) (b d : Int), its (b + d) ps = (its b ps).map fun e => (e.1 + d, e.2)
  | [], _, _ => rfl
  | p :: ps, b, d => by
    simp only [its, List.map_cons]
    rw [show b + d + p.len = b + p.len + d by omega, its_shift ps (b + p.len) d]
theorem its_append : ∀ (ps qs : List Piece) (b : Int), its b (ps ++ qs) = its b ps ++ its (b + sumL ps) qs
  | [], qs, b => by simp [its, sumL]
  | p :: ps, qs, b => by
    simp only [List.cons_append, its, its_append ps qs (b + p.len)]
    rw [show b + p.len + sumL ps = b + sumL (p :: ps) by simp [sumL]; omega]
theorem its_mir : ∀ ps : List Piece, its 0 (ps.map neg).reverse = ((its 0 ps).map (mir (sumL ps))).reverse
  | [] => rfl
  | p :: ps => by
    have e0 : sumL (p :: ps) = p.len + sumL ps := by simp [sumL]
    rw [List.map_cons, List.reverse_cons, its_append, its_mir ps, sumL_rev, sumL_neg]
    simp only [its, List.map_cons, List.reverse_cons]
    rw [its_shift ps 0 p.len, List.map_map, e0]
    congr 1
    · congr 1
      refine List.map_congr_left fun e _ => ?_
      simp only [mir, Function.comp]
      congr 1
      omega
    · simp only [mir]
      congr 2
      omega
theorem bds_mir (n : Int) (l : List (Int × Piece)) : bds (l.map (mir n)).reverse = mirG n (bds l) := by
  unfold bds mirG
  rw [List.filter_reverse, List.filter_map]
  congr 2
  congr 1
  funext e
  have : (-e.2.turn ≠ 0) ↔ (e.2.turn ≠ 0) := by omega
  exact decide_eq_decide.2 this
theorem trn_neg (p : Piece) (m : Int) : trn (neg p) m = -(trn p m) := by
  unfold trn neg
  by_cases h : p.turn = 0
  · simp [h]
  · rw [if_neg (by show ¬ -p.turn = 0; omega), if_neg h, Int.neg_mul]
theorem angS_mir (n : Int) (g : List Bd) : angS (mirG n g) = -(angS g) := by
  unfold angS mirG
  rw [List.map_reverse, List.sum_reverse, List.map_map]
  induction g with
  | nil => rfl
  | cons e g ih =>
    simp only [List.map_cons, List.sum_cons, ih, Function.comp, mir]
    rw [trn_neg, show (neg e.2).len = e.2.len from rfl]
    omega
theorem minR_perm (b : Int) (g h : List Bd) (hp : ∀ e ∈ g, ∃ d ∈ h, d.2.rad = e.2.rad) (k : minR b g < minR b h) : False := by
  have key : ∀ (g : List Bd) (b : Int), minR b g = b ∨ ∃ e ∈ g, minR b g = e.2.rad := by
    intro g
    induction g with
    | nil => intro b; exact .inl rfl
    | cons e g ih =>
      intro b
      show minR (min b e.2.rad) g = b ∨ _
      rcases ih (min b e.2.rad) with h1 | ⟨d, hd, h1⟩
      · rcases (show min b e.2.rad = b ∨ min b e.2.rad = e.2.rad by omega) with h2 | h2
        · exact .inl (h1.trans h2)
        · exact .inr ⟨e, by simp, h1.trans h2⟩
      · exact .inr ⟨d, List.mem_cons_of_mem _ hd, h1⟩
  rcases key g b with h1 | ⟨e, he, h1⟩
  · have := minR_le0 b h; omega
  · obtain ⟨d, hd, h2⟩ := hp e he
    have := minR_le b h hd
    omega
theorem crn_mir {gap n : Int} {l g : List Bd} (h : g ∈ grp gap l) : crn (mirG n g) = mirC n (crn g) := by
  obtain ⟨x, gt, gi, y, e0, e1⟩ := ends (grp_ne _ _ g h)
  have hx : x ∈ g := by rw [e0]; simp
  have hy : y ∈ g := by rw [e1]; simp
  have m0 : mirG n g = mir n y :: mirG n gi := by rw [e1]; simp [mirG]
  have m1 : mirG n g = mirG n gt ++ [mir n x] := by rw [e0]; simp [mirG]
  rw [crn_of m0 m1, crn_of e0 e1, angS_mir]
  have hs := grp_same gap l g h x hx y hy
  have hr : minR x.2.rad (mirG n g) = minR y.2.rad g := by
    have hmx : mir n x ∈ mirG n g := by simp [mirG]; exact ⟨x.1, x.2, hx, rfl⟩
    have hmy : mir n y ∈ mirG n g := by simp [mirG]; exact ⟨y.1, y.2, hy, rfl⟩
    have f1 : ∀ e ∈ g, ∃ d ∈ mirG n g, d.2.rad = e.2.rad := fun e he => ⟨mir n e, by simp [mirG]; exact ⟨e.1, e.2, he, rfl⟩, rfl⟩
    have f2 : ∀ e ∈ mirG n g, ∃ d ∈ g, d.2.rad = e.2.rad := fun e he => by
      simp only [mirG, List.mem_reverse, List.mem_map] at he
      obtain ⟨d, hd, rfl⟩ := he
      exact ⟨d, hd, rfl⟩
    have i1 := minR_init x.2.rad y.2.rad g hy rfl
    have i2 := minR_init y.2.rad x.2.rad g hx rfl
    have i3 : minR x.2.rad (mirG n g) = minR x.2.rad g := by
      rcases Int.lt_trichotomy (minR x.2.rad (mirG n g)) (minR x.2.rad g) with k | k | k
      · exact (minR_perm _ _ _ f2 k).elim
      · exact k
      · exact (minR_perm _ _ _ f1 k).elim
    have i4 := minR_le x.2.rad g hy
    have i5 := minR_le y.2.rad g hx
    have i6 := minR_le0 x.2.rad g
    have i7 := minR_le0 y.2.rad g
    omega
  show (⟨_, _, _, minR x.2.rad (mirG n g), _, _, _⟩ : Corner) = _
  rw [hr]
  simp only [mirC, mir, neg, Corner.mk.injEq, true_and]
  refine ⟨by omega, by omega, by rw [hs], by omega⟩

/-- The road the other way round. -/
theorem crns_back (gap least : Int) (R : Road) : crns gap least (revR R) = ((crns gap least R).map (mirC (sumL R.ps))).reverse := by
  unfold crns revR
  simp only
  rw [its_mir, bds_mir, grp_mir, List.map_reverse, List.map_map, List.filter_reverse]
  congr 1
  rw [List.map_congr_left (f := crn ∘ mirG (sumL R.ps)) (g := fun g => mirC (sumL R.ps) (crn g)) (fun g hg => crn_mir hg)]
  rw [List.filter_map, List.filter_map, List.map_map]
  rfl
end Go.Proofs.YtcniibngfnkobaaGreatDoor
