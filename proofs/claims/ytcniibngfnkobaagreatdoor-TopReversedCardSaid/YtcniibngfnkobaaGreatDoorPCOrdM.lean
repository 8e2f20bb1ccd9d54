/- What corners are like: in order, apart, each turns one way and as much as it says. Plain; no program in sight. -/
import Derived.Test.YtcniibngfnkobaaGreatDoorPCCorn
import Derived.Test.YtcniibngfnkobaaGreatDoorPCIter
namespace Go.Proofs.YtcniibngfnkobaaGreatDoor
open Go.RowKit Go.Proofs

theorem its_pw : ∀ (ps : List Piece) (b : Int), (∀ p ∈ ps, 0 ≤ p.len) → (its b ps).Pairwise fun x y => x.1 + x.2.len ≤ y.1
  | [], _, _ => by simp [its]
  | p :: ps, b, h => by
    simp only [its, List.pairwise_cons]
    exact ⟨fun e he => (its_mem ps (b + p.len) e (fun q hq => h q (List.mem_cons_of_mem _ hq)) he).1, its_pw ps (b + p.len) (fun q hq => h q (List.mem_cons_of_mem _ hq))⟩
theorem lens {R : Road} (hv : OK R) : ∀ p ∈ R.ps, 0 ≤ p.len := fun p hp => by have := pOk_len (hv.pk p hp); omega
theorem bds_pw {R : Road} (hv : OK R) : (bds (its 0 R.ps)).Pairwise fun x y => x.1 + x.2.len ≤ y.1 := (its_pw R.ps 0 (lens hv)).filter _
/-- The groups, one behind the other; the bends of a group, one behind the other. -/
theorem grp_pw {R : Road} (hv : OK R) (gap : Int) : (∀ g ∈ grp gap (bds (its 0 R.ps)), g.Pairwise fun x y => x.1 + x.2.len ≤ y.1) ∧
    (grp gap (bds (its 0 R.ps))).Pairwise fun g g' => ∀ x ∈ g, ∀ y ∈ g', x.1 + x.2.len ≤ y.1 := by
  have := bds_pw hv
  rw [← grp_flat gap (bds (its 0 R.ps)), List.pairwise_flatten] at this
  exact this
/-- All bends of a group turn to one side. -/
theorem addB_turn (gap : Int) (gs : List (List Bd)) (x : Bd) (h : ∀ g ∈ gs, ∀ e ∈ g, ∀ d ∈ g, e.2.turn = d.2.turn) : ∀ g ∈ addB gap gs x, ∀ e ∈ g, ∀ d ∈ g, e.2.turn = d.2.turn := by
  intro g hg
  unfold addB at hg
  have new : ∀ e ∈ [x], ∀ d ∈ [x], e.2.turn = d.2.turn := by intro e he d hd; simp at he hd; rw [he, hd]
  split at hg
  · rename_i y hy
    split at hg
    · rename_i ht
      rcases List.mem_append.1 hg with h1 | h1
      · exact h g (List.dropLast_subset _ h1)
      · simp at h1
        cases hl : gs.getLast? with
        | none => rw [hl] at hy; cases hy
        | some G =>
          rw [hl] at hy h1
          simp only [Option.bind_some] at hy
          simp only [Option.getD_some] at h1
          subst h1
          have hG : G ∈ gs := List.mem_of_getLast? hl
          have hyG : y ∈ G := List.mem_of_getLast? hy
          simp only [tog, Bool.and_eq_true, decide_eq_true_eq] at ht
          intro e he d hd
          rcases List.mem_append.1 he with h1 | h1 <;> rcases List.mem_append.1 hd with h2 | h2
          · exact h G hG e h1 d h2
          · simp at h2; rw [h2]; exact (h G hG e h1 y hyG).trans ht.1
          · simp at h1; rw [h1]; exact ht.1.symm.trans (h G hG y hyG d h2)
          · simp at h1 h2; rw [h1, h2]
    · rcases List.mem_append.1 hg with h1 | h1
      · exact h g h1
      · simp at h1; subst h1; exact new
  · rcases List.mem_append.1 hg with h1 | h1
    · exact h g h1
    · simp at h1; subst h1; exact new
theorem grp_same (gap : Int) (l : List Bd) : ∀ g ∈ grp gap l, ∀ e ∈ g, ∀ d ∈ g, e.2.turn = d.2.turn := by
  have key : ∀ (l : List Bd) (gs : List (List Bd)), (∀ g ∈ gs, ∀ e ∈ g, ∀ d ∈ g, e.2.turn = d.2.turn) → ∀ g ∈ l.foldl (addB gap) gs, ∀ e ∈ g, ∀ d ∈ g, e.2.turn = d.2.turn := by
    intro l
    induction l with
    | nil => intro gs h; exact h
    | cons x l ih => intro gs h; exact ih _ (addB_turn gap gs x h)
  exact key l [] (by simp)
theorem minR_le0 (b : Int) (g : List Bd) : minR b g ≤ b := by
  have h := minR_min b b g
  rw [show min b b = b by omega] at h
  omega
theorem angS_side {t : Int} : ∀ (g : List Bd), (∀ e ∈ g, e.2.turn = t) → (∀ e ∈ g, pOk e.2 = true) → ∃ s, 0 ≤ s ∧ angS g = t * s
  | [], _, _ => ⟨0, by omega, by simp [angS]⟩
  | e :: g, h, hp => by
    obtain ⟨s, h0, h1⟩ := angS_side g (fun d hd => h d (List.mem_cons_of_mem _ hd)) (fun d hd => hp d (List.mem_cons_of_mem _ hd))
    have he := h e (List.mem_cons_self ..)
    have hl := pOk_len (hp e (List.mem_cons_self ..))
    have ht := pOk_tOk (hp e (List.mem_cons_self ..))
    have e1 : angS (e :: g) = trn e.2 e.2.len + angS g := by simp [angS]
    by_cases h2 : e.2.turn = 0
    · refine ⟨s, h0, ?_⟩
      rw [e1, h1, trn, if_pos h2]; omega
    · have hr := ht.2.2 h2
      have hq : 0 ≤ rnd (1000 * e.2.len) e.2.rad := by
        unfold rnd
        rw [if_neg (by omega)]
        exact Int.ediv_nonneg (by omega) (by omega)
      refine ⟨rnd (1000 * e.2.len) e.2.rad + s, by omega, ?_⟩
      rw [e1, h1, trn, if_neg h2, he, Int.mul_add]
/-- Where a place lies: the piece there, with its beginning. -/
theorem at_its {R : Road} {x : Int} {i : Nat} (h : At R.ps x i) : ∃ e, e ∈ its 0 R.ps ∧ R.ps[i]? = some e.2 ∧ e.1 ≤ x ∧ x < e.1 + e.2.len := by
  obtain ⟨h1, h2, h3⟩ := h
  have h4 := its_at 0 R.ps i h1
  rw [sumL_take R.ps i h1] at h3
  exact ⟨_, List.mem_of_getElem? h4, List.getElem?_eq_getElem h1, by show 0 + _ ≤ x; omega, by show x < 0 + sumL (R.ps.take i) + R.ps[i].len; omega⟩
/-- A corner, as the law wants it. -/
structure Fine (R : Road) (least : Int) (c : Corner) : Prop where
  lt : c.fr < c.til
  lo : 0 ≤ c.fr
  hi : c.til ≤ sumL R.ps
  ang : least ≤ c.ang
  big : c.ang ≤ 800000000000
  inn : c.rad ≤ c.inn
  out : c.rad ≤ c.out
  side : c.turn = 1 ∨ c.turn = -1
  tur : upt R.ps c.til - upt R.ps c.fr = c.turn * c.ang
  first : ∀ i p, At R.ps c.fr i → R.ps[i]? = some p → p.turn = c.turn
  last : ∀ i p, At R.ps (c.til - 1) i → R.ps[i]? = some p → p.turn = c.turn
  none_ : ∀ x i p, c.fr ≤ x → x < c.til → At R.ps x i → R.ps[i]? = some p → p.turn ≠ -c.turn
theorem its_inj {R : Road} (hv : OK R) {d e : Int × Piece} (hd : d ∈ its 0 R.ps) (he : e ∈ its 0 R.ps) {x : Int} (h1 : d.1 ≤ x) (h2 : x < d.1 + d.2.len) (h3 : e.1 ≤ x) (h4 : x < e.1 + e.2.len) : d = e := by
  obtain ⟨i, hi, rfl⟩ := List.getElem_of_mem hd
  obtain ⟨j, hj, rfl⟩ := List.getElem_of_mem he
  have hpw := List.pairwise_iff_getElem.1 (its_pw R.ps 0 (lens hv))
  rcases Nat.lt_trichotomy i j with h | h | h
  · have := hpw i j hi hj h; omega
  · subst h; rfl
  · have := hpw j i hj hi h; omega
theorem crn_fine {R : Road} (hv : OK R) {gap least : Int} {c : Corner} (h : c ∈ crns gap least R) : Fine R least c := by
  obtain ⟨h1, h2⟩ := List.mem_filter.1 h
  obtain ⟨g, hg, rfl⟩ := List.mem_map.1 h1
  obtain ⟨x, gt, gi, y, e0, e1⟩ := ends (grp_ne _ _ g hg)
  have hx : x ∈ g := by rw [e0]; simp
  have hy : y ∈ g := by rw [e1]; simp
  have bx := bds_mem hv (grp_mem hg hx)
  have bY := bds_mem hv (grp_mem hg hy)
  have lx := pOk_len bx.2.1
  have ly := pOk_len bY.2.1
  have hsame := grp_same gap _ g hg
  obtain ⟨s, hs0, hs1⟩ := angS_side (t := y.2.turn) g (fun e he => hsame e he y hy) (fun e he => (bds_mem hv (grp_mem hg he)).2.1)
  have htok := pOk_tOk bY.2.1
  have hside : y.2.turn = 1 ∨ y.2.turn = -1 := by have := htok.1; have := htok.2.1; have := bY.2.2; omega
  have hc := crn_of e0 e1
  have htn := grp_turn hv hg
  have hpwg := (grp_pw hv gap).1 g hg
  have hfirst : x.1 ≤ y.1 := by
    rcases Classical.em (g = [x]) with h | h
    · rw [h] at hy; simp at hy; subst hy; omega
    · cases gt with
      | nil => exact absurd e0 h
      | cons z gt =>
        have hyg : y ∈ z :: gt := by
          have : (x :: z :: gt).getLast? = some y := by rw [← e0, e1]; simp
          rw [List.getLast?_cons_cons] at this
          exact List.mem_of_getLast? this
        rw [e0] at hpwg
        have := (List.pairwise_cons.1 hpwg).1 y hyg
        omega
  have hangb := angS_bd g (fun e he => (bds_mem hv (grp_mem hg he)).2.1)
  have hgl := grp_part gap _ hg
  have hbl := bds_len R
  have hp2 := hv.p2
  have hxi : x ∈ its 0 R.ps := (List.mem_filter.1 (grp_mem hg hx)).1
  have hyi : y ∈ its 0 R.ps := (List.mem_filter.1 (grp_mem hg hy)).1
  rw [hc] at htn h2 ⊢
  simp only [decide_eq_true_eq] at h2
  simp only at htn
  have hmax : max (angS g) (-(angS g)) = s := by rw [hs1]; rcases hside with h | h <;> rw [h] <;> omega
  refine ⟨by show x.1 < y.1 + y.2.len; omega, bx.1.1, by show y.1 + y.2.len ≤ _; omega, h2, by show max _ _ ≤ _; omega, minR_le _ _ hx, minR_le0 _ _, hside, ?_, ?_, ?_, ?_⟩
  · show upt R.ps (y.1 + y.2.len) - upt R.ps x.1 = y.2.turn * max (angS g) (-(angS g))
    rw [htn, hmax, hs1]
  · intro i p hi hp
    obtain ⟨e, he, hep, h3, h4⟩ := at_its hi
    have : e = x := its_inj hv he hxi h3 h4 (Int.le_refl _) (by show x.1 < _; omega)
    subst this
    rw [hp] at hep; cases hep
    exact hsame _ hx _ hy
  · intro i p hi hp
    obtain ⟨e, he, hep, h3, h4⟩ := at_its hi
    have : e = y := its_inj hv he hyi h3 h4 (by show y.1 ≤ y.1 + y.2.len - 1; omega) (by show y.1 + y.2.len - 1 < _; omega)
    subst this
    rw [hp] at hep; cases hep
    rfl
  · intro q i p hq1 hq2 hi hp
    obtain ⟨e, he, hep, h3, h4⟩ := at_its hi
    rw [hp] at hep; cases hep
    show e.2.turn ≠ -y.2.turn
    by_cases ht : e.2.turn = 0
    · omega
    · have heb : e ∈ bds (its 0 R.ps) := List.mem_filter.2 ⟨he, by simpa using ht⟩
      obtain ⟨A, B, eAB⟩ := grp_part' hg
      have hpw := bds_pw hv
      rw [eAB] at heb hpw
      have hq1' : x.1 ≤ q := hq1
      have hq2' : q < y.1 + y.2.len := hq2
      rcases List.mem_append.1 heb with h | h
      · have := (List.pairwise_append.1 hpw).2.2 e h x (List.mem_append_left _ hx)
        omega
      · rcases List.mem_append.1 h with h | h
        · have := hsame e h y hy; omega
        · have := (List.pairwise_append.1 (List.pairwise_append.1 hpw).2.1).2.2 y hy e h
          omega
theorem crns_pw {R : Road} (hv : OK R) (gap least : Int) : (crns gap least R).Pairwise fun c d => c.til ≤ d.fr := by
  refine List.Pairwise.filter _ (List.pairwise_map.2 (List.Pairwise.imp_of_mem (fun {g g'} hg hg' h => ?_) (grp_pw hv gap).2))
  obtain ⟨x, gt, gi, y, e0, e1⟩ := ends (grp_ne _ _ g hg)
  obtain ⟨x', gt', gi', y', e0', e1'⟩ := ends (grp_ne _ _ g' hg')
  rw [crn_of e0 e1, crn_of e0' e1']
  exact h y (by rw [e1]; simp) x' (by rw [e0']; simp)
theorem crns_len (gap least : Int) (R : Road) : (crns gap least R).length ≤ R.ps.length := by
  have h1 := List.length_filter_le (fun c : Corner => decide (least ≤ c.ang)) ((grp gap (bds (its 0 R.ps))).map crn)
  have h2 := grp_len gap (bds (its 0 R.ps))
  have h3 := bds_len R
  rw [List.length_map] at h1
  exact Nat.le_trans h1 (Nat.le_trans h2 h3)
end Go.Proofs.YtcniibngfnkobaaGreatDoor

/- The way back, plainly: the corners of a reversed road. No program in sight. -/
namespace Go.Proofs.YtcniibngfnkobaaGreatDoor
open Go.RowKit Go.Proofs

def neg (p : Piece) : Piece := { p with turn := -p.turn }
theorem sumL_neg (ps : List Piece) : sumL (ps.map neg) = sumL ps := by
  unfold sumL
  rw [List.map_map]
  rfl
theorem sumL_rev (ps : List Piece) : sumL ps.reverse = sumL ps := by
  unfold sumL
  rw [List.map_reverse, List.sum_reverse]
def revC (n : Int) (cs : List Crest) : List Crest := (cs.map fun c => ⟨n - c.pos, c.siz⟩).reverse
def revJ (n : Int) (js : List Junc) : List Junc := (js.map fun j => ⟨n - j.pos, j.arms, j.arms + 1 - j.way⟩).reverse
/-- The road the other way round. -/
def revR (R : Road) : Road := ⟨(R.ps.map neg).reverse, revC (sumL R.ps) R.cs, revJ (sumL R.ps) R.js⟩
end Go.Proofs.YtcniibngfnkobaaGreatDoor
