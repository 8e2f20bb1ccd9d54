/- The safer pieces of two surveys' stretches are pieces as defined. No program in sight. -/
import Derived.Test.YtomloklckpcaiaaZSfr
import Derived.Test.YtomloklckpcaiaaZBound
import Derived.Test.YtomloklckpcaiaaZRuns
namespace Go.Proofs.Ytomloklckpcaiaa
open Go.RowKit Go.Shelf Go.Sort Go.Proofs

theorem strs_in {ps qs : List Piece} (hp : ∀ q ∈ ps, 1 ≤ q.len) (hq : ∀ q ∈ qs, 1 ≤ q.len) (he : sumL ps = sumL qs) : ∀ (f i j : Nat) (fr : Int), Lie ps i fr → Lie qs j fr → ∀ s ∈ strs ps qs f i j fr, s.p ∈ ps ∧ s.q ∈ qs ∧ 1 ≤ s.til - s.fr ∧ s.til - s.fr ≤ s.p.len
  | 0, _, _, _, _, _, s, hs => by cases hs
  | f + 1, i, j, fr, h1, h2, s, hs => by
    by_cases hi : i < ps.length
    · have hj := h1.both h2 he hp hi
      obtain ⟨t, ht⟩ : ∃ t, t = min (sumL (ps.take (i + 1))) (sumL (qs.take (j + 1))) := ⟨_, rfl⟩
      rw [strs_step hi hj ht] at hs
      have t1 := h1.hi hi
      have t2 := h2.hi hj
      have hlo := h1.lo
      have hst := sumL_take ps i hi
      rcases List.mem_cons.1 hs with rfl | hs
      · exact ⟨List.getElem_mem hi, List.getElem_mem hj, by show 1 ≤ t - fr; omega, by show t - fr ≤ ps[i].len; omega⟩
      · exact strs_in hp hq he f _ _ t (h1.next hp hi (by omega) (by omega)) (h2.next hq hj (by omega) (by omega)) s hs
    · rw [strs_end hi] at hs
      cases hs
theorem strL_in {ps qs : List Piece} (hp : ∀ q ∈ ps, 1 ≤ q.len) (hq : ∀ q ∈ qs, 1 ≤ q.len) (he : sumL ps = sumL qs) : ∀ s ∈ strL ps qs, s.p ∈ ps ∧ s.q ∈ qs ∧ 1 ≤ s.til - s.fr ∧ s.til - s.fr ≤ s.p.len :=
  strs_in hp hq he _ 0 0 0 (Lie.start hp) (Lie.start hq)
theorem sfr_ok {x y z : Piece} {l : Int} (hx : pOk x = true) (hy : pOk y = true) (hl1 : 1 ≤ l) (hl2 : l ≤ 5000) (h : sfr x y l = some z) : pOk z = true := by
  have hif : ∀ p : Piece, pOk p = true → (1 ≤ p.len ∧ p.len ≤ 5000) ∧ (-1 ≤ p.turn ∧ p.turn ≤ 1) ∧ (15 ≤ p.wid ∧ p.wid ≤ 300) ∧ (1 ≤ p.sur ∧ p.sur ≤ 9) ∧ ((p.turn = 0 → p.rad = 0) ∧ (¬ p.turn = 0 → 5 ≤ p.rad ∧ p.rad ≤ 2000)) := by
    intro p h
    simp only [pOk, inR, Bool.and_eq_true, decide_eq_true_eq] at h
    refine ⟨h.1, h.2.1, h.2.2.1, h.2.2.2.1, fun h0 => ?_, fun h0 => ?_⟩
    · have := h.2.2.2.2; rw [if_pos h0] at this; simpa using this
    · have := h.2.2.2.2; rw [if_neg h0] at this; simpa using this
  have hfi : ∀ p : Piece, (1 ≤ p.len ∧ p.len ≤ 5000) → (-1 ≤ p.turn ∧ p.turn ≤ 1) → (15 ≤ p.wid ∧ p.wid ≤ 300) → (1 ≤ p.sur ∧ p.sur ≤ 9) → ((p.turn = 0 → p.rad = 0) ∧ (¬ p.turn = 0 → 5 ≤ p.rad ∧ p.rad ≤ 2000)) → pOk p = true := by
    intro p h1 h2 h3 h4 h5
    simp only [pOk, inR, Bool.and_eq_true, decide_eq_true_eq]
    refine ⟨h1, h2, h3, h4, ?_⟩
    split
    · rename_i h0; simpa using h5.1 h0
    · rename_i h0; simpa using h5.2 h0
  obtain ⟨x1, x2, x3, x4, x5, x6⟩ := hif x hx
  obtain ⟨y1, y2, y3, y4, y5, y6⟩ := hif y hy
  have hw : 15 ≤ (if y.wid < x.wid then y.wid else x.wid) ∧ (if y.wid < x.wid then y.wid else x.wid) ≤ 300 := by split <;> omega
  have hs : 1 ≤ (if x.sur < y.sur then y.sur else x.sur) ∧ (if x.sur < y.sur then y.sur else x.sur) ≤ 9 := by split <;> omega
  unfold sfr at h
  split at h
  · cases h; exact hfi _ ⟨hl1, hl2⟩ y2 hw hs ⟨y5, y6⟩
  · rename_i h1
    split at h
    · cases h; exact hfi _ ⟨hl1, hl2⟩ x2 hw hs ⟨x5, x6⟩
    · rename_i h2
      split at h
      · cases h
        have hr : 5 ≤ (if y.rad < x.rad then y.rad else x.rad) ∧ (if y.rad < x.rad then y.rad else x.rad) ≤ 2000 := by
          have a1 := x6 h1
          have a2 := y6 h2
          split <;> omega
        exact hfi _ ⟨hl1, hl2⟩ x2 hw hs ⟨fun h0 => absurd h0 h1, fun _ => hr⟩
      · cases h
/-- The safer pieces of stretches; none, if there is none for one of them. -/
def sfM (l : List Str) : Option (List Piece) := l.foldl (fun acc s => acc.bind fun L => (sfr s.p s.q (s.til - s.fr)).map fun z => L ++ [z]) (some [])
theorem sfM_snoc (l : List Str) (s : Str) : sfM (l ++ [s]) = (sfM l).bind fun L => (sfr s.p s.q (s.til - s.fr)).map fun z => L ++ [z] := by simp [sfM, List.foldl_append]
theorem sfM_none : ∀ (r l : List Str), sfM l = none → sfM (l ++ r) = none
  | [], l, h => by rw [List.append_nil]; exact h
  | s :: r, l, h => by
    have := sfM_none r (l ++ [s]) (by rw [sfM_snoc, h]; rfl)
    rwa [List.append_assoc] at this
theorem sfM_len : ∀ (l : List Str) {L : List Piece}, sfM l = some L → L.length = l.length := fun l => by
  induction l using snoc_ind with
  | h0 => intro L h; cases h; rfl
  | h1 l s ih =>
    intro L h
    rw [sfM_snoc] at h
    cases hl : sfM l with
    | none => rw [hl] at h; cases h
    | some L' =>
      rw [hl] at h
      simp only [Option.bind_some] at h
      cases hs : sfr s.p s.q (s.til - s.fr) with
      | none => rw [hs] at h; cases h
      | some z => rw [hs] at h; cases h; rw [List.length_append, List.length_append, ih hl]; rfl
theorem sfM_mem : ∀ (l : List Str) {L : List Piece}, sfM l = some L → ∀ z ∈ L, ∃ s ∈ l, sfr s.p s.q (s.til - s.fr) = some z := fun l => by
  induction l using snoc_ind with
  | h0 => intro L h z hz; cases h; cases hz
  | h1 l s ih =>
    intro L h z hz
    rw [sfM_snoc] at h
    cases hl : sfM l with
    | none => rw [hl] at h; cases h
    | some L' =>
      rw [hl] at h
      simp only [Option.bind_some] at h
      cases hs : sfr s.p s.q (s.til - s.fr) with
      | none => rw [hs] at h; cases h
      | some z' =>
        rw [hs] at h
        cases h
        rcases List.mem_append.1 hz with hz | hz
        · obtain ⟨s', h1, h2⟩ := ih hl z hz
          exact ⟨s', List.mem_append.2 (.inl h1), h2⟩
        · rw [List.mem_singleton] at hz
          subst hz
          exact ⟨s, List.mem_append.2 (.inr (List.mem_cons_self ..)), hs⟩
theorem sfM_ok {ps qs : List Piece} (hp : ∀ q ∈ ps, pOk q = true) (hq : ∀ q ∈ qs, pOk q = true) (he : sumL ps = sumL qs) {L : List Piece} (h : sfM (strL ps qs) = some L) : ∀ z ∈ L, pOk z = true := by
  intro z hz
  obtain ⟨s, h1, h2⟩ := sfM_mem _ h z hz
  obtain ⟨a1, a2, a3, a4⟩ := strL_in (fun q hq' => (pOk_len (hp q hq')).1) (fun q hq' => (pOk_len (hq q hq')).1) he s h1
  have := pOk_len (hp _ a1)
  exact sfr_ok (hp _ a1) (hq _ a2) a3 (by omega) h2
theorem sfr_len {x y : Piece} {l : Int} {z : Piece} (h : sfr x y 0 = some z) : sfr x y l = some { z with len := l } := by
  unfold sfr at h ⊢
  split at h
  · rename_i h1; rw [if_pos h1]; cases h; rfl
  · rename_i h1
    rw [if_neg h1]
    split at h
    · rename_i h2; rw [if_pos h2]; cases h; rfl
    · rename_i h2
      rw [if_neg h2]
      split at h
      · rename_i h3; rw [if_pos h3]; cases h; rfl
      · cases h
theorem sfr_no {x y : Piece} {l : Int} (h : sfr x y 0 = none) : sfr x y l = none := by
  unfold sfr at h ⊢
  split at h
  · cases h
  · rename_i h1
    rw [if_neg h1]
    split at h
    · cases h
    · rename_i h2
      rw [if_neg h2]
      split at h
      · cases h
      · rename_i h3; rw [if_neg h3]
theorem normP_ok {ps : List Piece} (hp : ∀ q ∈ ps, pOk q = true) : ∀ z ∈ normP ps, pOk z = true := by
  intro z hz
  have h1 : ∀ q ∈ ps, 1 ≤ q.len := fun q hq => (pOk_len (hp q hq)).1
  obtain ⟨p, hpm, hpe⟩ := norm_of h1 hz
  exact pOk_one (hp p hpm) hpe (norm_ge h1 z hz)
end Go.Proofs.Ytomloklckpcaiaa

/- The safer road's pieces, place by place, are those of the stretches. No program in sight. -/
namespace Go.Proofs.Ytomloklckpcaiaa
open Go.RowKit Go.Shelf Go.Sort Go.Proofs

/-- The document's pieces of the first k places; none, if there is none for one of them. -/
def rfM (xs ys : List Piece) : Nat → Option (List Piece)
  | 0 => some []
  | k + 1 => (rfM xs ys k).bind fun L => match xs[k]?, ys[k]? with
    | some x, some y => (sfr x y 1).map fun z => L ++ [z]
    | _, _ => some L
theorem rfM_succ (xs ys : List Piece) (k : Nat) {x y : Piece} (hx : xs[k]? = some x) (hy : ys[k]? = some y) : rfM xs ys (k + 1) = (rfM xs ys k).bind fun L => (sfr x y 1).map fun z => L ++ [z] := by
  rw [rfM, hx, hy]
theorem rfM_len (xs ys : List Piece) : ∀ (k : Nat) {L : List Piece}, rfM xs ys k = some L → L.length ≤ k
  | 0, L, h => by cases h; exact Nat.le_refl _
  | k + 1, L, h => by
    rw [rfM] at h
    cases hk : rfM xs ys k with
    | none => rw [hk] at h; cases h
    | some L' =>
      rw [hk] at h
      have ih := rfM_len xs ys k hk
      simp only [Option.bind_some] at h
      split at h
      · rename_i x y _ _
        cases hs : sfr x y 1 with
        | none => rw [hs] at h; cases h
        | some z => rw [hs] at h; cases h; simp; omega
      · cases h; omega
theorem rfM_none (xs ys : List Piece) {k : Nat} (h : rfM xs ys k = none) : ∀ d, rfM xs ys (k + d) = none
  | 0 => h
  | d + 1 => by rw [← Nat.add_assoc, rfM, rfM_none xs ys h d]; rfl
theorem rfM_run (xs ys : List Piece) {x y : Piece} (k : Nat) : ∀ m : Nat, (∀ i, i < m + 1 → xs[k + i]? = some x ∧ ys[k + i]? = some y) →
    rfM xs ys (k + (m + 1)) = (rfM xs ys k).bind fun L => (sfr x y 1).map fun z => L ++ List.replicate (m + 1) z
  | 0, h => by
    obtain ⟨h1, h2⟩ := h 0 (by omega)
    rw [rfM_succ xs ys k h1 h2]
    rfl
  | m + 1, h => by
    obtain ⟨h1, h2⟩ := h (m + 1) (by omega)
    have ih := rfM_run xs ys k m (fun i hi => h i (by omega))
    show rfM xs ys ((k + (m + 1)) + 1) = _
    rw [rfM_succ xs ys (k + (m + 1)) h1 h2, ih]
    cases rfM xs ys k with
    | none => rfl
    | some L =>
      cases sfr x y 1 with
      | none => rfl
      | some z =>
        simp only [Option.bind_some, Option.map_some]
        rw [List.append_assoc, ← List.replicate_succ']
theorem sfr_one (p q : Piece) (l : Int) : sfr (one p) (one q) l = sfr p q l := rfl
theorem sfr_units {p q : Piece} {l : Int} : (sfr p q 1).map (fun z => List.replicate l.toNat z) = (sfr p q l).map fun z => units [z] := by
  unfold sfr
  split
  · simp [units, one]
  · split
    · simp [units, one]
    · split
      · simp [units, one]
      · rfl
theorem fold_safer {ps qs : List Piece} (hp : ∀ q ∈ ps, 1 ≤ q.len) (hq : ∀ q ∈ qs, 1 ≤ q.len) (he : sumL ps = sumL qs) : ∀ (f i j : Nat) (fr : Int) (acc : Option (List Piece)), Lie ps i fr → Lie qs j fr → (ps.length - i) + (qs.length - j) ≤ f →
    rfM (units ps) (units qs) fr.toNat = acc.map units →
    rfM (units ps) (units qs) (sumL ps).toNat = ((strs ps qs f i j fr).foldl (fun acc s => acc.bind fun L => (sfr s.p s.q (s.til - s.fr)).map fun z => L ++ [z]) acc).map units
  | 0, i, j, fr, acc, h1, _, hf, ha => by
    rw [strs, List.foldl_nil, ← ha, h1.end_ (by omega)]
  | f + 1, i, j, fr, acc, h1, h2, hf, ha => by
    by_cases hi : i < ps.length
    · have hj := h1.both h2 he hp hi
      have hpi : ps[i]? = some ps[i] := List.getElem?_eq_getElem hi
      have hqj : qs[j]? = some qs[j] := List.getElem?_eq_getElem hj
      obtain ⟨t, ht⟩ : ∃ t, t = min (sumL (ps.take (i + 1))) (sumL (qs.take (j + 1))) := ⟨_, rfl⟩
      rw [strs_step hi hj ht, List.foldl_cons]
      have t1 := h1.hi hi
      have t2 := h2.hi hj
      have hn := h1.nn
      have hlo1 := h1.lo
      have hlo2 := h2.lo
      obtain ⟨m, hm⟩ : ∃ m : Nat, t = fr + (m + 1 : Nat) := ⟨(t - fr - 1).toNat, by omega⟩
      have hrun := rfM_run (units ps) (units qs) (x := one ps[i]) (y := one qs[j]) fr.toNat m (fun k hk => by
        have e : fr.toNat + k = (fr + k).toNat := by omega
        rw [e]
        exact ⟨at_units (fun q hq => by have := hp q hq; omega) (by omega) ⟨hi, by omega, by omega⟩ hpi, at_units (fun q hq' => by have := hq q hq'; omega) (by omega) ⟨hj, by omega, by omega⟩ hqj⟩)
      have hnew : rfM (units ps) (units qs) t.toNat = (acc.bind fun L => (sfr ps[i] qs[j] (t - fr)).map fun z => L ++ [z]).map units := by
        have e1 : t.toNat = fr.toNat + (m + 1) := by omega
        rw [e1, hrun, ha, sfr_one]
        have hu := sfr_units (p := ps[i]) (q := qs[j]) (l := t - fr)
        have hl : (t - fr).toNat = m + 1 := by omega
        rw [hl] at hu
        cases acc with
        | none => rfl
        | some L =>
          simp only [Option.map_some, Option.bind_some]
          cases h5 : sfr ps[i] qs[j] 1 with
          | none =>
            rw [h5] at hu
            cases h6 : sfr ps[i] qs[j] (t - fr) with
            | none => rfl
            | some z => rw [h6] at hu; cases hu
          | some z1 =>
            rw [h5] at hu
            cases h6 : sfr ps[i] qs[j] (t - fr) with
            | none => rw [h6] at hu; cases hu
            | some z =>
              rw [h6] at hu
              simp only [Option.map_some, Option.some.injEq] at hu ⊢
              rw [units_append, hu]
      refine fold_safer hp hq he f _ _ t _ (h1.next hp hi (by omega) (by omega)) (h2.next hq hj (by omega) (by omega)) ?_ hnew
      have a1 := nxI_le ps i t
      have a2 := nxI_le qs j t
      have a3 : nxI ps i t = i + 1 ∨ nxI qs j t = j + 1 := by
        unfold nxI
        rcases Int.le_total (sumL (ps.take (i + 1))) (sumL (qs.take (j + 1))) with h | h
        · exact .inl (if_pos (by omega))
        · exact .inr (if_pos (by omega))
      omega
    · rw [strs_end hi, List.foldl_nil, ← ha, h1.end_ hi]
/-- Place by place it is the same as by stretches. -/
theorem rfM_sfM {ps qs : List Piece} (hp : ∀ q ∈ ps, 1 ≤ q.len) (hq : ∀ q ∈ qs, 1 ≤ q.len) (he : sumL ps = sumL qs) : rfM (units ps) (units qs) (sumL ps).toNat = (sfM (strL ps qs)).map units :=
  fold_safer hp hq he _ 0 0 0 (some []) (Lie.start hp) (Lie.start hq) (by omega) rfl
end Go.Proofs.Ytomloklckpcaiaa
