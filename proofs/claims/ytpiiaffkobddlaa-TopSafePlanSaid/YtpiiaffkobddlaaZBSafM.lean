/- The safer pieces of two surveys' stretches are pieces as defined. No program in sight. -/
import Derived.Test.YtpiiaffkobddlaaZBSfr
import Derived.Test.YtpiiaffkobddlaaZBBackM
import Derived.Test.YtpiiaffkobddlaaZBRuns
namespace Go.Proofs.Ytpiiaffkobddlaa
open Go.RowKit Go.Shelf Go.Sort Go.Proofs

theorem strs_in {ps qs : List Piece} (hp : ∀ q ∈ ps, 1 ≤ q.len) (hq : ∀ q ∈ qs, 1 ≤ q.len) (he : sumL ps = sumL qs) : ∀ (f i j : Nat) (fr : Int), Lie ps i fr → Lie qs j fr → ∀ s ∈ strs ps qs f i j fr, s.p ∈ ps ∧ s.q ∈ qs ∧ 1 ≤ s.til - s.fr ∧ s.til - s.fr ≤ s.p.len
  | 0, _, _, _, _, _, s, hs => by cases hs
  | f + 1, i, j, fr, h1, h2, s, hs => by
    by_cases hi : i < ps.length
    · have hj := h1.both h2 he hp hi
      obtain ⟨t, ht⟩ : ∃ t, t = min (sumL (ps.take (i + 1))) (sumL (qs.take (j + 1))) := ⟨_, rfl⟩
      rw [strs_step hi hj ht] at hs
      have t1 := h1.hi hi
      have t2 := h2.hi hj
      have hlo := h1.lo
      have hst := sumL_take ps i hi
      rcases List.mem_cons.1 hs with rfl | hs
      · exact ⟨List.getElem_mem hi, List.getElem_mem hj, by show 1 ≤ t - fr; omega, by show t - fr ≤ ps[i].len; omega⟩
      · exact strs_in hp hq he f _ _ t (h1.next hp hi (by omega) (by omega)) (h2.next hq hj (by omega) (by omega)) s hs
    · rw [strs_end hi] at hs
      cases hs
theorem strL_in {ps qs : List Piece} (hp : ∀ q ∈ ps, 1 ≤ q.len) (hq : ∀ q ∈ qs, 1 ≤ q.len) (he : sumL ps = sumL qs) : ∀ s ∈ strL ps qs, s.p ∈ ps ∧ s.q ∈ qs ∧ 1 ≤ s.til - s.fr ∧ s.til - s.fr ≤ s.p.len :=
  strs_in hp hq he _ 0 0 0 (Lie.start hp) (Lie.start hq)
theorem sfr_ok {x y z : Piece} {l : Int} (hx : pOk x = true) (hy : pOk y = true) (hl1 : 1 ≤ l) (hl2 : l ≤ 5000) (h : sfr x y l = some z) : pOk z = true := by
  have hif : ∀ p : Piece, pOk p = true → (1 ≤ p.len ∧ p.len ≤ 5000) ∧ (-1 ≤ p.turn ∧ p.turn ≤ 1) ∧ (15 ≤ p.wid ∧ p.wid ≤ 300) ∧ (1 ≤ p.sur ∧ p.sur ≤ 9) ∧ ((p.turn = 0 → p.rad = 0) ∧ (¬ p.turn = 0 → 5 ≤ p.rad ∧ p.rad ≤ 2000)) := by
    intro p h
    simp only [pOk, inR, Bool.and_eq_true, decide_eq_true_eq] at h
    refine ⟨h.1, h.2.1, h.2.2.1, h.2.2.2.1, fun h0 => ?_, fun h0 => ?_⟩
    · have := h.2.2.2.2; rw [if_pos h0] at this; simpa using this
    · have := h.2.2.2.2; rw [if_neg h0] at this; simpa using this
  have hfi : ∀ p : Piece, (1 ≤ p.len ∧ p.len ≤ 5000) → (-1 ≤ p.turn ∧ p.turn ≤ 1) → (15 ≤ p.wid ∧ p.wid ≤ 300) → (1 ≤ p.sur ∧ p.sur ≤ 9) → ((p.turn = 0 → p.rad = 0) ∧ (¬ p.turn = 0 → 5 ≤ p.rad ∧ p.rad ≤ 2000)) → pOk p = true := by
    intro p h1 h2 h3 h4 h5
    simp only [pOk, inR, Bool.and_eq_true, decide_eq_true_eq]
    refine ⟨h1, h2, h3, h4, ?_⟩
    split
    · rename_i h0; simpa using h5.1 h0
    · rename_i h0; simpa using h5.2 h0
  obtain ⟨x1, x2, x3, x4, x5, x6⟩ := hif x hx
  obtain ⟨y1, y2, y3, y4, y5, y6⟩ := hif y hy
  have hw : 15 ≤ (if y.wid < x.wid then y.wid else x.wid) ∧ (if y.wid < x.wid then y.wid else x.wid) ≤ 300 := by split <;> omega
  have hs : 1 ≤ (if x.sur < y.sur then y.sur else x.sur) ∧ (if x.sur < y.sur then y.sur else x.sur) ≤ 9 := by split <;> omega
  unfold sfr at h
  split at h
  · cases h; exact hfi _ ⟨hl1, hl2⟩ y2 hw hs ⟨y5, y6⟩
  · rename_i h1
    split at h
    · cases h; exact hfi _ ⟨hl1, hl2⟩ x2 hw hs ⟨x5, x6⟩
    · rename_i h2
      split at h
      · cases h
        have hr : 5 ≤ (if y.rad < x.rad then y.rad else x.rad) ∧ (if y.rad < x.rad then y.rad else x.rad) ≤ 2000 := by
          have a1 := x6 h1
          have a2 := y6 h2
          split <;> omega
        exact hfi _ ⟨hl1, hl2⟩ x2 hw hs ⟨fun h0 => absurd h0 h1, fun _ => hr⟩
      · cases h
/-- The safer pieces of stretches; none, if there is none for one of them. -/
def sfM (l : List Str) : Option (List Piece) := l.foldl (fun acc s => acc.bind fun L => (sfr s.p s.q (s.til - s.fr)).map fun z => L ++ [z]) (some [])
theorem sfM_snoc (l : List Str) (s : Str) : sfM (l ++ [s]) = (sfM l).bind fun L => (sfr s.p s.q (s.til - s.fr)).map fun z => L ++ [z] := by simp [sfM, List.foldl_append]
theorem sfM_none : ∀ (r l : List Str), sfM l = none → sfM (l ++ r) = none
  | [], l, h => by rw [List.append_nil]; exact h
  | s :: r, l, h => by
    have := sfM_none r (l ++ [s]) (by rw [sfM_snoc, h]; rfl)
    rwa [List.append_assoc] at this
theorem sfM_len : ∀ (l : List Str) {L : List Piece}, sfM l = some L → L.length = l.length := fun l => by
  induction l using snoc_ind with
  | h0 => intro L h; cases h; rfl
  | h1 l s ih =>
    intro L h
    rw [sfM_snoc] at h
    cases hl : sfM l with
    | none => rw [hl] at h; cases h
    | some L' =>
      rw [hl] at h
      simp only [Option.bind_some] at h
      cases hs : sfr s.p s.q (s.til - s.fr) with
      | none => rw [hs] at h; cases h
      | some z => rw [hs] at h; cases h; rw [List.length_append, List.length_append, ih hl]; rfl
theorem sfM_mem : ∀ (l : List Str) {L : List Piece}, sfM l = some L → ∀ z ∈ L, ∃ s ∈ l, sfr s.p s.q (s.til - s.fr) = some z := fun l => by
  induction l using snoc_ind with
  | h0 => intro L h z hz; cases h; cases hz
  | h1 l s ih =>
    intro L h z hz
    rw [sfM_snoc] at h
    cases hl : sfM l with
    | none => rw [hl] at h; cases h
    | some L' =>
      rw [hl] at h
      simp only [Option.bind_some] at h
      cases hs : sfr s.p s.q (s.til - s.fr) with
      | none => rw [hs] at h; cases h
      | some z' =>
        rw [hs] at h
        cases h
        rcases List.mem_append.1 hz with hz | hz
        · obtain ⟨s', h1, h2⟩ := ih hl z hz
          exact ⟨s', List.mem_append.2 (.inl h1), h2⟩
        · rw [List.mem_singleton] at hz
          subst hz
          exact ⟨s, List.mem_append.2 (.inr (List.mem_cons_self ..)), hs⟩
theorem sfM_ok {ps qs : List Piece} (hp : ∀ q ∈ ps, pOk q = true) (hq : ∀ q ∈ qs, pOk q = true) (he : sumL ps = sumL qs) {L : List Piece} (h : sfM (strL ps qs) = some L) : ∀ z ∈ L, pOk z = true := by
  intro z hz
  obtain ⟨s, h1, h2⟩ := sfM_mem _ h z hz
  obtain ⟨a1, a2, a3, a4⟩ := strL_in (fun q hq' => (pOk_len (hp q hq')).1) (fun q hq' => (pOk_len (hq q hq')).1) he s h1
  have := pOk_len (hp _ a1)
  exact sfr_ok (hp _ a1) (hq _ a2) a3 (by omega) h2
theorem sfr_len {x y : Piece} {l : Int} {z : Piece} (h : sfr x y 0 = some z) : sfr x y l = some { z with len := l } := by
  unfold sfr at h ⊢
  split at h
  · rename_i h1; rw [if_pos h1]; cases h; rfl
  · rename_i h1
    rw [if_neg h1]
    split at h
    · rename_i h2; rw [if_pos h2]; cases h; rfl
    · rename_i h2
      rw [if_neg h2]
      split at h
      · rename_i h3; rw [if_pos h3]; cases h; rfl
      · cases h
theorem sfr_no {x y : Piece} {l : Int} (h : sfr x y 0 = none) : sfr x y l = none := by
  unfold sfr at h ⊢
  split at h
  · cases h
  · rename_i h1
    rw [if_neg h1]
    split at h
    · cases h
    · rename_i h2
      rw [if_neg h2]
      split at h
      · cases h
      · rename_i h3; rw [if_neg h3]
theorem normP_ok {ps : List Piece} (hp : ∀ q ∈ ps, pOk q = true) : ∀ z ∈ normP ps, pOk z = true := by
  intro z hz
  have h1 : ∀ q ∈ ps, 1 ≤ q.len := fun q hq => (pOk_len (hp q hq)).1
  obtain ⟨p, hpm, hpe⟩ := norm_of h1 hz
  exact pOk_one (hp p hpm) hpe (norm_ge h1 z hz)
end Go.Proofs.Ytpiiaffkobddlaa

/- The safer road's pieces, place by place, are those of the stretches. No program in sight. -/
namespace Go.Proofs.Ytpiiaffkobddlaa
open Go.RowKit Go.Shelf Go.Sort Go.Proofs

/-- The document's pieces of the first k places; none, if there is none for one of them. -/
def rfM (xs ys : List Piece) : Nat → Option (List Piece)
  | 0 => some []
  | k + 1 => (rfM xs ys k).bind fun L => match xs[k]?, ys[k]? with
    | some x, some y => (sfr x y 1).map fun z => L ++ [z]
    | _, _ => some L
theorem rfM_succ (xs ys : List Piece) (k : Nat) {x y : Piece} (hx : xs[k]? = some x) (hy : ys[k]? = some y) : rfM xs ys (k + 1) = (rfM xs ys k).bind fun L => (sfr x y 1).map fun z => L ++ [z] := by
  rw [rfM, hx, hy]
theorem rfM_run (xs ys : List Piece) {x y : Piece} (k : Nat) : ∀ m : Nat, (∀ i, i < m + 1 → xs[k + i]? = some x ∧ ys[k + i]? = some y) →
    rfM xs ys (k + (m + 1)) = (rfM xs ys k).bind fun L => (sfr x y 1).map fun z => L ++ List.replicate (m + 1) z
  | 0, h => by
    obtain ⟨h1, h2⟩ := h 0 (by omega)
    rw [rfM_succ xs ys k h1 h2]
    rfl
  | m + 1, h => by
    obtain ⟨h1, h2⟩ := h (m + 1) (by omega)
    have ih := rfM_run xs ys k m (fun i hi => h i (by omega))
    show rfM xs ys ((k + (m + 1)) + 1) = _
    rw [rfM_succ xs ys (k + (m + 1)) h1 h2, ih]
    cases rfM xs ys k with
    | none => rfl
    | some L =>
      cases sfr x y 1 with
      | none => rfl
      | some z =>
        simp only [Option.bind_some, Option.map_some]
        rw [List.append_assoc, ← List.replicate_succ']
theorem sfr_one (p q : Piece) (l : Int) : sfr (one p) (one q) l = sfr p q l := rfl
theorem sfr_units {p q : Piece} {l : Int} : (sfr p q 1).map (fun z => List.replicate l.toNat z) = (sfr p q l).map fun z => units [z] := by
  unfold sfr
  split
  · simp [units, one]
  · split
    · simp [units, one]
    · split
      · simp [units, one]
      · rfl
theorem fold_safer {ps qs : List Piece} (hp : ∀ q ∈ ps, 1 ≤ q.len) (hq : ∀ q ∈ qs, 1 ≤ q.len) (he : sumL ps = sumL qs) : ∀ (f i j : Nat) (fr : Int) (acc : Option (List Piece)), Lie ps i fr → Lie qs j fr → (ps.length - i) + (qs.length - j) ≤ f →
    rfM (units ps) (units qs) fr.toNat = acc.map units →
    rfM (units ps) (units qs) (sumL ps).toNat = ((strs ps qs f i j fr).foldl (fun acc s => acc.bind fun L => (sfr s.p s.q (s.til - s.fr)).map fun z => L ++ [z]) acc).map units
  | 0, i, j, fr, acc, h1, _, hf, ha => by
    rw [strs, List.foldl_nil, ← ha, h1.end_ (by omega)]
  | f + 1, i, j, fr, acc, h1, h2, hf, ha => by
    by_cases hi : i < ps.length
    · have hj := h1.both h2 he hp hi
      have hpi : ps[i]? = some ps[i] := List.getElem?_eq_getElem hi
      have hqj : qs[j]? = some qs[j] := List.getElem?_eq_getElem hj
      obtain ⟨t, ht⟩ : ∃ t, t = min (sumL (ps.take (i + 1))) (sumL (qs.take (j + 1))) := ⟨_, rfl⟩
      rw [strs_step hi hj ht, List.foldl_cons]
      have t1 := h1.hi hi
      have t2 := h2.hi hj
      have hn := h1.nn
      have hlo1 := h1.lo
      have hlo2 := h2.lo
      obtain ⟨m, hm⟩ : ∃ m : Nat, t = fr + (m + 1 : Nat) := ⟨(t - fr - 1).toNat, by omega⟩
      have hrun := rfM_run (units ps) (units qs) (x := one ps[i]) (y := one qs[j]) fr.toNat m (fun k hk => by
        have e : fr.toNat + k = (fr + k).toNat := by omega
        rw [e]
        exact ⟨at_units (fun q hq => by have := hp q hq; omega) (by omega) ⟨hi, by omega, by omega⟩ hpi, at_units (fun q hq' => by have := hq q hq'; omega) (by omega) ⟨hj, by omega, by omega⟩ hqj⟩)
      have hnew : rfM (units ps) (units qs) t.toNat = (acc.bind fun L => (sfr ps[i] qs[j] (t - fr)).map fun z => L ++ [z]).map units := by
        have e1 : t.toNat = fr.toNat + (m + 1) := by omega
        rw [e1, hrun, ha, sfr_one]
        have hu := sfr_units (p := ps[i]) (q := qs[j]) (l := t - fr)
        have hl : (t - fr).toNat = m + 1 := by omega
        rw [hl] at hu
        cases acc with
        | none => rfl
        | some L =>
          simp only [Option.map_some, Option.bind_some]
          cases h5 : sfr ps[i] qs[j] 1 with
          | none =>
            rw [h5] at hu
            cases h6 : sfr ps[i] qs[j] (t - fr) with
            | none => rfl
            | some z => rw [h6] at hu; cases hu
          | some z1 =>
            rw [h5] at hu
            cases h6 : sfr ps[i] qs[j] (t - fr) with
            | none => rw [h6] at hu; cases hu
            | some z =>
              rw [h6] at hu
              simp only [Option.map_some, Option.some.injEq] at hu ⊢
              rw [units_append, hu]
      refine fold_safer hp hq he f _ _ t _ (h1.next hp hi (by omega) (by omega)) (h2.next hq hj (by omega) (by omega)) ?_ hnew
      have a1 := nxI_le ps i t
      have a2 := nxI_le qs j t
      have a3 : nxI ps i t = i + 1 ∨ nxI qs j t = j + 1 := by
        unfold nxI
        rcases Int.le_total (sumL (ps.take (i + 1))) (sumL (qs.take (j + 1))) with h | h
        · exact .inl (if_pos (by omega))
        · exact .inr (if_pos (by omega))
      omega
    · rw [strs_end hi, List.foldl_nil, ← ha, h1.end_ hi]
/-- Place by place it is the same as by stretches. -/
theorem rfM_sfM {ps qs : List Piece} (hp : ∀ q ∈ ps, 1 ≤ q.len) (hq : ∀ q ∈ qs, 1 ≤ q.len) (he : sumL ps = sumL qs) : rfM (units ps) (units qs) (sumL ps).toNat = (sfM (strL ps qs)).map units :=
  fold_safer hp hq he _ 0 0 0 (some []) (Lie.start hp) (Lie.start hq) (by omega) rfl
end Go.Proofs.Ytpiiaffkobddlaa

/- Two strictly sorted lists, merged by steps: what sorting and joining neighbours makes of them. No program in sight. -/
namespace Go.Proofs.Ytpiiaffkobddlaa
open Go.RowKit Go.Shelf Go.Sort Go.Proofs

section
variable {α : Type} (key : α → Int) (both : α → α → α) (ok : α → α → Bool)
def mr2 : List α → List α → List α
  | [], R => R
  | l :: L, [] => l :: L
  | l :: L, r :: R => if key l < key r then l :: mr2 L (r :: R) else if key r < key l then r :: mr2 (l :: L) R else both l r :: mr2 L R
termination_by L R => L.length + R.length
def mr2g : List α → List α → Bool
  | [], _ => true
  | _ :: _, [] => true
  | l :: L, r :: R => if key l < key r then mr2g L (r :: R) else if key r < key l then mr2g (l :: L) R else ok l r && mr2g L R
termination_by L R => L.length + R.length
theorem mr2_nil (L : List α) : mr2 key both L [] = L := by cases L <;> simp [mr2]
theorem nil_mr2 (R : List α) : mr2 key both [] R = R := by simp [mr2]
theorem mr2_cons (l : α) (L : List α) (r : α) (R : List α) : mr2 key both (l :: L) (r :: R) = if key l < key r then l :: mr2 key both L (r :: R) else if key r < key l then r :: mr2 key both (l :: L) R else both l r :: mr2 key both L R := by rw [mr2]
theorem mr2g_nil (L : List α) : mr2g key ok L [] = true := by cases L <;> simp [mr2g]
theorem nil_mr2g (R : List α) : mr2g key ok [] R = true := by simp [mr2g]
theorem mr2g_cons (l : α) (L : List α) (r : α) (R : List α) : mr2g key ok (l :: L) (r :: R) = if key l < key r then mr2g key ok L (r :: R) else if key r < key l then mr2g key ok (l :: L) R else ok l r && mr2g key ok L R := by rw [mr2g]
theorem mrg_mem : ∀ {L R : List α} {z : α}, z ∈ mrg key L R → z ∈ L ∨ z ∈ R
  | [], R, z, h => .inr (by rwa [nil_mrg] at h)
  | l :: L, [], z, h => .inl (by rwa [mrg_nil] at h)
  | l :: L, r :: R, z, h => by
    rw [mrg_cons] at h
    split at h
    · rcases List.mem_cons.1 h with rfl | h
      · exact .inr (List.mem_cons_self ..)
      · rcases mrg_mem h with h | h
        · exact .inl h
        · exact .inr (List.mem_cons_of_mem _ h)
    · rcases List.mem_cons.1 h with rfl | h
      · exact .inl (List.mem_cons_self ..)
      · rcases mrg_mem h with h | h
        · exact .inl (List.mem_cons_of_mem _ h)
        · exact .inr h
termination_by L R => L.length + R.length
theorem ded_far {x : α} {l : List α} (h : ∀ z ∈ l, key x < key z) : ded key both x l = x :: mgd key both l := by
  cases l with
  | nil => rfl
  | cons y r =>
    have := h y (List.mem_cons_self ..)
    rw [ded, if_neg (by omega)]
    rfl
theorem good_far {x : α} {l : List α} (h : ∀ z ∈ l, key x < key z) : good key both ok x l = mgood key both ok l := by
  cases l with
  | nil => rfl
  | cons y r =>
    have := h y (List.mem_cons_self ..)
    rw [good, if_neg (by omega)]
    rfl
def Pw (l : List α) : Prop := l.Pairwise fun a b => key a < key b
theorem Pw.srt {l : List α} (h : Pw key l) : Srt key l := h.imp (fun h => Int.le_of_lt h)
theorem ssort_app {L R : List α} (hL : Pw key L) (hR : Pw key R) : ssort key (L ++ R) = mrg key L R := by
  rw [← mrg_ssort, ssort_of_srt key hL.srt, ssort_of_srt key hR.srt]
/-- Where the heads are equal, both stand ahead of all else. -/
theorem mrg_eq {l r : α} {L R : List α} (hL : Pw key (l :: L)) (hR : Pw key (r :: R)) (he : key l = key r) : mrg key (l :: L) (r :: R) = l :: r :: mrg key L R ∧ (∀ z ∈ mrg key L R, key l < key z) := by
  obtain ⟨h1, h2⟩ := List.pairwise_cons.1 hL
  obtain ⟨h3, h4⟩ := List.pairwise_cons.1 hR
  refine ⟨?_, fun z hz => ?_⟩
  · rw [mrg_cons, if_neg (by omega)]
    congr 1
    cases L with
    | nil => rw [nil_mrg, nil_mrg]
    | cons x L =>
      have := h1 x (List.mem_cons_self ..)
      rw [mrg_cons, if_pos (by omega)]
  · rcases mrg_mem key hz with hz | hz
    · exact h1 z hz
    · have := h3 z hz; omega
theorem mgd_mrg (hb : ∀ x y, key (both x y) = key x) : ∀ {L R : List α}, Pw key L → Pw key R → mgd key both (mrg key L R) = mr2 key both L R ∧ mgood key both ok (mrg key L R) = mr2g key ok L R
  | [], R, _, hR => by
    rw [nil_mrg, nil_mr2, nil_mr2g]
    induction R with
    | nil => exact ⟨rfl, rfl⟩
    | cons r R ih =>
      obtain ⟨h3, h4⟩ := List.pairwise_cons.1 hR
      obtain ⟨i1, i2⟩ := ih h4
      exact ⟨by rw [mgd, ded_far key both h3, i1], by rw [mgood, good_far key both ok h3, i2]⟩
  | l :: L, [], hL, _ => by
    rw [mrg_nil, mr2_nil, mr2g_nil]
    obtain ⟨h1, h2⟩ := List.pairwise_cons.1 hL
    have ih := mgd_mrg hb (L := L) (R := []) h2 List.Pairwise.nil
    rw [mrg_nil, mr2_nil, mr2g_nil] at ih
    exact ⟨by rw [mgd, ded_far key both h1, ih.1], by rw [mgood, good_far key both ok h1, ih.2]⟩
  | l :: L, r :: R, hL, hR => by
    obtain ⟨h1, h2⟩ := List.pairwise_cons.1 hL
    obtain ⟨h3, h4⟩ := List.pairwise_cons.1 hR
    rw [mr2_cons, mr2g_cons]
    by_cases c1 : key l < key r
    · have hfar : ∀ z ∈ mrg key L (r :: R), key l < key z := fun z hz => by
        rcases mrg_mem key hz with hz | hz
        · exact h1 z hz
        · rcases List.mem_cons.1 hz with rfl | hz
          · exact c1
          · have := h3 z hz; omega
      have ih := mgd_mrg hb (L := L) (R := r :: R) h2 hR
      rw [mrg_cons, if_neg (by omega), if_pos c1, if_pos c1]
      exact ⟨by rw [mgd, ded_far key both hfar, ih.1], by rw [mgood, good_far key both ok hfar, ih.2]⟩
    · rw [if_neg c1, if_neg c1]
      by_cases c2 : key r < key l
      · have hfar : ∀ z ∈ mrg key (l :: L) R, key r < key z := fun z hz => by
          rcases mrg_mem key hz with hz | hz
          · rcases List.mem_cons.1 hz with rfl | hz
            · exact c2
            · have := h1 z hz; omega
          · exact h3 z hz
        have ih := mgd_mrg hb (L := l :: L) (R := R) hL h4
        rw [mrg_cons, if_pos c2, if_pos c2, if_pos c2]
        exact ⟨by rw [mgd, ded_far key both hfar, ih.1], by rw [mgood, good_far key both ok hfar, ih.2]⟩
      · rw [if_neg c2, if_neg c2]
        obtain ⟨e1, e2⟩ := mrg_eq key hL hR (by omega)
        have ih := mgd_mrg hb (L := L) (R := R) h2 h4
        rw [e1]
        have e3 : ∀ z ∈ mrg key L R, key (both l r) < key z := fun z hz => by rw [hb]; exact e2 z hz
        exact ⟨by rw [mgd, ded, if_pos (by omega), ded_far key both e3, ih.1], by rw [mgood, good, if_pos (by omega), good_far key both ok e3, ih.2]⟩
termination_by L R => L.length + R.length
end
end Go.Proofs.Ytpiiaffkobddlaa
