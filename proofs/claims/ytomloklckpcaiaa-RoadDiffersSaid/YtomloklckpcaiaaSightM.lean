/- The search for sight, piece by piece: that what the loop gathers is the sight. Plain; no program. -/
import Derived.Test.YtomloklckpcaiaaSight
namespace Go.Proofs.Ytomloklckpcaiaa
open Go.RowKit Go.Proofs

theorem trn_zero (p : Piece) (ht : tOk p) : trn p 0 = 0 := by
  unfold trn
  split
  · rfl
  · rename_i hn
    obtain ⟨h1, h2⟩ := ht.2.2 hn
    have : rnd (1000 * 0) p.rad = 0 := by
      unfold rnd
      rw [if_neg (by omega)]
      exact Int.ediv_eq_zero_of_lt (by omega) (by omega)
    rw [this, Int.mul_zero]
/-- The turning of whole pieces. -/
def bfP (l : List Piece) : Int := (l.map fun p => trn p p.len).sum
theorem upt_whole : ∀ (l : List Piece) (x : Int), (∀ p ∈ l, pOk p = true) → sumL l ≤ x → upt l x = bfP l
  | [], _, _, _ => rfl
  | p :: l, x, h, hx => by
    have hp := (pOk_len (h p (List.mem_cons_self ..))).1
    have e : sumL (p :: l) = p.len + sumL l := by simp [sumL]
    have hs := (sumL_bd l (fun q hq => h q (List.mem_cons_of_mem _ hq))).1
    rw [e] at hx
    rw [upt, if_neg (by omega), upt_whole l (x - p.len) (fun q hq => h q (List.mem_cons_of_mem _ hq)) (by omega), Int.min_eq_right (by omega)]
    simp [bfP]
theorem upt_at (ps : List Piece) (k : Nat) (h : k < ps.length) (hk : ∀ p ∈ ps, pOk p = true) (q : Int) (h0 : sumL (ps.take k) ≤ q) (h1 : q ≤ sumL (ps.take k) + ps[k].len) :
    upt ps q = bfP (ps.take k) + trn ps[k] (q - sumL (ps.take k)) := by
  have e := upt_append (ps.take k) (ps.drop k) q (fun p hp => hk p (List.mem_of_mem_take hp))
  rw [List.take_append_drop, upt_whole _ _ (fun p hp => hk p (List.mem_of_mem_take hp)) h0, List.drop_eq_getElem_cons h, upt] at e
  rw [e]
  split
  · rw [show q - sumL (ps.take k) = 0 by omega, trn_zero _ (pOk_tOk (hk _ (List.getElem_mem h)))]
  · rw [Int.min_eq_left (by omega), upt_neg _ _ (by omega), Int.add_zero]

section
variable (pl M an bg : Int)
/-- What has been gathered when pre has come: the turning of the whole pieces; how far is seen. -/
def bfr (pre : List (Int × Piece)) : Int := (pre.map fun e => trn e.2 e.2.len).sum
def sfd (pre : List (Int × Piece)) : Int := pre.foldl (fun s e => if e.1 + e.2.len ≤ pl then s else e.1 + e.2.len) pl
/-- The turning to q, by the loop's reckoning, is at most an. -/
def okL (b : Int) (e : Int × Piece) (q : Int) : Prop := -an ≤ b + trn e.2 (q - e.1) - bg ∧ b + trn e.2 (q - e.1) - bg ≤ an
/-- The loop goes on behind the piece e. -/
def goes (b : Int) (e : Int × Piece) : Prop := e.1 + e.2.len ≤ pl ∨ (pl < e.1 + e.2.len ∧ e.1 + e.2.len ≤ pl + M ∧ ∀ q, max pl e.1 ≤ q → q ≤ e.1 + e.2.len → okL an bg b e q)
def NB : Int → List (Int × Piece) → Prop
  | _, [] => True
  | b, e :: l => goes pl M an bg b e ∧ NB (b + trn e.2 e.2.len) l
theorem bfr_snoc (pre : List (Int × Piece)) (e : Int × Piece) : bfr (pre ++ [e]) = bfr pre + trn e.2 e.2.len := by simp [bfr]
theorem sfd_snoc (pre : List (Int × Piece)) (e : Int × Piece) : sfd pl (pre ++ [e]) = if e.1 + e.2.len ≤ pl then sfd pl pre else e.1 + e.2.len := by simp [sfd]
theorem NB_snoc : ∀ (l : List (Int × Piece)) (b : Int) (e : Int × Piece), NB pl M an bg b (l ++ [e]) ↔ NB pl M an bg b l ∧ goes pl M an bg (b + bfr l) e
  | [], b, e => by simp [NB, bfr]
  | d :: l, b, e => by
    rw [List.cons_append, NB, NB, NB_snoc l, and_assoc]
    have : b + trn d.2 d.2.len + bfr l = b + bfr (d :: l) := by simp [bfr]; omega
    rw [this]
/-- The loop leaves at the piece e, having seen s. -/
def stops (b : Int) (e : Int × Piece) (s0 s : Int) : Prop :=
  pl < e.1 + e.2.len ∧
  ((∃ q0, max pl e.1 ≤ q0 ∧ q0 ≤ e.1 + e.2.len ∧ q0 ≤ pl + M ∧ ¬ okL an bg b e q0 ∧ (∀ q, max pl e.1 ≤ q → q < q0 → okL an bg b e q) ∧ s = if q0 = max pl e.1 then s0 else q0 - 1) ∨
   (pl + M < e.1 + e.2.len ∧ (∀ q, max pl e.1 ≤ q → q ≤ pl + M → okL an bg b e q) ∧ s = if max pl e.1 ≤ pl + M then pl + M else s0))
end
theorem bfr_its : ∀ (l : List Piece) (b : Int), bfr (its b l) = bfP l
  | [], _ => rfl
  | p :: l, b => by
    have := bfr_its l (b + p.len)
    simp only [its, bfr, bfP, List.map_cons, List.sum_cons] at this ⊢
    rw [this]
section
variable {ps : List Piece} {pl M an : Int}
/-- When k pieces are passed: all places up to there are seen. -/
theorem NB_seen (hk : ∀ p ∈ ps, pOk p = true) (h0 : 0 ≤ pl) (k : Nat) (hkl : k ≤ ps.length) (h : NB pl M an (upt ps pl) 0 (its 0 (ps.take k))) :
    (∀ q, pl < q → q ≤ sumL (ps.take k) → okq ps an pl q) ∧ (pl < sumL (ps.take k) → sumL (ps.take k) ≤ pl + M) ∧ sfd pl (its 0 (ps.take k)) = max pl (sumL (ps.take k)) := by
  induction k with
  | zero =>
    have e : sumL (ps.take 0) = 0 := by simp [sumL]
    rw [e]
    exact ⟨fun q h1 h2 => by omega, fun h1 => by omega, by simp [sfd, its]; omega⟩
  | succ k ih =>
    have hl : k < ps.length := by omega
    rw [← its_take_its, its_take ps k hl, its_take_its] at h ⊢
    obtain ⟨h1, h2⟩ := (NB_snoc pl M an (upt ps pl) _ _ _).1 h
    obtain ⟨i1, i2, i3⟩ := ih (by omega) h1
    rw [Int.zero_add, bfr_its] at h2
    have hp := pOk_len (hk _ (List.getElem_mem hl))
    rw [sfd_snoc, i3, sumL_take ps k hl]
    refine ⟨fun q hq1 hq2 => ?_, fun hlt => ?_, ?_⟩
    · by_cases hq : q ≤ sumL (ps.take k)
      · exact i1 q hq1 hq
      · rcases h2 with h2 | ⟨_, _, h3⟩
        · simp at h2; omega
        · have := h3 q (by simp; omega) (by simp; omega)
          unfold okq
          rw [upt_at ps k hl hk q (by omega) (by omega)]
          exact this
    · rcases h2 with h2 | ⟨_, h3, _⟩
      · simp at h2; omega
      · simpa using h3
    · split
      · rename_i h3; simp at h3; omega
      · rename_i h3; simp at h3; simp; omega
/-- All pieces are passed. -/
theorem SI_done (hk : ∀ p ∈ ps, pOk p = true) (h0 : 0 ≤ pl) (h1 : pl ≤ sumL ps) (hM : M ≤ sumL ps - pl) (hM0 : 0 ≤ M) (h : NB pl M an (upt ps pl) 0 (its 0 ps)) : SI ps an pl M (sfd pl (its 0 ps) - pl) := by
  have := NB_seen (ps := ps) hk h0 ps.length (Nat.le_refl _) (by rw [List.take_length]; exact h)
  rw [List.take_length] at this
  obtain ⟨i1, i2, i3⟩ := this
  rw [i3]
  refine ⟨by omega, ?_, fun q hq1 hq2 => i1 q hq1 (by omega), .inl ?_⟩
  · by_cases hlt : pl < sumL ps
    · have := i2 hlt; omega
    · omega
  · by_cases hlt : pl < sumL ps
    · have := i2 hlt; omega
    · omega
/-- It leaves at piece k. -/
theorem SI_stop (hk : ∀ p ∈ ps, pOk p = true) (h0 : 0 ≤ pl) (hM0 : 0 ≤ M) (ha : 0 ≤ an) (k : Nat) (hl : k < ps.length) (s : Int) (h : NB pl M an (upt ps pl) 0 (its 0 (ps.take k)))
    (hs : stops pl M an (upt ps pl) (bfr (its 0 (ps.take k))) (sumL (ps.take k), ps[k]) (sfd pl (its 0 (ps.take k))) s) : SI ps an pl M (s - pl) := by
  obtain ⟨i1, i2, i3⟩ := NB_seen hk h0 k (by omega) h
  rw [i3, bfr_its] at hs
  have hp := pOk_len (hk _ (List.getElem_mem hl))
  have hok : ∀ q, sumL (ps.take k) ≤ q → q ≤ sumL (ps.take k) + ps[k].len → (okL an (upt ps pl) (bfP (ps.take k)) (sumL (ps.take k), ps[k]) q ↔ okq ps an pl q) := fun q g1 g2 => by
    unfold okL okq
    rw [upt_at ps k hl hk q g1 g2]
  have hself : okq ps an pl pl := ⟨by omega, by omega⟩
  obtain ⟨hend, hs⟩ := hs
  simp only at hend
  rcases hs with ⟨q0, g1, g2, g3, g4, g5, rfl⟩ | ⟨g1, g2, rfl⟩
  · simp only at g1 g2 g3 g4 g5 ⊢
    have hq0 : ¬ q0 = max pl (sumL (ps.take k)) := by
      intro e
      refine g4 ((hok q0 (by omega) g2).2 ?_)
      by_cases hlt : pl < sumL (ps.take k)
      · exact i1 q0 (by omega) (by omega)
      · rw [show q0 = pl by omega]; exact hself
    rw [if_neg hq0]
    refine ⟨by omega, by omega, fun q hq1 hq2 => ?_, .inr ?_⟩
    · by_cases hq : q ≤ sumL (ps.take k)
      · exact i1 q hq1 hq
      · exact (hok q (by omega) (by omega)).1 (g5 q (by omega) (by omega))
    · rw [show pl + (q0 - 1 - pl) + 1 = q0 by omega]
      exact fun h => g4 ((hok q0 (by omega) g2).2 h)
  · simp only at g1 g2 ⊢
    have hle : max pl (sumL (ps.take k)) ≤ pl + M := by
      by_cases hlt : pl < sumL (ps.take k)
      · have := i2 hlt; omega
      · omega
    rw [if_pos hle]
    refine ⟨by omega, by omega, fun q hq1 hq2 => ?_, .inl (by omega)⟩
    by_cases hq : q ≤ sumL (ps.take k)
    · exact i1 q hq1 hq
    · exact (hok q (by omega) (by omega)).1 (g2 q (by omega) (by omega))
end
end Go.Proofs.Ytomloklckpcaiaa
