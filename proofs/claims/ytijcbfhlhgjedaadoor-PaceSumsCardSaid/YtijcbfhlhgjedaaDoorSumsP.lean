/- Times of a part, of a reversed road, of a joined road: plain. No program in sight. -/
import Derived.Test.YtijcbfhlhgjedaaDoorDAll
namespace Go.Proofs.YtijcbfhlhgjedaaDoor
open Go.RowKit Go.Shelf Go.Sort Go.Proofs

theorem drop_rep (u : Piece) (U : List Piece) (L d : Nat) : (List.replicate L u ++ U).drop d = List.replicate (L - d) u ++ U.drop (d - L) := by
  rw [List.drop_append, List.drop_replicate, List.length_replicate]
theorem take_rep (u : Piece) (U : List Piece) (L k : Nat) : (List.replicate L u ++ U).take k = List.replicate (min k L) u ++ U.take (k - L) := by
  rw [List.take_append, List.take_replicate, List.length_replicate]
/-- Meter by meter, the part from f to t is the road's, from f to t. -/
theorem units_part {f t : Int} : ∀ (ps : List Piece) (b : Int), (∀ p ∈ ps, 1 ≤ p.len) →
    units ((its b ps).filterMap (prt f t)) = ((units ps).drop (f - b).toNat).take (t - max f b).toNat
  | [], _, _ => by simp [its, units]
  | p :: ps, b, hp => by
    have h1 := hp p (List.mem_cons_self ..)
    have hp' : ∀ q ∈ ps, 1 ≤ q.len := fun q hq => hp q (List.mem_cons_of_mem _ hq)
    have ih := units_part ps (b + p.len) hp' (f := f) (t := t)
    rw [its, List.filterMap_cons, units_cons, drop_rep]
    by_cases hc : max f b < min t (b + p.len)
    · have q1 : prt f t (b, p) = some { p with len := min t (b + p.len) - max f b } := by
        unfold prt
        simp only
        rw [if_pos hc]
      rw [q1]
      simp only
      rw [units_cons, ih, take_rep]
      congr 1
      · show List.replicate _ (one p) = List.replicate _ (one p)
        congr 1
        simp only
        omega
      · have e1 : (f - (b + p.len)).toNat = (f - b).toNat - p.len.toNat := by omega
        rw [e1]
        by_cases ht : t ≤ b + p.len
        · rw [show (t - max f (b + p.len)).toNat = 0 by omega, show (t - max f b).toNat - (p.len.toNat - (f - b).toNat) = 0 by omega]
        · rw [show (t - max f (b + p.len)).toNat = (t - max f b).toNat - (p.len.toNat - (f - b).toNat) by omega]
    · have q1 : prt f t (b, p) = none := by
        unfold prt
        simp only
        rw [if_neg hc]
      rw [q1]
      simp only
      rw [ih]
      by_cases hfe : b + p.len ≤ f
      · rw [show p.len.toNat - (f - b).toNat = 0 by omega, List.replicate_zero, List.nil_append, show (f - (b + p.len)).toNat = (f - b).toNat - p.len.toNat by omega, show max f (b + p.len) = max f b by omega]
      · rw [show (t - max f b).toNat = 0 by omega, show (t - max f (b + p.len)).toNat = 0 by omega, List.take_zero, List.take_zero]
theorem sum_take_drop (g : Piece → Int) (U : List Piece) (f k : Nat) : ((((U.drop f).take k)).map g).sum = ((U.take (f + k)).map g).sum - ((U.take f).map g).sum := by
  rw [List.take_add, List.map_append, List.sum_append]
  omega
theorem len1 {R : Road} (hv : OK R) : ∀ p ∈ R.ps, 1 ≤ p.len := fun q hq => (pOk_len (hv.pk q hq)).1
/-- The times of a part. -/
theorem t_part {S : Spd} {R : Road} (hv : OK R) {f t : Nat} (h1 : f ≤ t) {k : Nat} (hk : f + k ≤ t) :
    tQ S (partR f t R).ps k = tQ S R.ps (f + k) - tQ S R.ps f ∧ tSl S (partR f t R).ps k = tSl S R.ps (f + k) - tSl S R.ps f := by
  have hu := units_part (f := (f : Int)) (t := (t : Int)) R.ps 0 (len1 hv)
  rw [show ((f : Int) - 0).toNat = f by omega, show ((t : Int) - max (f : Int) 0).toNat = t - f by omega] at hu
  unfold tQ tSl
  rw [show (partR f t R).ps = (its 0 R.ps).filterMap (prt f t) from rfl, hu, List.take_take, show min k (t - f) = k by omega]
  exact ⟨sum_take_drop _ _ _ _, sum_take_drop _ _ _ _⟩
theorem units_neg : ∀ (ps : List Piece), units (ps.map neg) = (units ps).map neg
  | [] => rfl
  | p :: ps => by
    rw [List.map_cons, units_cons, units_cons, List.map_append, units_neg ps, List.map_replicate]
    rfl
theorem units_rev : ∀ (ps : List Piece), units ps.reverse = (units ps).reverse
  | [] => rfl
  | p :: ps => by
    rw [List.reverse_cons, units_append, units_rev ps, units_one, units_cons p ps, List.reverse_append, List.reverse_replicate]
theorem m_neg (S : Spd) (p : Piece) : mQ S (neg p) = mQ S p ∧ mSl S (neg p) = mSl S p := by
  have hr : rowS S (neg p) = rowS S p := by
    unfold rowS neg
    by_cases h : p.turn = 0
    · rw [if_pos h, if_pos (by simp only; omega)]
    · rw [if_neg h, if_neg (by simp only; omega)]
  have hs : surS S (neg p) = surS S p := rfl
  unfold mQ mSl
  rw [hr, hs]
  exact ⟨rfl, rfl⟩
theorem sum_rev (g : Piece → Int) (U : List Piece) (k : Nat) : ((U.reverse.take k).map g).sum = (U.map g).sum - ((U.take (U.length - k)).map g).sum := by
  rw [List.take_reverse, List.map_reverse, List.sum_reverse]
  have h2 := List.take_append_drop (U.length - k) U
  have h3 : (U.map g).sum = ((U.take (U.length - k)).map g).sum + ((U.drop (U.length - k)).map g).sum := by
    conv => lhs; rw [← h2]
    rw [List.map_append, List.sum_append]
  omega
/-- The times of a reversed road. -/
theorem t_rev {S : Spd} {R : Road} (hv : OK R) {N : Nat} (hN : sumL R.ps = N) {k : Nat} :
    tQ S (revR R).ps k = tQ S R.ps N - tQ S R.ps (N - k) ∧ tSl S (revR R).ps k = tSl S R.ps N - tSl S R.ps (N - k) := by
  have hl := units_len (fun q hq => by have := len1 hv q hq; omega) (ps := R.ps)
  have hlen : (units R.ps).length = N := by omega
  have hu : units (revR R).ps = ((units R.ps).reverse).map neg := by
    rw [show (revR R).ps = (R.ps.map neg).reverse from rfl, units_rev, units_neg, List.map_reverse]
  have hg : ∀ g : Piece → Int, (∀ p, g (neg p) = g p) → (((units (revR R).ps).take k).map g).sum = (((units R.ps).take N).map g).sum - (((units R.ps).take (N - k)).map g).sum := by
    intro g hgn
    rw [hu, ← List.map_take, List.map_map, show g ∘ neg = g from funext hgn, sum_rev g _ k, hlen, List.take_of_length_le (l := units R.ps) (i := N) (by omega)]
  exact ⟨hg _ fun p => (m_neg S p).1, hg _ fun p => (m_neg S p).2⟩
/-- The times of a road joined to itself. -/
theorem t_join {S : Spd} {R R2 : Road} (hv : OK R) (hv2 : OK R2) {N M : Nat} (hN : sumL R.ps = N) (hM : sumL R2.ps = M) :
    tQ S (joinR R R2).ps (N + M) = tQ S R.ps N + tQ S R2.ps M ∧ tSl S (joinR R R2).ps (N + M) = tSl S R.ps N + tSl S R2.ps M := by
  have hl := units_len (fun q hq => by have := len1 hv q hq; omega) (ps := R.ps)
  have hl2 := units_len (fun q hq => by have := len1 hv2 q hq; omega) (ps := R2.ps)
  have hg : ∀ g : Piece → Int, (((units (joinR R R2).ps).take (N + M)).map g).sum = (((units R.ps).take N).map g).sum + (((units R2.ps).take M).map g).sum := by
    intro g
    rw [show (joinR R R2).ps = R.ps ++ R2.ps from rfl, units_append, List.take_of_length_le (by rw [List.length_append]; omega), List.take_of_length_le (l := units R.ps) (by omega), List.take_of_length_le (l := units R2.ps) (by omega), List.map_append, List.sum_append]
  exact ⟨hg _, hg _⟩
theorem joins_c {n m : Int} (hm : 0 ≤ m) : ∀ (l o : List Crest), (∀ c ∈ l, (0 ≤ c.pos ∧ c.pos ≤ m) ∧ inR c.siz 1 3 = true) → l.Pairwise (fun a b => a.pos < b.pos) → (∀ d ∈ o, (0 ≤ d.pos ∧ d.pos ≤ n + m) ∧ inR d.siz 1 3 = true) → o.Pairwise (fun a b => a.pos < b.pos) →
    (∀ d ∈ o, ∀ c ∈ l, d.pos ≤ c.pos + n) → 0 ≤ n → (∀ d ∈ l.foldl (joinC n) o, (0 ≤ d.pos ∧ d.pos ≤ n + m) ∧ inR d.siz 1 3 = true) ∧ (l.foldl (joinC n) o).Pairwise (fun a b => a.pos < b.pos)
  | [], o, _, _, h3, h4, _, _ => ⟨h3, h4⟩
  | c :: l, o, h1, h2, h3, h4, h5, hn => by
    rw [List.foldl_cons]
    obtain ⟨hc1, hc2⟩ := List.pairwise_cons.1 h2
    have hcb := h1 c (List.mem_cons_self ..)
    have key : (∀ d ∈ joinC n o c, ((0 ≤ d.pos ∧ d.pos ≤ n + m) ∧ inR d.siz 1 3 = true) ∧ d.pos ≤ c.pos + n) ∧ (joinC n o c).Pairwise (fun a b => a.pos < b.pos) := by
      rcases nil_or_snoc o with rfl | ⟨o', d, rfl⟩
      · rw [joinC_nil]
        refine ⟨fun e he => ?_, List.pairwise_singleton _ _⟩
        rw [List.mem_singleton.1 he]
        exact ⟨⟨by simp only; omega, hcb.2⟩, by simp only; omega⟩
      · rw [joinC_at]
        obtain ⟨p1, p2, p3⟩ := List.pairwise_append.1 h4
        have hd := h3 d (by simp)
        have hdc := h5 d (by simp) c (List.mem_cons_self ..)
        by_cases he : d.pos = c.pos + n
        · rw [if_pos he]
          refine ⟨fun e hm => ?_, List.pairwise_append.2 ⟨p1, List.pairwise_singleton _ _, fun a ha b hb => ?_⟩⟩
          · rcases List.mem_append.1 hm with hm | hm
            · exact ⟨h3 e (List.mem_append_left _ hm), h5 e (List.mem_append_left _ hm) c (List.mem_cons_self ..)⟩
            · rw [List.mem_singleton.1 hm]
              refine ⟨⟨hd.1, ?_⟩, by simp only; omega⟩
              have e1 := hd.2
              have e2 := hcb.2
              simp only [inR, Bool.and_eq_true, decide_eq_true_eq] at e1 e2 ⊢
              omega
          · rw [List.mem_singleton.1 hb]
            exact p3 a ha d (by simp)
        · rw [if_neg he]
          refine ⟨fun e hm => ?_, List.pairwise_append.2 ⟨h4, List.pairwise_singleton _ _, fun a ha b hb => ?_⟩⟩
          · rcases List.mem_append.1 hm with hm | hm
            · exact ⟨h3 e hm, h5 e hm c (List.mem_cons_self ..)⟩
            · rw [List.mem_singleton.1 hm]
              exact ⟨⟨by simp only; omega, hcb.2⟩, by simp only; omega⟩
          · rw [List.mem_singleton.1 hb]
            simp only
            rcases List.mem_append.1 ha with ha | ha
            · have := p3 a ha d (by simp)
              omega
            · rw [List.mem_singleton.1 ha]
              omega
    exact joins_c hm l _ (fun x hx => h1 x (List.mem_cons_of_mem _ hx)) hc2 (fun d hd => (key.1 d hd).1) key.2 (fun d hd x hx => by
      have e1 := (key.1 d hd).2
      have e2 := hc1 x hx
      omega) hn
theorem joins_j {n m : Int} (hm : 0 ≤ m) : ∀ (l o : List Junc), (∀ c ∈ l, (0 ≤ c.pos ∧ c.pos ≤ m) ∧ inR c.arms 2 6 = true ∧ inR c.way 1 c.arms = true) → l.Pairwise (fun a b => a.pos < b.pos) → (∀ d ∈ o, (0 ≤ d.pos ∧ d.pos ≤ n + m) ∧ inR d.arms 2 6 = true ∧ inR d.way 1 d.arms = true) → o.Pairwise (fun a b => a.pos < b.pos) →
    (∀ d ∈ o, ∀ c ∈ l, d.pos ≤ c.pos + n) → 0 ≤ n → (∀ d ∈ l.foldl (joinJ n) o, (0 ≤ d.pos ∧ d.pos ≤ n + m) ∧ inR d.arms 2 6 = true ∧ inR d.way 1 d.arms = true) ∧ (l.foldl (joinJ n) o).Pairwise (fun a b => a.pos < b.pos)
  | [], o, _, _, h3, h4, _, _ => ⟨h3, h4⟩
  | c :: l, o, h1, h2, h3, h4, h5, hn => by
    rw [List.foldl_cons]
    obtain ⟨hc1, hc2⟩ := List.pairwise_cons.1 h2
    have hcb := h1 c (List.mem_cons_self ..)
    have key : (∀ d ∈ joinJ n o c, ((0 ≤ d.pos ∧ d.pos ≤ n + m) ∧ inR d.arms 2 6 = true ∧ inR d.way 1 d.arms = true) ∧ d.pos ≤ c.pos + n) ∧ (joinJ n o c).Pairwise (fun a b => a.pos < b.pos) := by
      rcases nil_or_snoc o with rfl | ⟨o', d, rfl⟩
      · rw [joinJ_nil]
        refine ⟨fun e he => ?_, List.pairwise_singleton _ _⟩
        rw [List.mem_singleton.1 he]
        exact ⟨⟨by simp only; omega, hcb.2⟩, by simp only; omega⟩
      · rw [joinJ_at]
        obtain ⟨p1, p2, p3⟩ := List.pairwise_append.1 h4
        have hd := h3 d (by simp)
        have hdc := h5 d (by simp) c (List.mem_cons_self ..)
        by_cases he : d.pos = c.pos + n
        · rw [if_pos he]
          exact ⟨fun e hm => ⟨h3 e hm, h5 e hm c (List.mem_cons_self ..)⟩, h4⟩
        · rw [if_neg he]
          refine ⟨fun e hm => ?_, List.pairwise_append.2 ⟨h4, List.pairwise_singleton _ _, fun a ha b hb => ?_⟩⟩
          · rcases List.mem_append.1 hm with hm | hm
            · exact ⟨h3 e hm, h5 e hm c (List.mem_cons_self ..)⟩
            · rw [List.mem_singleton.1 hm]
              exact ⟨⟨by simp only; omega, hcb.2⟩, by simp only; omega⟩
          · rw [List.mem_singleton.1 hb]
            simp only
            rcases List.mem_append.1 ha with ha | ha
            · have := p3 a ha d (by simp)
              omega
            · rw [List.mem_singleton.1 ha]
              omega
    exact joins_j hm l _ (fun x hx => h1 x (List.mem_cons_of_mem _ hx)) hc2 (fun d hd => (key.1 d hd).1) key.2 (fun d hd x hx => by
      have e1 := (key.1 d hd).2
      have e2 := hc1 x hx
      omega) hn
theorem join_ok {R R2 : Road} (hv : OK R) (hv2 : OK R2) (hf : fitsR (joinR R R2) = true) : OK (joinR R R2) ∧ sumL (joinR R R2).ps = sumL R.ps + sumL R2.ps := by
  have hs : sumL (joinR R R2).ps = sumL R.ps + sumL R2.ps := sumL_append R.ps R2.ps
  unfold fitsR at hf
  simp only [Bool.and_eq_true, decide_eq_true_eq] at hf
  obtain ⟨f1, f2, f3, f4⟩ := hf
  obtain ⟨hc1, hc2⟩ := (crests_iff _ _).1 hv.ck
  obtain ⟨hj1, hj2⟩ := (juncs_iff _ _).1 hv.jk
  obtain ⟨kc1, kc2⟩ := (crests_iff _ _).1 hv2.ck
  obtain ⟨kj1, kj2⟩ := (juncs_iff _ _).1 hv2.jk
  have n0 := (sumL_bd R.ps hv.pk).1
  have m0 := (sumL_bd R2.ps hv2.pk).1
  simp only [inR, Bool.and_eq_true, decide_eq_true_eq] at hc1 hj1 kc1 kj1
  have hC := joins_c (n := sumL R.ps) (m := sumL R2.ps) (by omega) R2.cs R.cs (fun c hc => by have := kc1 c hc; simp only [inR, Bool.and_eq_true, decide_eq_true_eq]; exact ⟨by omega, this.2⟩) kc2 (fun d hd => by have := hc1 d hd; simp only [inR, Bool.and_eq_true, decide_eq_true_eq]; exact ⟨by omega, this.2⟩) hc2
    (fun d hd c hc => by have := hc1 d hd; have := kc1 c hc; omega) (by omega)
  have hJ := joins_j (n := sumL R.ps) (m := sumL R2.ps) (by omega) R2.js R.js (fun c hc => by have := kj1 c hc; simp only [inR, Bool.and_eq_true, decide_eq_true_eq]; exact ⟨by omega, this.2⟩) kj2 (fun d hd => by have := hj1 d hd; simp only [inR, Bool.and_eq_true, decide_eq_true_eq]; exact ⟨by omega, this.2⟩) hj2
    (fun d hd c hc => by have := hj1 d hd; have := kj1 c hc; omega) (by omega)
  refine ⟨⟨?_, f1, f2, f3, fun p hp => ?_, f4, (crests_iff _ _).2 ⟨fun c hc => ?_, hC.2⟩, (juncs_iff _ _).2 ⟨fun c hc => ?_, hJ.2⟩⟩, hs⟩
  · show 1 ≤ (R.ps ++ R2.ps).length
    rw [List.length_append]
    have := hv.p1
    omega
  · rcases List.mem_append.1 hp with h | h
    · exact hv.pk p h
    · exact hv2.pk p h
  · have := hC.1 c hc
    refine ⟨?_, this.2⟩
    rw [hs]
    simp only [inR, Bool.and_eq_true, decide_eq_true_eq]
    omega
  · have := hJ.1 c hc
    refine ⟨?_, this.2⟩
    rw [hs]
    simp only [inR, Bool.and_eq_true, decide_eq_true_eq]
    omega
end Go.Proofs.YtijcbfhlhgjedaaDoor
