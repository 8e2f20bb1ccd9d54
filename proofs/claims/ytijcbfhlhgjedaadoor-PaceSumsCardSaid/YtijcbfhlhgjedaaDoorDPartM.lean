/- The parts before and behind a place, joined, plainly. -/
import Derived.Test.YtijcbfhlhgjedaaDoorCAll
import Derived.Test.YtijcbfhlhgjedaaDoorDJoin
import Derived.Test.YtijcbfhlhgjedaaDoorDBackOk
namespace Go.Proofs.YtijcbfhlhgjedaaDoor
open Go.RowKit Go.Shelf Go.Sort Go.Proofs

theorem prt_hi {t : Int} : ∀ (ps : List Piece) (b : Int), t ≤ b → (∀ p ∈ ps, 1 ≤ p.len) → (its b ps).filterMap (prt 0 t) = []
  | [], _, _, _ => rfl
  | p :: ps, b, h, hp => by
    have h1 := hp p (List.mem_cons_self ..)
    have hq : prt 0 t (b, p) = none := by
      unfold prt
      rw [if_neg (by simp only; omega)]
    rw [its, List.filterMap_cons, hq]
    exact prt_hi ps (b + p.len) (by omega) (fun q hq => hp q (List.mem_cons_of_mem _ hq))
theorem prt_lo {t n : Int} : ∀ (ps : List Piece) (b : Int), t ≤ b → b + sumL ps ≤ n → (∀ p ∈ ps, 1 ≤ p.len) → (its b ps).filterMap (prt t n) = ps
  | [], _, _, _, _ => rfl
  | p :: ps, b, h, hn, hp => by
    have h1 := hp p (List.mem_cons_self ..)
    have h2 := sum_nn (ps := ps) (fun q hq => hp q (List.mem_cons_of_mem _ hq))
    rw [sumL_cons] at hn
    have hq : prt t n (b, p) = some p := by
      unfold prt
      simp only
      rw [show max t b = b by omega, show min n (b + p.len) = b + p.len by omega, if_pos (by omega)]
      congr 1
      rw [show b + p.len - b = p.len by omega]
    rw [its, List.filterMap_cons, hq]
    simp only
    rw [prt_lo ps (b + p.len) (by omega) (by omega) (fun q hq => hp q (List.mem_cons_of_mem _ hq))]
/-- Meter by meter, both parts together are the road. -/
theorem units_split {t n : Int} : ∀ (ps : List Piece) (b : Int), 0 ≤ b → b + sumL ps ≤ n → (∀ p ∈ ps, 1 ≤ p.len) →
    units ((its b ps).filterMap (prt 0 t)) ++ units ((its b ps).filterMap (prt t n)) = units ps
  | [], _, _, _, _ => rfl
  | p :: ps, b, h0, hn, hp => by
    have h1 := hp p (List.mem_cons_self ..)
    have hp' : ∀ q ∈ ps, 1 ≤ q.len := fun q hq => hp q (List.mem_cons_of_mem _ hq)
    have h2 := sum_nn hp'
    rw [sumL_cons] at hn
    rcases (show b < t ∨ t ≤ b by omega) with hb | hb
    · rcases (show t < b + p.len ∨ b + p.len ≤ t by omega) with he | he
      · have q1 : prt 0 t (b, p) = some { p with len := t - b } := by
          unfold prt
          simp only
          rw [show max 0 b = b by omega, show min t (b + p.len) = t by omega, if_pos (by omega)]
        have q2 : prt t n (b, p) = some { p with len := b + p.len - t } := by
          unfold prt
          simp only
          rw [show max t b = t by omega, show min n (b + p.len) = b + p.len by omega, if_pos (by omega)]
        rw [its, List.filterMap_cons, List.filterMap_cons, q1, q2]
        simp only
        rw [prt_hi ps (b + p.len) (by omega) hp', prt_lo ps (b + p.len) (by omega) (by omega) hp', units_cons, units_cons, units_cons, units_nil, List.append_nil, ← List.append_assoc]
        congr 1
        show List.replicate _ (one p) ++ List.replicate _ (one p) = List.replicate _ (one p)
        rw [List.replicate_append_replicate]
        congr 1
        simp only
        omega
      · have q1 : prt 0 t (b, p) = some p := by
          unfold prt
          simp only
          rw [show max 0 b = b by omega, show min t (b + p.len) = b + p.len by omega, if_pos (by omega)]
          congr 1
          rw [show b + p.len - b = p.len by omega]
        have q2 : prt t n (b, p) = none := by
          unfold prt
          rw [if_neg (by simp only; omega)]
        rw [its, List.filterMap_cons, List.filterMap_cons, q1, q2]
        simp only
        rw [units_cons, units_cons, List.append_assoc, units_split ps (b + p.len) (by omega) (by omega) hp']
    · rw [prt_hi (p :: ps) b hb hp, prt_lo (p :: ps) b hb (by rw [sumL_cons]; omega) hp, units_nil, List.nil_append]
theorem tailC {t n : Int} : ∀ (l o : List Crest), (∀ c ∈ l, t < c.pos ∧ c.pos ≤ n) → l.Pairwise (fun a b => a.pos < b.pos) → (∀ d ∈ o, ∀ c ∈ l, d.pos < c.pos) → (l.filterMap (prtC t n)).foldl (joinC t) o = o ++ l
  | [], o, _, _, _ => by simp
  | c :: l, o, h, hs, ho => by
    obtain ⟨h1, h2⟩ := h c (List.mem_cons_self ..)
    obtain ⟨s1, s2⟩ := List.pairwise_cons.1 hs
    have q : prtC t n c = some ⟨c.pos - t, c.siz⟩ := by rw [prtC, if_pos (by simp [inR]; omega)]
    rw [List.filterMap_cons, q]
    simp only [List.foldl_cons]
    have hj : joinC t o ⟨c.pos - t, c.siz⟩ = o ++ [c] := by
      have hc : (⟨c.pos - t + t, c.siz⟩ : Crest) = c := by
        cases c
        simp only [Int.sub_add_cancel]
      rcases nil_or_snoc o with rfl | ⟨ds, y, rfl⟩
      · rw [joinC_nil]
        simp only
        rw [hc]; rfl
      · have := ho y (by simp) c (List.mem_cons_self ..)
        rw [joinC_at, if_neg (by simp only; omega)]
        simp only
        rw [hc]
    rw [hj, tailC l (o ++ [c]) (fun d hd => h d (List.mem_cons_of_mem _ hd)) s2 (fun d hd e he => by
      rcases List.mem_append.1 hd with hd | hd
      · exact ho d hd e (List.mem_cons_of_mem _ he)
      · simp only [List.mem_singleton] at hd
        subst hd
        exact s1 e he)]
    simp
theorem noneC {t : Int} {l : List Crest} (h : ∀ c ∈ l, t < c.pos) : l.filterMap (prtC 0 t) = [] := by
  induction l with
  | nil => rfl
  | cons c l ih =>
    have h1 := h c (List.mem_cons_self ..)
    rw [List.filterMap_cons, prtC, if_neg (by simp [inR]; omega)]
    exact ih (fun d hd => h d (List.mem_cons_of_mem _ hd))
theorem splitC {t n : Int} : ∀ (l o : List Crest), (∀ c ∈ l, 0 ≤ c.pos ∧ c.pos ≤ n) → t ≤ n → l.Pairwise (fun a b => a.pos < b.pos) → (∀ d ∈ o, ∀ c ∈ l, d.pos < c.pos) →
    (l.filterMap (prtC t n)).foldl (joinC t) (o ++ l.filterMap (prtC 0 t)) = o ++ l
  | [], o, _, _, _, _ => by simp
  | c :: l, o, h, ht, hs, ho => by
    obtain ⟨h1, h2⟩ := h c (List.mem_cons_self ..)
    obtain ⟨s1, s2⟩ := List.pairwise_cons.1 hs
    have hl : ∀ d ∈ l, 0 ≤ d.pos ∧ d.pos ≤ n := fun d hd => h d (List.mem_cons_of_mem _ hd)
    have ho' : ∀ d ∈ o ++ [c], ∀ e ∈ l, d.pos < e.pos := fun d hd e he => by
      rcases List.mem_append.1 hd with hd | hd
      · exact ho d hd e (List.mem_cons_of_mem _ he)
      · simp only [List.mem_singleton] at hd
        subst hd
        exact s1 e he
    rcases Int.lt_trichotomy c.pos t with hc | hc | hc
    · have q1 : prtC 0 t c = some c := by rw [prtC, if_pos (by simp [inR]; omega), Int.sub_zero]
      have q2 : prtC t n c = none := by rw [prtC, if_neg (by simp [inR]; omega)]
      rw [List.filterMap_cons, List.filterMap_cons, q1, q2]
      simp only
      rw [show o ++ c :: l.filterMap (prtC 0 t) = (o ++ [c]) ++ l.filterMap (prtC 0 t) by simp, splitC l (o ++ [c]) hl ht s2 ho']
      simp
    · have q1 : prtC 0 t c = some c := by rw [prtC, if_pos (by simp [inR]; omega), Int.sub_zero]
      have q2 : prtC t n c = some ⟨c.pos - t, c.siz⟩ := by rw [prtC, if_pos (by simp [inR]; omega)]
      have hgt : ∀ d ∈ l, t < d.pos := fun d hd => by have := s1 d hd; omega
      rw [List.filterMap_cons, List.filterMap_cons, q1, q2, noneC hgt]
      simp only [List.foldl_cons]
      rw [joinC_at, if_pos (by simp only; omega)]
      simp only
      rw [show max c.siz c.siz = c.siz by omega, tailC l (o ++ [c]) (fun d hd => ⟨hgt d hd, (hl d hd).2⟩) s2 ho']
      simp
    · have hgt : ∀ d ∈ c :: l, t < d.pos := fun d hd => by
        rcases List.mem_cons.1 hd with rfl | hd
        · exact hc
        · have := s1 d hd; omega
      rw [noneC hgt, List.append_nil]
      exact tailC (c :: l) o (fun d hd => ⟨hgt d hd, (h d hd).2⟩) hs ho
theorem tailJ {t n : Int} : ∀ (l o : List Junc), (∀ c ∈ l, t < c.pos ∧ c.pos ≤ n) → l.Pairwise (fun a b => a.pos < b.pos) → (∀ d ∈ o, ∀ c ∈ l, d.pos < c.pos) → (l.filterMap (prtJ t n)).foldl (joinJ t) o = o ++ l
  | [], o, _, _, _ => by simp
  | c :: l, o, h, hs, ho => by
    obtain ⟨h1, h2⟩ := h c (List.mem_cons_self ..)
    obtain ⟨s1, s2⟩ := List.pairwise_cons.1 hs
    have q : prtJ t n c = some ⟨c.pos - t, c.arms, c.way⟩ := by rw [prtJ, if_pos (by simp [inR]; omega)]
    rw [List.filterMap_cons, q]
    simp only [List.foldl_cons]
    have hj : joinJ t o ⟨c.pos - t, c.arms, c.way⟩ = o ++ [c] := by
      have hc : (⟨c.pos - t + t, c.arms, c.way⟩ : Junc) = c := by
        cases c
        simp only [Int.sub_add_cancel]
      rcases nil_or_snoc o with rfl | ⟨ds, y, rfl⟩
      · rw [joinJ_nil]
        simp only
        rw [hc]; rfl
      · have := ho y (by simp) c (List.mem_cons_self ..)
        rw [joinJ_at, if_neg (by simp only; omega)]
        simp only
        rw [hc]
    rw [hj, tailJ l (o ++ [c]) (fun d hd => h d (List.mem_cons_of_mem _ hd)) s2 (fun d hd e he => by
      rcases List.mem_append.1 hd with hd | hd
      · exact ho d hd e (List.mem_cons_of_mem _ he)
      · simp only [List.mem_singleton] at hd
        subst hd
        exact s1 e he)]
    simp
theorem noneJ {t : Int} {l : List Junc} (h : ∀ c ∈ l, t < c.pos) : l.filterMap (prtJ 0 t) = [] := by
  induction l with
  | nil => rfl
  | cons c l ih =>
    have h1 := h c (List.mem_cons_self ..)
    rw [List.filterMap_cons, prtJ, if_neg (by simp [inR]; omega)]
    exact ih (fun d hd => h d (List.mem_cons_of_mem _ hd))
theorem splitJ {t n : Int} : ∀ (l o : List Junc), (∀ c ∈ l, 0 ≤ c.pos ∧ c.pos ≤ n) → t ≤ n → l.Pairwise (fun a b => a.pos < b.pos) → (∀ d ∈ o, ∀ c ∈ l, d.pos < c.pos) →
    (l.filterMap (prtJ t n)).foldl (joinJ t) (o ++ l.filterMap (prtJ 0 t)) = o ++ l
  | [], o, _, _, _, _ => by simp
  | c :: l, o, h, ht, hs, ho => by
    obtain ⟨h1, h2⟩ := h c (List.mem_cons_self ..)
    obtain ⟨s1, s2⟩ := List.pairwise_cons.1 hs
    have hl : ∀ d ∈ l, 0 ≤ d.pos ∧ d.pos ≤ n := fun d hd => h d (List.mem_cons_of_mem _ hd)
    have ho' : ∀ d ∈ o ++ [c], ∀ e ∈ l, d.pos < e.pos := fun d hd e he => by
      rcases List.mem_append.1 hd with hd | hd
      · exact ho d hd e (List.mem_cons_of_mem _ he)
      · simp only [List.mem_singleton] at hd
        subst hd
        exact s1 e he
    rcases Int.lt_trichotomy c.pos t with hc | hc | hc
    · have q1 : prtJ 0 t c = some c := by rw [prtJ, if_pos (by simp [inR]; omega), Int.sub_zero]
      have q2 : prtJ t n c = none := by rw [prtJ, if_neg (by simp [inR]; omega)]
      rw [List.filterMap_cons, List.filterMap_cons, q1, q2]
      simp only
      rw [show o ++ c :: l.filterMap (prtJ 0 t) = (o ++ [c]) ++ l.filterMap (prtJ 0 t) by simp, splitJ l (o ++ [c]) hl ht s2 ho']
      simp
    · have q1 : prtJ 0 t c = some c := by rw [prtJ, if_pos (by simp [inR]; omega), Int.sub_zero]
      have q2 : prtJ t n c = some ⟨c.pos - t, c.arms, c.way⟩ := by rw [prtJ, if_pos (by simp [inR]; omega)]
      have hgt : ∀ d ∈ l, t < d.pos := fun d hd => by have := s1 d hd; omega
      rw [List.filterMap_cons, List.filterMap_cons, q1, q2, noneJ hgt]
      simp only [List.foldl_cons]
      rw [joinJ_at, if_pos (by simp only; omega)]
      rw [tailJ l (o ++ [c]) (fun d hd => ⟨hgt d hd, (hl d hd).2⟩) s2 ho']
      simp
    · have hgt : ∀ d ∈ c :: l, t < d.pos := fun d hd => by
        rcases List.mem_cons.1 hd with rfl | hd
        · exact hc
        · have := s1 d hd; omega
      rw [noneJ hgt, List.append_nil]
      exact tailJ (c :: l) o (fun d hd => ⟨hgt d hd, (h d hd).2⟩) hs ho
theorem sum_part {f t : Int} (hft : f ≤ t) : ∀ (ps : List Piece) (b : Int), (∀ p ∈ ps, 1 ≤ p.len) → sumL ((its b ps).filterMap (prt f t)) = max 0 (min t (b + sumL ps) - max f b)
  | [], b, _ => by
    show (0 : Int) = _
    rw [show sumL [] = 0 from rfl]
    omega
  | p :: ps, b, hp => by
    have h1 := hp p (List.mem_cons_self ..)
    have hp' : ∀ q ∈ ps, 1 ≤ q.len := fun q hq => hp q (List.mem_cons_of_mem _ hq)
    have h2 := sum_nn hp'
    have ih := sum_part hft ps (b + p.len) hp'
    rw [its, List.filterMap_cons, sumL_cons]
    by_cases hc : max f b < min t (b + p.len)
    · rw [show prt f t (b, p) = some { p with len := min t (b + p.len) - max f b } by unfold prt; rw [if_pos hc]]
      simp only
      rw [sumL_cons, ih]
      simp only
      omega
    · rw [show prt f t (b, p) = none by unfold prt; rw [if_neg hc]]
      simp only
      rw [ih]
      omega
theorem pOk_cut {p : Piece} {l : Int} (h : pOk p = true) (h1 : 1 ≤ l) (h2 : l ≤ p.len) : pOk { p with len := l } = true := by
  have hl := pOk_len h
  simp only [pOk, Bool.and_eq_true] at h ⊢
  exact ⟨by simp [inR]; omega, h.2⟩
theorem part_mem {f t : Int} {ps : List Piece} {b : Int} {q : Piece} (hq : q ∈ (its b ps).filterMap (prt f t)) (hk : ∀ p ∈ ps, pOk p = true) : pOk q = true := by
  obtain ⟨e, he, h⟩ := List.mem_filterMap.1 hq
  have hm : e.2 ∈ ps := by
    obtain ⟨i, hi, rfl⟩ := List.getElem_of_mem he
    rw [its_len] at hi
    have h1 := its_at b ps i hi
    rw [List.getElem?_eq_getElem (by rw [its_len]; exact hi)] at h1
    rw [Option.some.inj h1]
    exact List.getElem_mem hi
  unfold prt at h
  split at h
  · rename_i hc
    cases h
    exact pOk_cut (hk _ hm) (by omega) (by omega)
  · cases h
theorem part_ok {R : Road} (hv : OK R) {f t : Int} (h0 : 0 ≤ f) (h1 : f < t) (h2 : t ≤ sumL R.ps) : OK (partR f t R) ∧ sumL (partR f t R).ps = t - f := by
  have hl : ∀ p ∈ R.ps, 1 ≤ p.len := fun p hp => (pOk_len (hv.pk p hp)).1
  have hs : sumL (partR f t R).ps = t - f := by
    show sumL ((its 0 R.ps).filterMap (prt f t)) = _
    rw [sum_part (by omega) R.ps 0 hl]
    omega
  obtain ⟨hc1, hc2⟩ := (crests_iff _ _).1 hv.ck
  obtain ⟨hj1, hj2⟩ := (juncs_iff _ _).1 hv.jk
  have hpl : (partR f t R).ps.length ≤ R.ps.length := by
    have := List.length_filterMap_le (prt f t) (its 0 R.ps)
    rw [its_len] at this
    exact this
  have hn1 := hv.n1
  refine ⟨⟨?_, Nat.le_trans hpl hv.p2, Nat.le_trans (List.length_filterMap_le _ _) hv.c1, Nat.le_trans (List.length_filterMap_le _ _) hv.j1, fun p hp => part_mem hp hv.pk, by omega, (crests_iff _ _).2 ⟨fun c hc => ?_, ?_⟩, (juncs_iff _ _).2 ⟨fun c hc => ?_, ?_⟩⟩, hs⟩
  · rcases Nat.eq_zero_or_pos (partR f t R).ps.length with h | h
    · rw [List.eq_nil_of_length_eq_zero h] at hs
      rw [show sumL [] = 0 from rfl] at hs
      omega
    · exact h
  · obtain ⟨d, hd, h⟩ := List.mem_filterMap.1 hc
    unfold prtC at h
    split at h
    · rename_i hi
      cases h
      refine ⟨?_, (hc1 d hd).2⟩
      rw [hs]
      simp only [inR, Bool.and_eq_true, decide_eq_true_eq] at hi ⊢
      omega
    · cases h
  · refine List.Pairwise.filterMap _ (fun a a' haa b hb b' hb' => ?_) hc2
    unfold prtC at hb hb'
    split at hb <;> cases hb
    split at hb' <;> cases hb'
    simp only
    omega
  · obtain ⟨d, hd, h⟩ := List.mem_filterMap.1 hc
    unfold prtJ at h
    split at h
    · rename_i hi
      cases h
      refine ⟨?_, (hj1 d hd).2⟩
      rw [hs]
      simp only [inR, Bool.and_eq_true, decide_eq_true_eq] at hi ⊢
      omega
    · cases h
  · refine List.Pairwise.filterMap _ (fun a a' haa b hb b' hb' => ?_) hj2
    unfold prtJ at hb hb'
    split at hb <;> cases hb
    split at hb' <;> cases hb'
    simp only
    omega
/-- The parts before and behind a place, joined: the same normal road; and as defined, where the road is small. -/
theorem part_join {R : Road} (hv : OK R) (hsm : R.ps.length ≤ 20) {t : Int} (h1 : 0 < t) (h2 : t < sumL R.ps) :
    normR (joinR (partR 0 t R) (partR t (sumL R.ps) R)) = normR R ∧ OK (joinR (partR 0 t R) (partR t (sumL R.ps) R)) ∧ fitsR (joinR (partR 0 t R) (partR t (sumL R.ps) R)) = true := by
  have hl : ∀ p ∈ R.ps, 1 ≤ p.len := fun p hp => (pOk_len (hv.pk p hp)).1
  obtain ⟨o1, s1⟩ := part_ok hv (f := 0) (t := t) (Int.le_refl 0) h1 (by omega)
  obtain ⟨o2, s2⟩ := part_ok hv (f := t) (t := sumL R.ps) (by omega) h2 (Int.le_refl _)
  obtain ⟨hc1, hc2⟩ := (crests_iff _ _).1 hv.ck
  obtain ⟨hj1, hj2⟩ := (juncs_iff _ _).1 hv.jk
  have ec : (joinR (partR 0 t R) (partR t (sumL R.ps) R)).cs = R.cs := by
    have := splitC (t := t) (n := sumL R.ps) R.cs [] (fun c hc => by have := (hc1 c hc).1; simp only [inR, Bool.and_eq_true, decide_eq_true_eq] at this; omega) (by omega) hc2 (fun d hd => by cases hd)
    rw [List.nil_append, List.nil_append] at this
    show ((partR t (sumL R.ps) R).cs).foldl (joinC (sumL (partR 0 t R).ps)) (partR 0 t R).cs = _
    rw [s1, Int.sub_zero]
    exact this
  have ej : (joinR (partR 0 t R) (partR t (sumL R.ps) R)).js = R.js := by
    have := splitJ (t := t) (n := sumL R.ps) R.js [] (fun c hc => by have := (hj1 c hc).1; simp only [inR, Bool.and_eq_true, decide_eq_true_eq] at this; omega) (by omega) hj2 (fun d hd => by cases hd)
    rw [List.nil_append, List.nil_append] at this
    show ((partR t (sumL R.ps) R).js).foldl (joinJ (sumL (partR 0 t R).ps)) (partR 0 t R).js = _
    rw [s1, Int.sub_zero]
    exact this
  have hpk : ∀ p ∈ (joinR (partR 0 t R) (partR t (sumL R.ps) R)).ps, pOk p = true := fun p hp => by
    rcases List.mem_append.1 hp with h | h
    · exact o1.pk p h
    · exact o2.pk p h
  have hs : sumL (joinR (partR 0 t R) (partR t (sumL R.ps) R)).ps = sumL R.ps := by
    show sumL ((partR 0 t R).ps ++ (partR t (sumL R.ps) R).ps) = _
    rw [sumL_append, s1, s2]
    omega
  have hlen : (joinR (partR 0 t R) (partR t (sumL R.ps) R)).ps.length ≤ 40 := by
    show ((partR 0 t R).ps ++ (partR t (sumL R.ps) R).ps).length ≤ 40
    have q1 := List.length_filterMap_le (prt 0 t) (its 0 R.ps)
    have q2 := List.length_filterMap_le (prt t (sumL R.ps)) (its 0 R.ps)
    rw [its_len] at q1 q2
    rw [List.length_append]
    have q3 : (partR 0 t R).ps.length ≤ R.ps.length := q1
    have q4 : (partR t (sumL R.ps) R).ps.length ≤ R.ps.length := q2
    omega
  have hp1 : 1 ≤ (joinR (partR 0 t R) (partR t (sumL R.ps) R)).ps.length := by
    show 1 ≤ ((partR 0 t R).ps ++ (partR t (sumL R.ps) R).ps).length
    have := o1.p1
    rw [List.length_append]
    omega
  have hu : units (joinR (partR 0 t R) (partR t (sumL R.ps) R)).ps = units R.ps := by
    show units ((partR 0 t R).ps ++ (partR t (sumL R.ps) R).ps) = _
    rw [units_append]
    exact units_split R.ps 0 (Int.le_refl 0) (by omega) hl
  have hok : OK (joinR (partR 0 t R) (partR t (sumL R.ps) R)) :=
    ⟨hp1, by omega, by rw [ec]; exact hv.c1, by rw [ej]; exact hv.j1, hpk, by rw [hs]; exact hv.n1, by rw [ec, hs]; exact hv.ck, by rw [ej, hs]; exact hv.jk⟩
  refine ⟨?_, hok, ?_⟩
  · unfold normR
    rw [ec, ej, ← norm_units (fun p hp => (pOk_len (hpk p hp)).1), hu, norm_units hl]
  · simp only [fitsR, Bool.and_eq_true, decide_eq_true_eq]
    exact ⟨hok.p2, hok.c1, hok.j1, hok.n1⟩
end Go.Proofs.YtijcbfhlhgjedaaDoor
