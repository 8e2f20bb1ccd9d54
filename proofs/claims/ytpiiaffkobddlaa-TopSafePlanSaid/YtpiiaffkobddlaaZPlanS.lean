/- Plans: their triggers are in order; a plan that is in time stays in time where no stretch takes less time. No program in sight. -/
import Derived.Test.YtpiiaffkobddlaaZPlanM
import Derived.Test.YtpiiaffkobddlaaZTrig
namespace Go.Proofs.Ytpiiaffkobddlaa
open Go.RowKit Go.Shelf Go.Sort Go.Proofs

theorem lastN_ge {f : Nat → Bool} {n k : Nat} (hk : k ≤ n) (h : f k = true) : k ≤ lastN f n := by
  rcases Nat.lt_or_ge (lastN f n) k with h1 | h1
  · have := lastN_above f n k h1 hk; rw [h] at this; cases this
  · exact h1
/-- Less reading before: later. -/
theorem rvs_shift (Q : Int → Int) : ∀ (s t : Int) (cs : List CallR), rvs Q s cs = (rvs Q t cs).map fun x => x + (t - s)
  | _, _, [] => rfl
  | s, t, c :: cs => by
    rw [rvs, rvs, List.map_cons, rvs_shift Q (s + c.lasts) (t + c.lasts) cs]
    congr 1
    · omega
    · congr 1; funext x; omega
theorem late_none {Q : Int → Int} {cs : List CallR} : lateM Q cs = none ↔ ∀ r ∈ rvs Q 0 cs, 0 ≤ r := by
  unfold lateM
  rw [List.findIdx?_eq_none_iff]
  exact ⟨fun h r hr => by have := h r hr; simpa using this, fun h r hr => by have := h r hr; simpa using this⟩
theorem room_le {Q : Int → Int} {cs : List CallR} {x : Int} : x ≤ roomM Q cs ↔ x ≤ maxM ∧ ∀ r ∈ rvs Q 0 cs, x ≤ r := le_minL _ x
/-- Of the later calls more room is left. -/
theorem room_mono {Q : Int → Int} {c : CallR} {cs : List CallR} (h : 0 ≤ c.lasts) : roomM Q (c :: cs) ≤ roomM Q cs := by
  refine room_le.2 ⟨((room_le (x := roomM Q (c :: cs))).1 (Int.le_refl _)).1, fun r hr => ?_⟩
  have h1 := ((room_le (Q := Q) (cs := c :: cs)).1 (Int.le_refl _)).2
  rw [rvs_shift Q 0 (0 + c.lasts) cs] at hr
  obtain ⟨y, hy, rfl⟩ := List.mem_map.1 hr
  have := h1 y (by rw [rvs]; exact List.mem_cons_of_mem _ hy)
  omega
theorem trig_le (Q : Int → Int) (c : CallR) (cs : List CallR) : trigM Q c cs ≤ c.place.toNat := lastN_le _ _
theorem trig_holds {Q : Int → Int} {c : CallR} {cs : List CallR} (h0 : Q 0 ≤ roomM Q (c :: cs)) : Q (trigM Q c cs) ≤ roomM Q (c :: cs) := by
  have := lastN_holds (fun p => decide (Q p ≤ roomM Q (c :: cs))) (by simpa using h0) c.place.toNat
  simp only [decide_eq_true_eq] at this
  exact this
theorem trig_mono {Q : Int → Int} {c d : CallR} {cs : List CallR} (hl : 0 ≤ c.lasts) (hp : c.place ≤ d.place) (h0 : Q 0 ≤ roomM Q (c :: d :: cs)) : trigM Q c (d :: cs) ≤ trigM Q d cs := by
  refine lastN_ge (by have := trig_le Q c (d :: cs); omega) ?_
  have h1 := trig_holds h0
  have h2 := room_mono (Q := Q) (c := c) (cs := d :: cs) hl
  simp only [decide_eq_true_eq]
  omega
/-- Where no stretch takes less time. -/
theorem rvs_more {Q1 Q2 : Int → Int} {g n : Int} (hQ : ∀ j k, 0 ≤ j → j ≤ k → k ≤ n → Q1 k - Q1 j ≤ Q2 k - Q2 j) (hg0 : 0 ≤ g) : ∀ (s : Int) (cs : List CallR), (∀ c ∈ cs, g ≤ c.place ∧ c.place ≤ n) → (∀ r ∈ rvs Q1 s cs, Q1 g ≤ r) → ∀ r ∈ rvs Q2 s cs, Q2 g ≤ r
  | _, [], _, _, r, hr => nomatch hr
  | s, c :: cs, hc, h, r, hr => by
    rcases List.mem_cons.1 hr with rfl | hr
    · have h1 := h _ (List.mem_cons_self ..)
      obtain ⟨h2, h3⟩ := hc c (List.mem_cons_self ..)
      have h4 := hQ g c.place hg0 h2 h3
      omega
    · exact rvs_more hQ hg0 _ cs (fun d hd => hc d (List.mem_cons_of_mem _ hd)) (fun r hr => h r (List.mem_cons_of_mem _ hr)) r hr
theorem late_more {Q1 Q2 : Int → Int} {n : Int} (hQ : ∀ j k, 0 ≤ j → j ≤ k → k ≤ n → Q1 k - Q1 j ≤ Q2 k - Q2 j) (h1 : Q1 0 = 0) (h2 : Q2 0 = 0) {cs : List CallR} (hc : ∀ c ∈ cs, 0 ≤ c.place ∧ c.place ≤ n) (h : lateM Q1 cs = none) : lateM Q2 cs = none := by
  rw [late_none] at h ⊢
  have := rvs_more hQ (g := 0) (Int.le_refl 0) 0 cs hc (by rw [h1]; exact h)
  rw [h2] at this
  exact this
theorem trig_more {Q1 Q2 : Int → Int} {n : Int} (hQ : ∀ j k, 0 ≤ j → j ≤ k → k ≤ n → Q1 k - Q1 j ≤ Q2 k - Q2 j) (h1 : Q1 0 = 0) (hm : ∀ k, 0 ≤ k → k ≤ n → Q2 k ≤ maxM) {c : CallR} {cs : List CallR} (hn : c.place ≤ n) (hc0 : 0 ≤ c.place) (hc : ∀ d ∈ cs, c.place ≤ d.place ∧ d.place ≤ n)
    (h : lateM Q1 (c :: cs) = none) : Q2 (trigM Q1 c cs) ≤ roomM Q2 (c :: cs) ∧ trigM Q1 c cs ≤ trigM Q2 c cs := by
  have h0 : Q1 0 ≤ roomM Q1 (c :: cs) := by
    rw [h1]
    exact room_le.2 ⟨by decide, late_none.1 h⟩
  have h3 := trig_holds h0
  have h4 := trig_le Q1 c cs
  have h5 : Q2 (trigM Q1 c cs) ≤ roomM Q2 (c :: cs) := by
    refine room_le.2 ⟨hm _ (by omega) (by omega), ?_⟩
    refine rvs_more hQ (g := (trigM Q1 c cs : Int)) (by omega) 0 (c :: cs) (fun d hd => ?_) (room_le.1 h3).2
    rcases List.mem_cons.1 hd with rfl | hd
    · exact ⟨by omega, hn⟩
    · obtain ⟨a, b⟩ := hc d hd; exact ⟨by omega, b⟩
  exact ⟨h5, lastN_ge h4 (by simpa using h5)⟩
end Go.Proofs.Ytpiiaffkobddlaa

/- A plan in time on one road is in time on another one where no stretch takes less: plain law over the sums of times. -/
namespace Go.Proofs.Ytpiiaffkobddlaa
open Go.RowKit Go.Shelf Go.Sort Go.Proofs

/-- Calls in order on a road of n meters, with all the time before them that there is. -/
def Free (n : Int) (cs : List CallR) : Prop := (∀ c ∈ cs, (0 ≤ c.place ∧ c.place ≤ n) ∧ 0 ≤ c.lasts ∧ c.ahead = maxM) ∧ cs.Pairwise fun c d => c.place ≤ d.place
theorem cok_pw {n : Int} {cs : List CallR} (h : COK n cs) : cs.Pairwise fun c d => c.place ≤ d.place := by
  rw [List.pairwise_iff_getElem]
  have key : ∀ d i, (hj : i + d + 1 < cs.length) → (cs[i]'(by omega)).place ≤ (cs[i + d + 1]'hj).place := by
    intro d
    induction d with
    | zero =>
      intro i hj
      have := (h.k (i + 1) hj _ (List.getElem?_eq_getElem hj)).2.2.2.2.2 (cs[i]'(by omega)) (by omega) (by simp)
      simpa using this
    | succ d ih =>
      intro i hj
      have h1 := ih i (by omega)
      have h2 := (h.k (i + (d + 1) + 1) hj _ (List.getElem?_eq_getElem hj)).2.2.2.2.2 (cs[i + d + 1]'(by omega)) (by omega) (by rw [show i + (d + 1) + 1 - 1 = i + d + 1 by omega]; exact List.getElem?_eq_getElem (by omega))
      omega
  intro i j hi hj hij
  have := key (j - i - 1) i (by omega)
  have e : i + (j - i - 1) + 1 = j := by omega
  simp only [e] at this
  exact this
theorem free_tail {n : Int} {c : CallR} {cs : List CallR} (h : Free n (c :: cs)) : Free n cs := ⟨fun d hd => h.1 d (List.mem_cons_of_mem _ hd), (List.pairwise_cons.1 h.2).2⟩
/-- The triggers are in order, on the road, as many as the calls. -/
theorem planA_ok {Q Mo : Int → Int} {n : Int} (hQ0 : Q 0 = 0) : ∀ (cs : List CallR) (j : Nat) (L : List Int) (e : Option Nat), Free n cs → planA Q Mo j cs = .inr (L, e) →
    L.length = cs.length ∧ (∀ x ∈ L, 0 ≤ x ∧ x ≤ n) ∧ L.Pairwise (fun x y => x ≤ y) ∧ (∀ c rest, cs = c :: rest → ∀ x ∈ L, (trigM Q c rest : Int) ≤ x)
  | [], j, L, e, _, h => by
    simp only [planA] at h
    cases h
    exact ⟨rfl, (fun x hx => by cases hx), List.Pairwise.nil, (fun c rest h => by cases h)⟩
  | c :: cs, j, L, e, hf, h => by
    have hc := hf.1 c (List.mem_cons_self ..)
    cases hl : lateM Q (c :: cs) with
    | some i => simp only [planA, hl] at h; cases h
    | none =>
      cases hr : planA Q Mo (j + 1) cs with
      | inl x => simp only [planA, hl, hr] at h; cases h
      | inr x =>
        obtain ⟨l, e'⟩ := x
        simp only [planA, hl, hr] at h
        injection h with h
        injection h with h1 h2
        subst h1
        obtain ⟨a1, a2, a3, a4⟩ := planA_ok hQ0 cs (j + 1) l e' (free_tail hf) hr
        have h0 : Q 0 ≤ roomM Q (c :: cs) := by rw [hQ0]; exact room_le.2 ⟨by decide, late_none.1 hl⟩
        have hfirst : ∀ x ∈ l, (trigM Q c cs : Int) ≤ x := by
          intro x hx
          cases cs with
          | nil => rw [List.length_nil] at a1; rw [List.length_eq_zero_iff.1 a1] at hx; cases hx
          | cons d ds =>
            have h3 := a4 d ds rfl x hx
            have h4 := trig_mono (Q := Q) (c := c) (d := d) (cs := ds) hc.2.1 ((List.pairwise_cons.1 hf.2).1 d (List.mem_cons_self ..)) h0
            omega
        have ht := trig_le Q c cs
        refine ⟨by rw [List.length_cons, List.length_cons, a1], ?_, List.pairwise_cons.2 ⟨hfirst, a3⟩, ?_⟩
        · intro x hx
          rcases List.mem_cons.1 hx with rfl | hx
          · omega
          · exact a2 x hx
        · intro c' rest' he x hx
          cases he
          rcases List.mem_cons.1 hx with rfl | hx
          · exact Int.le_refl _
          · exact hfirst x hx
theorem planA_safe {Q1 Mo1 Q2 Mo2 : Int → Int} {n : Int} (hQ : ∀ j k, 0 ≤ j → j ≤ k → k ≤ n → Q1 k - Q1 j ≤ Q2 k - Q2 j) (h1 : Q1 0 = 0) (h2 : Q2 0 = 0) (hm : ∀ k, 0 ≤ k → k ≤ n → Q2 k ≤ maxM)
    (hM : ∀ j k, 0 ≤ j → j ≤ k → k ≤ n → Mo2 k - Mo2 j ≤ maxM) : ∀ (cs : List CallR) (j : Nat) (L : List Int), Free n cs → planA Q1 Mo1 j cs = .inr (L, none) →
    goodM Q2 Mo2 cs L = true ∧ ∃ L2, planA Q2 Mo2 j cs = .inr (L2, none) ∧ L2.length = L.length ∧ ∀ (i : Nat) (x y : Int), L[i]? = some x → L2[i]? = some y → x ≤ y
  | [], j, L, _, h => by
    simp only [planA] at h
    cases h
    exact ⟨rfl, [], rfl, rfl, fun i x y hx => by simp at hx⟩
  | c :: cs, j, L, hf, h => by
    have hc := hf.1 c (List.mem_cons_self ..)
    cases hl : lateM Q1 (c :: cs) with
    | some i => simp only [planA, hl] at h; cases h
    | none =>
      cases hr : planA Q1 Mo1 (j + 1) cs with
      | inl x => simp only [planA, hl, hr] at h; cases h
      | inr x =>
        obtain ⟨l, e'⟩ := x
        simp only [planA, hl, hr] at h
        injection h with h
        injection h with h3 h4
        subst h3
        have he : e' = none := by
          split at h4
          · cases h4
          · exact h4
        subst he
        obtain ⟨a1, L2, a2, a3, a4⟩ := planA_safe hQ h1 h2 hm hM cs (j + 1) l (free_tail hf) hr
        have hpl : ∀ d ∈ cs, c.place ≤ d.place ∧ d.place ≤ n := fun d hd => ⟨(List.pairwise_cons.1 hf.2).1 d hd, (hf.1 d (List.mem_cons_of_mem _ hd)).1.2⟩
        have hl2 : lateM Q2 (c :: cs) = none := late_more hQ h1 h2 (fun d hd => (hf.1 d hd).1) hl
        obtain ⟨b1, b2⟩ := trig_more hQ h1 hm hc.1.2 hc.1.1 hpl hl
        have t1 := trig_le Q1 c cs
        have t2 := trig_le Q2 c cs
        have m1 := hM (trigM Q1 c cs) c.place (by omega) (by omega) hc.1.2
        have m2 := hM (trigM Q2 c cs) c.place (by omega) (by omega) hc.1.2
        refine ⟨?_, (trigM Q2 c cs : Int) :: L2, ?_, by rw [List.length_cons, List.length_cons, a3], ?_⟩
        · rw [goodM, a1, goodJ, decide_eq_true (by omega : (trigM Q1 c cs : Int) ≤ c.place), decide_eq_true b1, decide_eq_true (by rw [hc.2.2]; exact m1)]
          rfl
        · simp only [planA, hl2, a2]
          rw [if_neg (by rw [hc.2.2]; omega)]
        · intro i x y hx hy
          cases i with
          | zero => simp at hx hy; omega
          | succ i => exact a4 i x y (by simpa using hx) (by simpa using hy)
theorem tok_of {n : Int} {m : Nat} {L : List Int} (hl : L.length = m) (hb : ∀ x ∈ L, 0 ≤ x ∧ x ≤ n) (hp : L.Pairwise fun x y => x ≤ y) : TOK n m L := by
  refine ⟨hl, fun i hi x hx => ⟨?_, fun y h0 hy => ?_⟩⟩
  · have := hb x (List.mem_of_getElem? hx)
    simp [inR]; omega
  · rw [List.pairwise_iff_getElem] at hp
    have h1 := List.getElem?_eq_some_iff.1 hx
    have h2 := List.getElem?_eq_some_iff.1 hy
    obtain ⟨q1, rfl⟩ := h1
    obtain ⟨q2, rfl⟩ := h2
    exact hp (i - 1) i q2 q1 (by omega)
/-- The law: what Plan, Good and Plan again answer. -/
theorem plan_safe {S : Spd} {R T : Road} (hS : SOK S) (hvT : OK T) (hQ : ∀ j k : Int, 0 ≤ j → j ≤ k → k ≤ sumL R.ps → tQ S R.ps k.toNat - tQ S R.ps j.toNat ≤ tQ S T.ps k.toNat - tQ S T.ps j.toNat)
    {cs : List CallR} (hf : Free (sumL R.ps) cs) (h0 : (planR (qS S R) (sS S R) cs).2.2 = 0) :
    TOK (sumL R.ps) cs.length (planR (qS S R) (sS S R) cs).1 ∧ goodM (qS S T) (sS S T) cs (planR (qS S R) (sS S R) cs).1 = true ∧ (planR (qS S T) (sS S T) cs).2.2 = 0 ∧
      (planR (qS S T) (sS S T) cs).1.length = (planR (qS S R) (sS S R) cs).1.length ∧ ∀ (i : Nat) (x y : Int), (planR (qS S R) (sS S R) cs).1[i]? = some x → (planR (qS S T) (sS S T) cs).1[i]? = some y → x ≤ y := by
  have z1 : qS S R 0 = 0 := tQ_zero S R.ps
  have z2 : qS S T 0 = 0 := tQ_zero S T.ps
  cases hp : planA (qS S R) (sS S R) 0 cs with
  | inl x => obtain ⟨a, b⟩ := x; unfold planR at h0; rw [hp] at h0; simp at h0
  | inr x =>
    obtain ⟨L, e⟩ := x
    cases e with
    | some j => unfold planR at h0; rw [hp] at h0; simp at h0
    | none =>
      have e1 : planR (qS S R) (sS S R) cs = (L, ⟨0, 0, false⟩, 0) := by unfold planR; rw [hp]
      obtain ⟨a1, a2, a3, -⟩ := planA_ok z1 cs 0 L none hf hp
      obtain ⟨b1, L2, b2, b3, b4⟩ := planA_safe (Q2 := qS S T) (Mo2 := sS S T) (n := sumL R.ps) (fun j k hj hjk hk => hQ j k hj hjk hk) z1 z2 (fun k _ _ => by have := (tQ_bd hS hvT k.toNat).2; unfold qS maxM; omega)
        (fun j k _ _ _ => by have h1 := (tSl_bd hS hvT k.toNat).2; have h2 := (tSl_bd hS hvT j.toNat).1; unfold sS maxM; omega) cs 0 L hf hp
      have e2 : planR (qS S T) (sS S T) cs = (L2, ⟨0, 0, false⟩, 0) := by unfold planR; rw [b2]
      rw [e1, e2]
      exact ⟨tok_of a1 a2 a3, b1, rfl, b3, b4⟩
/-- Where each piece is at least a meter long there are at most as many as meters. -/
theorem ps_le {ps : List Piece} (h : ∀ p ∈ ps, pOk p = true) : (ps.length : Int) ≤ sumL ps := by
  induction ps with
  | nil => simp [sumL]
  | cons p ps ih =>
    have h1 := (pOk_len (h p (List.mem_cons_self ..))).1
    have h2 := ih (fun q hq => h q (List.mem_cons_of_mem _ hq))
    rw [sumL_cons, List.length_cons]
    omega
end Go.Proofs.Ytpiiaffkobddlaa
