/- A reversed road is as defined. Plain; no program in sight. -/
import Derived.Test.YtijcbfhlhgjedaaDoorCAll
import Derived.Test.YtijcbfhlhgjedaaDoorDIter
namespace Go.Proofs.YtijcbfhlhgjedaaDoor
open Go.RowKit Go.Proofs

theorem getE_pw {α : Type} (f : α → Int) : ∀ (l : List α), (∀ i, i < l.length → ∀ c d, l[i]? = some c → 0 < i → l[i-1]? = some d → f d < f c) → l.Pairwise fun a b => f a < f b
  | [], _ => List.Pairwise.nil
  | [_], _ => List.pairwise_singleton ..
  | a :: b :: l, h => by
    have ih := getE_pw f (b :: l) (fun i hi c d hc h0 hd => h (i + 1) (by simp at hi ⊢; omega) c d (by simpa using hc) (by omega) (by
      obtain ⟨j, rfl⟩ : ∃ j, i = j + 1 := ⟨i - 1, by omega⟩
      simpa using hd))
    have hab := h 1 (by simp) b a rfl (by omega) rfl
    refine List.pairwise_cons.2 ⟨fun x hx => ?_, ih⟩
    rcases List.mem_cons.1 hx with rfl | hx
    · exact hab
    · have := (List.pairwise_cons.1 ih).1 x hx; omega
theorem pw_getE {α : Type} {f : α → Int} {l : List α} (h : l.Pairwise fun a b => f a < f b) (i : Nat) {c d : α} (hc : l[i]? = some c) (h0 : 0 < i) (hd : l[i-1]? = some d) : f d < f c := by
  obtain ⟨h1, rfl⟩ := List.getElem?_eq_some_iff.1 hc
  obtain ⟨h2, rfl⟩ := List.getElem?_eq_some_iff.1 hd
  exact List.pairwise_iff_getElem.1 h (i-1) i h2 h1 (by omega)
theorem crests_iff (n : Int) (cs : List Crest) : (∀ i, i < cs.length → cAt n cs i) ↔ (∀ c ∈ cs, inR c.pos 0 n = true ∧ inR c.siz 1 3 = true) ∧ cs.Pairwise fun a b => a.pos < b.pos := by
  constructor
  · intro h
    refine ⟨fun c hc => ?_, getE_pw Crest.pos cs (fun i hi c d hc h0 hd => (h i hi c hc).2.2 d h0 hd)⟩
    obtain ⟨i, hi, rfl⟩ := List.getElem_of_mem hc
    have := h i hi _ (List.getElem?_eq_getElem hi)
    exact ⟨this.1, this.2.1⟩
  · rintro ⟨h1, h2⟩ i hi c hc
    have hm := h1 c (List.mem_of_getElem? hc)
    exact ⟨hm.1, hm.2, fun d h0 hd => pw_getE (f := Crest.pos) h2 i hc h0 hd⟩
theorem juncs_iff (n : Int) (js : List Junc) : (∀ i, i < js.length → jAt n js i) ↔ (∀ c ∈ js, inR c.pos 0 n = true ∧ inR c.arms 2 6 = true ∧ inR c.way 1 c.arms = true) ∧ js.Pairwise fun a b => a.pos < b.pos := by
  constructor
  · intro h
    refine ⟨fun c hc => ?_, getE_pw Junc.pos js (fun i hi c d hc h0 hd => (h i hi c hc).2.2.2 d h0 hd)⟩
    obtain ⟨i, hi, rfl⟩ := List.getElem_of_mem hc
    have := h i hi _ (List.getElem?_eq_getElem hi)
    exact ⟨this.1, this.2.1, this.2.2.1⟩
  · rintro ⟨h1, h2⟩ i hi c hc
    have hm := h1 c (List.mem_of_getElem? hc)
    exact ⟨hm.1, hm.2.1, hm.2.2, fun d h0 hd => pw_getE (f := Junc.pos) h2 i hc h0 hd⟩
theorem pOk_neg (p : Piece) : pOk (neg p) = pOk p := by
  unfold pOk neg inR
  have e1 : (decide (-1 ≤ -p.turn) && decide (-p.turn ≤ 1)) = (decide (-1 ≤ p.turn) && decide (p.turn ≤ 1)) := by
    rw [Bool.eq_iff_iff]; simp; omega
  have e2 : (-p.turn = 0) = (p.turn = 0) := by rw [eq_iff_iff]; omega
  simp only [e1, e2]
theorem sumL_revR (R : Road) : sumL (revR R).ps = sumL R.ps := by rw [revR, sumL_rev, sumL_neg]
theorem revR_ok {R : Road} (h : OK R) : OK (revR R) := by
  have hC := (crests_iff _ _).1 h.ck
  have hJ := (juncs_iff _ _).1 h.jk
  refine ⟨by simpa [revR] using h.p1, by simpa [revR] using h.p2, by simpa [revR, revC] using h.c1, by simpa [revR, revJ] using h.j1, fun p hp => ?_, by rw [sumL_revR]; exact h.n1, ?_, ?_⟩
  · simp only [revR, List.mem_reverse, List.mem_map] at hp
    obtain ⟨q, hq, rfl⟩ := hp
    rw [pOk_neg]; exact h.pk q hq
  · rw [sumL_revR]
    refine (crests_iff _ _).2 ⟨fun c hc => ?_, ?_⟩
    · simp only [revR, revC, List.mem_reverse, List.mem_map] at hc
      obtain ⟨q, hq, rfl⟩ := hc
      have := hC.1 q hq
      simp only [inR, Bool.and_eq_true, decide_eq_true_eq] at this ⊢
      exact ⟨by omega, this.2⟩
    · simp only [revR, revC]
      rw [List.pairwise_reverse, List.pairwise_map]
      exact hC.2.imp (fun {a b} hab => by show _ - b.pos < _ - a.pos; omega)
  · rw [sumL_revR]
    refine (juncs_iff _ _).2 ⟨fun c hc => ?_, ?_⟩
    · simp only [revR, revJ, List.mem_reverse, List.mem_map] at hc
      obtain ⟨q, hq, rfl⟩ := hc
      have := hJ.1 q hq
      simp only [inR, Bool.and_eq_true, decide_eq_true_eq] at this ⊢
      exact ⟨by omega, this.2.1, by omega⟩
    · simp only [revR, revJ]
      rw [List.pairwise_reverse, List.pairwise_map]
      exact hJ.2.imp (fun {a b} hab => by show _ - b.pos < _ - a.pos; omega)
end Go.Proofs.YtijcbfhlhgjedaaDoor
