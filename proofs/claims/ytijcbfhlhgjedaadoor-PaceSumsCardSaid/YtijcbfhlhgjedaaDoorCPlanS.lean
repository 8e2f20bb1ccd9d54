/- Plans: their triggers are in order; a plan that is in time stays in time where no stretch takes less time. No program in sight. -/
import Derived.Test.YtijcbfhlhgjedaaDoorCPlanM
namespace Go.Proofs.YtijcbfhlhgjedaaDoor
open Go.RowKit Go.Shelf Go.Sort Go.Proofs

theorem lastN_ge {f : Nat → Bool} {n k : Nat} (hk : k ≤ n) (h : f k = true) : k ≤ lastN f n := by
  rcases Nat.lt_or_ge (lastN f n) k with h1 | h1
  · have := lastN_above f n k h1 hk; rw [h] at this; cases this
  · exact h1
/-- What a run may be late by, call by call: the first number is the place. -/
theorem rvs_mem {Q : Int → Int} {x : Int} : ∀ {s : Int} {cs : List CallR}, x ∈ rvs Q s cs → ∃ c ∈ cs, ∃ t, x = Q c.place - t
  | _, [], h => nomatch h
  | s, c :: cs, h => by
    rcases List.mem_cons.1 h with rfl | h
    · exact ⟨c, List.mem_cons_self .., _, Int.sub_sub ..⟩
    · obtain ⟨d, hd, t, e⟩ := rvs_mem h
      exact ⟨d, List.mem_cons_of_mem _ hd, t, e⟩
/-- Less reading before: later. -/
theorem rvs_shift (Q : Int → Int) : ∀ (s t : Int) (cs : List CallR), rvs Q s cs = (rvs Q t cs).map fun x => x + (t - s)
  | _, _, [] => rfl
  | s, t, c :: cs => by
    rw [rvs, rvs, List.map_cons, rvs_shift Q (s + c.lasts) (t + c.lasts) cs]
    congr 1
    · omega
    · congr 1; funext x; omega
theorem late_none {Q : Int → Int} {cs : List CallR} : lateM Q cs = none ↔ ∀ r ∈ rvs Q 0 cs, 0 ≤ r := by
  unfold lateM
  rw [List.findIdx?_eq_none_iff]
  exact ⟨fun h r hr => by have := h r hr; simpa using this, fun h r hr => by have := h r hr; simpa using this⟩
theorem room_le {Q : Int → Int} {cs : List CallR} {x : Int} : x ≤ roomM Q cs ↔ x ≤ maxM ∧ ∀ r ∈ rvs Q 0 cs, x ≤ r := le_minL _ x
/-- Of the later calls more room is left. -/
theorem room_mono {Q : Int → Int} {c : CallR} {cs : List CallR} (h : 0 ≤ c.lasts) : roomM Q (c :: cs) ≤ roomM Q cs := by
  refine room_le.2 ⟨((room_le (x := roomM Q (c :: cs))).1 (Int.le_refl _)).1, fun r hr => ?_⟩
  have h1 := ((room_le (Q := Q) (cs := c :: cs)).1 (Int.le_refl _)).2
  rw [rvs_shift Q 0 (0 + c.lasts) cs] at hr
  obtain ⟨y, hy, rfl⟩ := List.mem_map.1 hr
  have := h1 y (by rw [rvs]; exact List.mem_cons_of_mem _ hy)
  omega
theorem trig_le (Q : Int → Int) (c : CallR) (cs : List CallR) : trigM Q c cs ≤ c.place.toNat := lastN_le _ _
theorem trig_holds {Q : Int → Int} {c : CallR} {cs : List CallR} (h0 : Q 0 ≤ roomM Q (c :: cs)) : Q (trigM Q c cs) ≤ roomM Q (c :: cs) := by
  have := lastN_holds (fun p => decide (Q p ≤ roomM Q (c :: cs))) (by simpa using h0) c.place.toNat
  simp only [decide_eq_true_eq] at this
  exact this
theorem trig_mono {Q : Int → Int} {c d : CallR} {cs : List CallR} (hl : 0 ≤ c.lasts) (hp : c.place ≤ d.place) (h0 : Q 0 ≤ roomM Q (c :: d :: cs)) : trigM Q c (d :: cs) ≤ trigM Q d cs := by
  refine lastN_ge (by have := trig_le Q c (d :: cs); omega) ?_
  have h1 := trig_holds h0
  have h2 := room_mono (Q := Q) (c := c) (cs := d :: cs) hl
  simp only [decide_eq_true_eq]
  omega
/-- Where no stretch takes less time. -/
theorem rvs_more {Q1 Q2 : Int → Int} {g n : Int} (hQ : ∀ j k, 0 ≤ j → j ≤ k → k ≤ n → Q1 k - Q1 j ≤ Q2 k - Q2 j) (hg0 : 0 ≤ g) : ∀ (s : Int) (cs : List CallR), (∀ c ∈ cs, g ≤ c.place ∧ c.place ≤ n) → (∀ r ∈ rvs Q1 s cs, Q1 g ≤ r) → ∀ r ∈ rvs Q2 s cs, Q2 g ≤ r
  | _, [], _, _, r, hr => nomatch hr
  | s, c :: cs, hc, h, r, hr => by
    rcases List.mem_cons.1 hr with rfl | hr
    · have h1 := h _ (List.mem_cons_self ..)
      obtain ⟨h2, h3⟩ := hc c (List.mem_cons_self ..)
      have h4 := hQ g c.place hg0 h2 h3
      omega
    · exact rvs_more hQ hg0 _ cs (fun d hd => hc d (List.mem_cons_of_mem _ hd)) (fun r hr => h r (List.mem_cons_of_mem _ hr)) r hr
theorem late_more {Q1 Q2 : Int → Int} {n : Int} (hQ : ∀ j k, 0 ≤ j → j ≤ k → k ≤ n → Q1 k - Q1 j ≤ Q2 k - Q2 j) (h1 : Q1 0 = 0) (h2 : Q2 0 = 0) {cs : List CallR} (hc : ∀ c ∈ cs, 0 ≤ c.place ∧ c.place ≤ n) (h : lateM Q1 cs = none) : lateM Q2 cs = none := by
  rw [late_none] at h ⊢
  have := rvs_more hQ (g := 0) (Int.le_refl 0) 0 cs hc (by rw [h1]; exact h)
  rw [h2] at this
  exact this
theorem trig_more {Q1 Q2 : Int → Int} {n : Int} (hQ : ∀ j k, 0 ≤ j → j ≤ k → k ≤ n → Q1 k - Q1 j ≤ Q2 k - Q2 j) (h1 : Q1 0 = 0) (hm : ∀ k, 0 ≤ k → k ≤ n → Q2 k ≤ maxM) {c : CallR} {cs : List CallR} (hn : c.place ≤ n) (hc0 : 0 ≤ c.place) (hc : ∀ d ∈ cs, c.place ≤ d.place ∧ d.place ≤ n)
    (h : lateM Q1 (c :: cs) = none) : Q2 (trigM Q1 c cs) ≤ roomM Q2 (c :: cs) ∧ trigM Q1 c cs ≤ trigM Q2 c cs := by
  have h0 : Q1 0 ≤ roomM Q1 (c :: cs) := by
    rw [h1]
    exact room_le.2 ⟨by decide, late_none.1 h⟩
  have h3 := trig_holds h0
  have h4 := trig_le Q1 c cs
  have h5 : Q2 (trigM Q1 c cs) ≤ roomM Q2 (c :: cs) := by
    refine room_le.2 ⟨hm _ (by omega) (by omega), ?_⟩
    refine rvs_more hQ (g := (trigM Q1 c cs : Int)) (by omega) 0 (c :: cs) (fun d hd => ?_) (room_le.1 h3).2
    rcases List.mem_cons.1 hd with rfl | hd
    · exact ⟨by omega, hn⟩
    · obtain ⟨a, b⟩ := hc d hd; exact ⟨by omega, b⟩
  exact ⟨h5, lastN_ge h4 (by simpa using h5)⟩
end Go.Proofs.YtijcbfhlhgjedaaDoor
