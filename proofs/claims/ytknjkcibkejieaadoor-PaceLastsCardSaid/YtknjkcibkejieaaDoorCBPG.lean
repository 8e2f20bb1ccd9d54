/- Two pieces, the same apart from their lengths: the code's test and the document's. -/
import Derived.Test.YtknjkcibkejieaaDoorCBCorn
import Derived.Test.YtknjkcibkejieaaDoorCBFind
namespace Go.Proofs.YtknjkcibkejieaaDoor
open Go.RowKit Go.Shelf Go.Sort Go.Proofs

end Go.Proofs.YtknjkcibkejieaaDoor

/- Groups of pieces: plainly, and how they lie in memory. -/
namespace Go.Proofs.YtknjkcibkejieaaDoor
open Go.RowKit Go.Shelf Go.Sort Go.Proofs

/-- The groups gs in memory: a row of headers, a row for each group; the last group's row apart from the others, the headers' row apart from all. -/
structure GP (w : World) (base : Nat) (A : Option Addr) (n c : Nat) (gs : List (Hdr × List Piece)) : Prop where
  out : OW hC 1 37 base w A n c (gs.map (·.1))
  grp : ∀ p ∈ gs, OW pC 5 64 base w p.1.A p.1.n p.1.c p.2 ∧ p.2 ≠ []
  off : ∀ p ∈ gs, ∀ a b, p.1.A = some a → A = some b → a.block ≠ b.block
  last : ∀ ds q, gs = ds ++ [q] → ∀ p ∈ ds, ∀ a b, p.1.A = some a → q.1.A = some b → a.block ≠ b.block
theorem GP.nil_ (w : World) (base : Nat) : GP w base none 0 0 [] :=
  ⟨OW.nil_, fun p hp => (by cases hp), fun p hp => (by cases hp), fun ds q e => (by simp at e)⟩
section
variable {w w' : World} {base n c : Nat} {A : Option Addr} {gs ds : List (Hdr × List Piece)} {q : Hdr × List Piece}
theorem GP.call (h : GP w base A n c gs) (hb : Below w.heap.size w w') : GP w' base A n c gs :=
  ⟨h.out.call hb, fun p hp => ⟨(h.grp p hp).1.call hb, (h.grp p hp).2⟩, h.off, h.last⟩
/-- The last group grows. -/
theorem GP.more {x : Piece} {g c' : Nat} {w1 : World} (h : GP w base A n c (ds ++ [q])) (h1 : App1 pC 5 64 base w q.1.A q.1.n q.1.c q.2 x g c' w1) (b0 : Nat) (hA : A = some ⟨b0, 0, none⟩)
    (ho : OW hC 1 37 base w' A n c (ds.map (·.1) ++ [⟨some ⟨g, 0, none⟩, q.1.n + 1, c'⟩])) (hw : ∀ k, k ≠ b0 → w'.heap[k]? = w1.heap[k]?) :
    GP w' base A n c (ds ++ [(⟨some ⟨g, 0, none⟩, q.1.n + 1, c'⟩, q.2 ++ [x])]) := by
  have hlt : ∀ p ∈ ds ++ [q], ∀ a, p.1.A = some a → a.block < w.heap.size := fun p hp a ha => ((h.grp p hp).1.lt ha).2
  have hq : q ∈ ds ++ [q] := by simp
  have hds : ∀ p ∈ ds, p ∈ ds ++ [q] := fun p hp => List.mem_append_left _ hp
  have hbA := (h.out.lt hA).2
  have hgb : g ≠ b0 := by
    rcases h1.at_ with ⟨b, hb, rfl⟩ | hg
    · exact h.off q hq b _ hb hA
    · simp at hbA; omega
  have hgd : ∀ p ∈ ds, ∀ a, p.1.A = some a → a.block ≠ g := fun p hp a ha => by
    rcases h1.at_ with ⟨b, hb, rfl⟩ | hg
    · exact h.last ds q rfl p hp a b ha hb
    · have := hlt p (hds p hp) a ha; omega
  refine ⟨by simpa using ho, fun p hp => ?_, fun p hp a b ha hb => ?_, fun ds' q' e p hp a b ha hb => ?_⟩
  · rcases List.mem_append.1 hp with hp | hp
    · refine ⟨(h.grp p (hds p hp)).1.keep (fun a ha => ?_), (h.grp p (hds p hp)).2⟩
      rw [hw _ (by have := h.off p (hds p hp) a _ ha hA; exact this)]
      exact h1.far _ (hlt p (hds p hp) a ha) (fun b hb => (h.last ds q rfl p hp a b ha hb).symm)
    · simp at hp; subst hp
      exact ⟨h1.own.keep (fun a ha => by cases ha; exact hw _ hgb), by simp⟩
  · rcases List.mem_append.1 hp with hp | hp
    · exact h.off p (hds p hp) a b ha hb
    · simp at hp; subst hp
      cases ha
      rw [hA] at hb
      cases hb
      exact hgb
  · obtain ⟨rfl, e2⟩ := List.append_inj' e rfl
    simp at e2
    subst e2
    cases hb
    exact hgd p hp a ha
end
end Go.Proofs.YtknjkcibkejieaaDoor

/- The normal road, plainly. -/
namespace Go.Proofs.YtknjkcibkejieaaDoor
open Go.RowKit Go.Shelf Go.Sort Go.Proofs

def one (p : Piece) : Piece := { p with len := 1 }
def units (ps : List Piece) : List Piece := ps.flatMap fun p => List.replicate p.len.toNat (one p)
theorem units_append (a b : List Piece) : units (a ++ b) = units a ++ units b := by simp [units]
theorem units_one (p : Piece) : units [p] = List.replicate p.len.toNat (one p) := by simp [units]
theorem units_cons (p : Piece) (l : List Piece) : units (p :: l) = List.replicate p.len.toNat (one p) ++ units l := by simp [units]
theorem sumL_cons (p : Piece) (l : List Piece) : sumL (p :: l) = p.len + sumL l := by simp [sumL]
theorem sumL_append (a b : List Piece) : sumL (a ++ b) = sumL a + sumL b := by simp [sumL]
theorem units_len : ∀ {ps : List Piece}, (∀ q ∈ ps, 0 ≤ q.len) → ((units ps).length : Int) = sumL ps
  | [], _ => rfl
  | p :: ps, h => by
    have hp := h p (List.mem_cons_self ..)
    rw [units_cons, List.length_append, List.length_replicate, sumL_cons, ← units_len (fun q hq => h q (List.mem_cons_of_mem _ hq))]
    omega
theorem units_mem {ps : List Piece} {x : Piece} (h : x ∈ units ps) : ∃ p ∈ ps, x = one p := by
  obtain ⟨p, hp, hq⟩ := List.mem_flatMap.1 h
  exact ⟨p, hp, List.eq_of_mem_replicate hq⟩
theorem pOk_one {p q : Piece} (h : pOk p = true) (e : one q = one p) (hl : 1 ≤ q.len ∧ q.len ≤ 5000) : pOk q = true := by
  obtain ⟨a, b, c, d, f⟩ := p
  obtain ⟨a', b', c', d', f'⟩ := q
  simp [one] at e
  obtain ⟨rfl, rfl, rfl, rfl⟩ := e
  simp only [pOk, Bool.and_eq_true] at h ⊢
  exact ⟨by simp [inR]; exact hl, h.2⟩
/-- A group as one run. -/
def hs : List Piece → Piece
  | [] => ⟨0, 0, 0, 0, 0⟩
  | x :: l => { x with len := sumL (x :: l) }
end Go.Proofs.YtknjkcibkejieaaDoor

/- The piece at a place, by unit pieces. -/
namespace Go.Proofs.YtknjkcibkejieaaDoor
open Go.RowKit Go.Shelf Go.Sort Go.Proofs

end Go.Proofs.YtknjkcibkejieaaDoor
