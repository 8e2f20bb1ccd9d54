/- Groups of pieces: plainly, and how they lie in memory. -/
import Derived.Test.YtomloklckpcaiaaAlike
namespace Go.Proofs.Ytomloklckpcaiaa
open Go.RowKit Go.Shelf Go.Sort Go.Proofs

/-- A new piece joins the last group, or begins one. -/
def addP (gs : List (List Piece)) (x : Piece) : List (List Piece) :=
  match gs.getLast?.bind List.getLast? with
  | some y => if alk y x then gs.dropLast ++ [(gs.getLast?.getD []) ++ [x]] else gs ++ [[x]]
  | none => gs ++ [[x]]
def grpP (l : List Piece) : List (List Piece) := l.foldl (addP) []
theorem grpP_snoc (l : List Piece) (x : Piece) : grpP (l ++ [x]) = addP (grpP l) x := by simp [grpP]
theorem addP_ne (gs : List (List Piece)) (x : Piece) : ∃ ds g, addP gs x = ds ++ [g ++ [x]] := by
  unfold addP
  split
  · split
    · exact ⟨_, _, rfl⟩
    · exact ⟨gs, [], rfl⟩
  · exact ⟨gs, [], rfl⟩
theorem grpP_last (l : List Piece) (y : Piece) : ∃ ds g, grpP (l ++ [y]) = ds ++ [g ++ [y]] := by
  rw [grpP_snoc]; exact addP_ne _ _
theorem addP_at (ds : List (List Piece)) (g : List Piece) (y x : Piece) : addP (ds ++ [g ++ [y]]) x = if alk y x then ds ++ [g ++ [y] ++ [x]] else ds ++ [g ++ [y]] ++ [[x]] := by
  simp [addP]
theorem addP_nil (x : Piece) : addP [] x = [[x]] := rfl

theorem infoPs : (Try.prog.info? 22).map (fun i => (i.zero, i.size, i.bytes)) = some (some (.slice none 0 0), 1, 24) := by kernel_rfl

/-- The groups gs in memory: a row of headers, a row for each group; the last group's row apart from the others, the headers' row apart from all. -/
structure GP (w : World) (base : Nat) (A : Option Addr) (n c : Nat) (gs : List (Hdr × List Piece)) : Prop where
  out : OW hC 1 22 base w A n c (gs.map (·.1))
  grp : ∀ p ∈ gs, OW pC 5 52 base w p.1.A p.1.n p.1.c p.2 ∧ p.2 ≠ []
  off : ∀ p ∈ gs, ∀ a b, p.1.A = some a → A = some b → a.block ≠ b.block
  last : ∀ ds q, gs = ds ++ [q] → ∀ p ∈ ds, ∀ a b, p.1.A = some a → q.1.A = some b → a.block ≠ b.block
theorem GP.nil_ (w : World) (base : Nat) : GP w base none 0 0 [] :=
  ⟨OW.nil_, fun p hp => (by cases hp), fun p hp => (by cases hp), fun ds q e => (by simp at e)⟩
section
variable {w w' : World} {base n c : Nat} {A : Option Addr} {gs ds : List (Hdr × List Piece)} {q : Hdr × List Piece}
theorem GP.call (h : GP w base A n c gs) (hb : Below w.heap.size w w') : GP w' base A n c gs :=
  ⟨h.out.call hb, fun p hp => ⟨(h.grp p hp).1.call hb, (h.grp p hp).2⟩, h.off, h.last⟩
/-- A new group behind. -/
theorem GP.push {x : Piece} {N g c' : Nat} (h : GP w base A n c gs) (hN : w.heap.size ≤ N) (hw : ∀ k, k < w.heap.size → (∀ b, A = some b → b.block ≠ k) → w'.heap[k]? = w.heap[k]?)
    (hx : OW pC 5 52 base w' (some ⟨N, 0, none⟩) 1 1 [x]) (ho : OW hC 1 22 base w' (some ⟨g, 0, none⟩) (n + 1) c' (gs.map (·.1) ++ [⟨some ⟨N, 0, none⟩, 1, 1⟩])) (hg : (∃ b, A = some b ∧ b.block = g) ∨ N < g) :
    GP w' base (some ⟨g, 0, none⟩) (n + 1) c' (gs ++ [(⟨some ⟨N, 0, none⟩, 1, 1⟩, [x])]) := by
  have hlt : ∀ p ∈ gs, ∀ a, p.1.A = some a → a.block < w.heap.size := fun p hp a ha => ((h.grp p hp).1.lt ha).2
  refine ⟨by simpa using ho, fun p hp => ?_, fun p hp a b ha hb => ?_, fun ds q e p hp a b ha hb => ?_⟩
  · rcases List.mem_append.1 hp with hp | hp
    · exact ⟨(h.grp p hp).1.keep (fun a ha => hw _ (hlt p hp a ha) (fun b hb => (h.off p hp a b ha hb).symm)), (h.grp p hp).2⟩
    · simp at hp; subst hp; exact ⟨hx, by simp⟩
  · cases hb
    rcases List.mem_append.1 hp with hp | hp
    · have h1 := hlt p hp a ha
      rcases hg with ⟨b, hb, rfl⟩ | hg
      · exact h.off p hp a b ha hb
      · show a.block ≠ g; omega
    · simp at hp; subst hp
      cases ha
      show N ≠ g
      rcases hg with ⟨b, hb, rfl⟩ | hg
      · have := (h.out.lt hb).2; omega
      · omega
  · obtain ⟨rfl, e2⟩ := List.append_inj' e rfl
    simp at e2
    subst e2
    cases hb
    have := hlt p hp a ha
    show a.block ≠ N; omega
/-- The last group grows. -/
theorem GP.more {x : Piece} {g c' : Nat} {w1 : World} (h : GP w base A n c (ds ++ [q])) (h1 : App1 pC 5 52 base w q.1.A q.1.n q.1.c q.2 x g c' w1) (b0 : Nat) (hA : A = some ⟨b0, 0, none⟩)
    (ho : OW hC 1 22 base w' A n c (ds.map (·.1) ++ [⟨some ⟨g, 0, none⟩, q.1.n + 1, c'⟩])) (hw : ∀ k, k ≠ b0 → w'.heap[k]? = w1.heap[k]?) :
    GP w' base A n c (ds ++ [(⟨some ⟨g, 0, none⟩, q.1.n + 1, c'⟩, q.2 ++ [x])]) := by
  have hlt : ∀ p ∈ ds ++ [q], ∀ a, p.1.A = some a → a.block < w.heap.size := fun p hp a ha => ((h.grp p hp).1.lt ha).2
  have hq : q ∈ ds ++ [q] := by simp
  have hds : ∀ p ∈ ds, p ∈ ds ++ [q] := fun p hp => List.mem_append_left _ hp
  have hbA := (h.out.lt hA).2
  have hgb : g ≠ b0 := by
    rcases h1.at_ with ⟨b, hb, rfl⟩ | hg
    · exact h.off q hq b _ hb hA
    · simp at hbA; omega
  have hgd : ∀ p ∈ ds, ∀ a, p.1.A = some a → a.block ≠ g := fun p hp a ha => by
    rcases h1.at_ with ⟨b, hb, rfl⟩ | hg
    · exact h.last ds q rfl p hp a b ha hb
    · have := hlt p (hds p hp) a ha; omega
  refine ⟨by simpa using ho, fun p hp => ?_, fun p hp a b ha hb => ?_, fun ds' q' e p hp a b ha hb => ?_⟩
  · rcases List.mem_append.1 hp with hp | hp
    · refine ⟨(h.grp p (hds p hp)).1.keep (fun a ha => ?_), (h.grp p (hds p hp)).2⟩
      rw [hw _ (by have := h.off p (hds p hp) a _ ha hA; exact this)]
      exact h1.far _ (hlt p (hds p hp) a ha) (fun b hb => (h.last ds q rfl p hp a b ha hb).symm)
    · simp at hp; subst hp
      exact ⟨h1.own.keep (fun a ha => by cases ha; exact hw _ hgb), by simp⟩
  · rcases List.mem_append.1 hp with hp | hp
    · exact h.off p (hds p hp) a b ha hb
    · simp at hp; subst hp
      cases ha
      rw [hA] at hb
      cases hb
      exact hgb
  · obtain ⟨rfl, e2⟩ := List.append_inj' e rfl
    simp at e2
    subst e2
    cases hb
    exact hgd p hp a ha
end
end Go.Proofs.Ytomloklckpcaiaa
