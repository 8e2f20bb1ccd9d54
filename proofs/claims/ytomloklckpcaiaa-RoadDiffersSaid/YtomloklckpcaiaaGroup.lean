/- Groups of bends: plainly, and how they lie in memory. -/
import Derived.Test.YtomloklckpcaiaaApp
namespace Go.Proofs.Ytomloklckpcaiaa
open Go.RowKit Go.Shelf Go.Sort Go.Proofs

/-- A new bend joins the last group, or begins one. -/
def addB (gap : Int) (gs : List (List Bd)) (x : Bd) : List (List Bd) :=
  match gs.getLast?.bind List.getLast? with
  | some y => if tog gap y x then gs.dropLast ++ [(gs.getLast?.getD []) ++ [x]] else gs ++ [[x]]
  | none => gs ++ [[x]]
def grp (gap : Int) (l : List Bd) : List (List Bd) := l.foldl (addB gap) []
theorem grp_snoc (gap : Int) (l : List Bd) (x : Bd) : grp gap (l ++ [x]) = addB gap (grp gap l) x := by simp [grp]
theorem addB_ne (gap : Int) (gs : List (List Bd)) (x : Bd) : ∃ ds g, addB gap gs x = ds ++ [g ++ [x]] := by
  unfold addB
  split
  · split
    · exact ⟨_, _, rfl⟩
    · exact ⟨gs, [], rfl⟩
  · exact ⟨gs, [], rfl⟩
theorem grp_last (gap : Int) (l : List Bd) (y : Bd) : ∃ ds g, grp gap (l ++ [y]) = ds ++ [g ++ [y]] := by
  rw [grp_snoc]; exact addB_ne _ _ _
theorem addB_at (gap : Int) (ds : List (List Bd)) (g : List Bd) (y x : Bd) : addB gap (ds ++ [g ++ [y]]) x = if tog gap y x then ds ++ [g ++ [y] ++ [x]] else ds ++ [g ++ [y]] ++ [[x]] := by
  simp [addB]
theorem addB_nil (gap : Int) (x : Bd) : addB gap [] x = [[x]] := rfl

/-- The header of a slice. -/
structure Hdr where
  A : Option Addr
  n : Nat
  c : Nat
def hC (h : Hdr) : List Value := [.slice h.A h.n h.c]
theorem hC_len (h : Hdr) : (hC h).length = 1 := rfl
theorem bC_len (e : Bd) : (bC e).length = 6 := rfl
theorem infoBend : (Try.prog.info? 102).map (fun i => (i.zero, i.size, i.bytes)) = some (some (.agg #[.int .i64 0, .int .i64 0, .int .i64 0, .int .i64 0, .int .i64 0, .int .i64 0]), 6, 48) := by kernel_rfl
theorem infoBends : (Try.prog.info? 97).map (fun i => (i.zero, i.size, i.bytes)) = some (some (.slice none 0 0), 1, 24) := by kernel_rfl

/-- The groups gs in memory: a row of headers, a row for each group; the last group's row apart from the others, the headers' row apart from all. -/
structure GS (w : World) (base : Nat) (A : Option Addr) (n c : Nat) (gs : List (Hdr × List Bd)) : Prop where
  out : OW hC 1 97 base w A n c (gs.map (·.1))
  grp : ∀ p ∈ gs, OW bC 6 102 base w p.1.A p.1.n p.1.c p.2 ∧ p.2 ≠ []
  off : ∀ p ∈ gs, ∀ a b, p.1.A = some a → A = some b → a.block ≠ b.block
  last : ∀ ds q, gs = ds ++ [q] → ∀ p ∈ ds, ∀ a b, p.1.A = some a → q.1.A = some b → a.block ≠ b.block
theorem GS.nil_ (w : World) (base : Nat) : GS w base none 0 0 [] :=
  ⟨OW.nil_, fun p hp => (by cases hp), fun p hp => (by cases hp), fun ds q e => (by simp at e)⟩
section
variable {w w' : World} {base n c : Nat} {A : Option Addr} {gs ds : List (Hdr × List Bd)} {q : Hdr × List Bd}
theorem GS.call (h : GS w base A n c gs) (hb : Below w.heap.size w w') : GS w' base A n c gs :=
  ⟨h.out.call hb, fun p hp => ⟨(h.grp p hp).1.call hb, (h.grp p hp).2⟩, h.off, h.last⟩
/-- A new group behind. -/
theorem GS.push {x : Bd} {N g c' : Nat} (h : GS w base A n c gs) (hN : w.heap.size ≤ N) (hw : ∀ k, k < w.heap.size → (∀ b, A = some b → b.block ≠ k) → w'.heap[k]? = w.heap[k]?)
    (hx : OW bC 6 102 base w' (some ⟨N, 0, none⟩) 1 1 [x]) (ho : OW hC 1 97 base w' (some ⟨g, 0, none⟩) (n + 1) c' (gs.map (·.1) ++ [⟨some ⟨N, 0, none⟩, 1, 1⟩])) (hg : (∃ b, A = some b ∧ b.block = g) ∨ N < g) :
    GS w' base (some ⟨g, 0, none⟩) (n + 1) c' (gs ++ [(⟨some ⟨N, 0, none⟩, 1, 1⟩, [x])]) := by
  have hlt : ∀ p ∈ gs, ∀ a, p.1.A = some a → a.block < w.heap.size := fun p hp a ha => ((h.grp p hp).1.lt ha).2
  refine ⟨by simpa using ho, fun p hp => ?_, fun p hp a b ha hb => ?_, fun ds q e p hp a b ha hb => ?_⟩
  · rcases List.mem_append.1 hp with hp | hp
    · exact ⟨(h.grp p hp).1.keep (fun a ha => hw _ (hlt p hp a ha) (fun b hb => (h.off p hp a b ha hb).symm)), (h.grp p hp).2⟩
    · simp at hp; subst hp; exact ⟨hx, by simp⟩
  · cases hb
    rcases List.mem_append.1 hp with hp | hp
    · have h1 := hlt p hp a ha
      rcases hg with ⟨b, hb, rfl⟩ | hg
      · exact h.off p hp a b ha hb
      · show a.block ≠ g; omega
    · simp at hp; subst hp
      cases ha
      show N ≠ g
      rcases hg with ⟨b, hb, rfl⟩ | hg
      · have := (h.out.lt hb).2; omega
      · omega
  · obtain ⟨rfl, e2⟩ := List.append_inj' e rfl
    simp at e2
    subst e2
    cases hb
    have := hlt p hp a ha
    show a.block ≠ N; omega
/-- The last group grows. -/
theorem GS.more {x : Bd} {g c' : Nat} {w1 : World} (h : GS w base A n c (ds ++ [q])) (h1 : App1 bC 6 102 base w q.1.A q.1.n q.1.c q.2 x g c' w1) (b0 : Nat) (hA : A = some ⟨b0, 0, none⟩)
    (ho : OW hC 1 97 base w' A n c (ds.map (·.1) ++ [⟨some ⟨g, 0, none⟩, q.1.n + 1, c'⟩])) (hw : ∀ k, k ≠ b0 → w'.heap[k]? = w1.heap[k]?) :
    GS w' base A n c (ds ++ [(⟨some ⟨g, 0, none⟩, q.1.n + 1, c'⟩, q.2 ++ [x])]) := by
  have hlt : ∀ p ∈ ds ++ [q], ∀ a, p.1.A = some a → a.block < w.heap.size := fun p hp a ha => ((h.grp p hp).1.lt ha).2
  have hq : q ∈ ds ++ [q] := by simp
  have hds : ∀ p ∈ ds, p ∈ ds ++ [q] := fun p hp => List.mem_append_left _ hp
  have hbA := (h.out.lt hA).2
  have hgb : g ≠ b0 := by
    rcases h1.at_ with ⟨b, hb, rfl⟩ | hg
    · exact h.off q hq b _ hb hA
    · simp at hbA; omega
  have hgd : ∀ p ∈ ds, ∀ a, p.1.A = some a → a.block ≠ g := fun p hp a ha => by
    rcases h1.at_ with ⟨b, hb, rfl⟩ | hg
    · exact h.last ds q rfl p hp a b ha hb
    · have := hlt p (hds p hp) a ha; omega
  refine ⟨by simpa using ho, fun p hp => ?_, fun p hp a b ha hb => ?_, fun ds' q' e p hp a b ha hb => ?_⟩
  · rcases List.mem_append.1 hp with hp | hp
    · refine ⟨(h.grp p (hds p hp)).1.keep (fun a ha => ?_), (h.grp p (hds p hp)).2⟩
      rw [hw _ (by have := h.off p (hds p hp) a _ ha hA; exact this)]
      exact h1.far _ (hlt p (hds p hp) a ha) (fun b hb => (h.last ds q rfl p hp a b ha hb).symm)
    · simp at hp; subst hp
      exact ⟨h1.own.keep (fun a ha => by cases ha; exact hw _ hgb), by simp⟩
  · rcases List.mem_append.1 hp with hp | hp
    · exact h.off p (hds p hp) a b ha hb
    · simp at hp; subst hp
      cases ha
      rw [hA] at hb
      cases hb
      exact hgb
  · obtain ⟨rfl, e2⟩ := List.append_inj' e rfl
    simp at e2
    subst e2
    cases hb
    exact hgd p hp a ha
end
end Go.Proofs.Ytomloklckpcaiaa
