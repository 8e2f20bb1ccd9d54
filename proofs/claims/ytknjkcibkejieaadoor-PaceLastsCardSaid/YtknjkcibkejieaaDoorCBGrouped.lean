/- Bends: their groups, plainly; the test whether two of them lie together. -/
import Derived.Test.YtknjkcibkejieaaDoorCBSee
import Derived.Deep.AppendLies
import Derived.Deep.RegionLaw
import Derived.Maps.OwnIn
namespace Go.Proofs.YtknjkcibkejieaaDoor
open Go.RowKit Go.Shelf Go.Sort Go.Proofs

/-- A bend, with its beginning: six cells. -/
abbrev Bd := Int × Piece
/-- y belongs to the group of x. -/
def tog (gap : Int) (x y : Bd) : Bool := decide (x.2.turn = y.2.turn) && decide (y.1 - x.1 - x.2.len ≤ gap)
end Go.Proofs.YtknjkcibkejieaaDoor

/- append of one element onto a row of the call's own, with the place where the new row lies: in a plain region, and at a step of a region that draws. Plain theorems over any program. -/
namespace Go.Proofs.YtknjkcibkejieaaDoor
open Go.RowKit Go.Proofs

section
variable {α : Type} {P : Program} {f : α → List Value} {sz : Nat} {e : TypeId} {base : Nat} {W : World} {A : Option Addr} {n c : Nat} {xs : List α} {y : α}
/-- What an append of one element leaves. -/
structure App1 (f : α → List Value) (sz : Nat) (e : TypeId) (base : Nat) (W : World) (A : Option Addr) (n c : Nat) (xs : List α) (y : α) (g c' : Nat) (w' : World) : Prop where
  own : OW f sz e base w' (some ⟨g, 0, none⟩) (n + 1) c' (xs ++ [y])
  bel : Below base W w'
  at_ : (∃ b, A = some b ∧ b.block = g) ∨ g = W.heap.size
  far : ∀ k, k < W.heap.size → (∀ b, A = some b → b.block ≠ k) → w'.heap[k]? = W.heap[k]?
  size : W.heap.size ≤ w'.heap.size
theorem app1_of (hown : OW f sz e base W A n c xs) (hbase : base ≤ W.heap.size) {g cap : Nat} {w' : World}
    (h2 : w'.ownsRow base e sz (.slice (some ⟨g, 0, none⟩) (n + 1) cap) (n + 1) (xs.flatMap f ++ f y)) (h3 : W.grownBy w' (Value.slice A n c).ownBlock) (h4 : (Value.slice A n c).ownBlock = some g ∨ g = W.heap.size) : App1 f sz e base W A n c xs y g cap w' := by
  refine ⟨⟨by rw [List.flatMap_append, List.flatMap_cons, List.flatMap_nil, List.append_nil]; exact h2, by simp [hown.2]⟩, ⟨h3.os, h3.tape, h3.output, h3.size, fun k hk => h3.block k (by omega) (fun e => ?_)⟩, ?_, fun k hk hne => h3.block k hk (fun e => ?_), h3.size⟩
  · rcases A with _ | g'
    · simp [Value.ownBlock] at e
    · simp [Value.ownBlock] at e
      have := (hown.lt rfl).1
      omega
  · rcases h4 with h4 | h4
    · left
      rcases A with _ | g'
      · simp [Value.ownBlock] at h4
      · simp [Value.ownBlock] at h4
        exact ⟨g', rfl, h4⟩
    · exact .inr h4
  · rcases A with _ | g'
    · simp [Value.ownBlock] at e
    · simp [Value.ownBlock] at e
      exact hne g' rfl e.symm
theorem news1 {N : Nat} {ty : TypeId} {cs : Array Value} (hb : BK W N ty cs) (hcs : cs.toList = f y) : ∀ j u, (f y)[j]? = some u → W.cell? ((⟨N, 0, none⟩ : Addr).add j) = some u := by
  intro j u hj
  have e0 : ((⟨N, 0, none⟩ : Addr).add j) = ⟨N, j, none⟩ := by unfold Addr.add; split <;> simp_all
  rw [e0, hb.cell j, ← Array.getElem?_toList, hcs]
  exact hj
/-- In a plain region. -/
theorem wpList_app {ops : Array Oper} {rest : List Oper} {o : Oper} {a : Act} {Q : Exit → Act → World → Prop} (hgd : o.guard = none) (s x : Operand) (t : TypeId)
    (ho : o.op = .call { callee := .builtin .append, args := #[s, x], argTypes := #[t, t] })
    (base : Nat) (e : TypeId) (z : Value) (sz bytes : Nat) (ht : P.underlying t = some (.slice e)) (hi : (P.info? e).map (fun i => (i.zero, i.size, i.bytes)) = some (some z, sz, bytes))
    (hzs : z.cells.size = sz) (hsz : 0 < sz) (f : α → List Value) (A : Option Addr) (n c : Nat) (xs : List α) (hs : a.eval s = .slice A n c) (hown : OW f sz e base W A n c xs)
    (y : α) (cs : Array Value) (hcs : cs.toList = f y) (hcl : (f y).length = sz) (ty : TypeId) (N : Nat) (hx : a.eval x = .slice (some ⟨N, 0, none⟩) 1 1) (hN : BK W N ty cs) (h1 : ∀ u ∈ f y, u.oneCell' = true)
    (hbytes : (n + 1) * bytes ≤ 140737488355328) (hby : 1 ≤ bytes) (hbase : base ≤ W.heap.size)
    (h : ∀ g c' w', App1 f sz e base W A n c xs y g c' w' → wpList P ops Q rest (a.put o.dst (.slice (some ⟨g, 0, none⟩) (n + 1) c')) w') :
    wpList P ops Q (o :: rest) a W := by
  obtain ⟨i, hi', hz, hsize, hbytes'⟩ := info_parts hi
  refine wpList_append_lies W hgd s x t ho base e i z sz bytes ht hi' hz hsize hbytes' hzs hsz _ n (xs.flatMap f) hs hown.1 ⟨N, 0, none⟩ 1 1 (f y) hx (by rw [hcl, Nat.one_mul]) (news1 hN hcs) h1 (by omega) ?_ hbytes hbase W.heap.size rfl ?_
  · unfold maxLen
    have : n + 1 ≤ (n + 1) * bytes := Nat.le_mul_of_pos_right _ (by omega)
    omega
  · intro g cap w' h2 h3 h4 _
    exact h g cap w' (app1_of hown hbase h2 h3 h4)
end
end Go.Proofs.YtknjkcibkejieaaDoor

/- Groups of bends: plainly, and how they lie in memory. -/
namespace Go.Proofs.YtknjkcibkejieaaDoor
open Go.RowKit Go.Shelf Go.Sort Go.Proofs

/-- A new bend joins the last group, or begins one. -/
def addB (gap : Int) (gs : List (List Bd)) (x : Bd) : List (List Bd) :=
  match gs.getLast?.bind List.getLast? with
  | some y => if tog gap y x then gs.dropLast ++ [(gs.getLast?.getD []) ++ [x]] else gs ++ [[x]]
  | none => gs ++ [[x]]
def grp (gap : Int) (l : List Bd) : List (List Bd) := l.foldl (addB gap) []
/-- The header of a slice. -/
structure Hdr where
  A : Option Addr
  n : Nat
  c : Nat
def hC (h : Hdr) : List Value := [.slice h.A h.n h.c]
section
variable {w w' : World} {base n c : Nat} {A : Option Addr} {gs ds : List (Hdr × List Bd)} {q : Hdr × List Bd}
end
end Go.Proofs.YtknjkcibkejieaaDoor

/- grouped, for bends that lie together. -/
namespace Go.Proofs.YtknjkcibkejieaaDoor
open Go.RowKit Go.Shelf Go.Sort Go.Proofs

/-- A block of its own with one element. -/
theorem OW.one {α : Type} {f : α → List Value} {sz : Nat} {e : TypeId} {base : Nat} {w : World} {N : Nat} {cs : Array Value} {y : α} (hb : BK w N e cs) (hcs : cs.toList = f y) (hl : (f y).length = sz) (hN : base ≤ N) :
    OW f sz e base w (some ⟨N, 0, none⟩) 1 1 [y] := by
  refine ⟨⟨by simp [hl], .inr ⟨N, 1, cs, rfl, hN, hb, Nat.le_refl _, by unfold maxLen; omega, ?_, ?_⟩⟩, rfl⟩
  · rw [← Array.length_toList, hcs, hl]; omega
  · rw [hcs, Nat.one_mul, List.take_of_length_le (by omega)]; simp
end Go.Proofs.YtknjkcibkejieaaDoor

/- append of one element, inside a fence. Plain theorem over any program. -/
namespace Go.Proofs.YtknjkcibkejieaaDoor
open Go.RowKit Go.Proofs

end Go.Proofs.YtknjkcibkejieaaDoor
