/- The words for memory that all proofs of this seat use: a slice that reads as a list of structs, kept over what a call makes. Plain theorems over any program; no program in sight. -/
import Derived.WalkKit
import Derived.WalkSpells
import Derived.Deep.Draws
import Derived.Lib.Hide
import Derived.Maps.AppendAt
namespace Go.Proofs.YtafclpmnpamipaaGreat
open Go.RowKit

/-- The slice value with address A and length n (elements of sz cells) reads as xs, and lies below block B. -/
def SL {α : Type} (f : α → List Value) (sz : Nat) (w : World) (B : Nat) (A : Option Addr) (n : Nat) (xs : List α) : Prop :=
  n = xs.length ∧ (0 < n → ∃ b off, A = some ⟨b, off, none⟩ ∧ b < B ∧ ∀ i x, xs[i]? = some x → ∀ j v, (f x)[j]? = some v → w.cell? ⟨b, off + i * sz + j, none⟩ = some v)
section
variable {α : Type} {f : α → List Value} {sz : Nat} {w w' : World} {B B' n : Nat} {A : Option Addr} {xs : List α}
theorem SL.len (h : SL f sz w B A n xs) : n = xs.length := h.1
theorem SL.nil_ : SL f sz w B A 0 [] := ⟨rfl, fun h => absurd h (by omega)⟩
theorem SL.keep (h : SL f sz w B A n xs) (hk : ∀ p : Addr, p.block < B → w'.cell? p = w.cell? p) : SL f sz w' B A n xs :=
  ⟨h.1, fun hn => by
    obtain ⟨b, off, e, hb, hc⟩ := h.2 hn
    exact ⟨b, off, e, hb, fun i x hx j v hv => (hk _ hb).trans (hc i x hx j v hv)⟩⟩
theorem SL.more (h : SL f sz w B A n xs) (hB : B ≤ B') : SL f sz w B' A n xs :=
  ⟨h.1, fun hn => by
    obtain ⟨b, off, e, hb, hc⟩ := h.2 hn
    exact ⟨b, off, e, by omega, hc⟩⟩
theorem SL.below (h : SL f sz w B A n xs) (hb : Below B w w') : SL f sz w' B A n xs := h.keep fun _ hp => hb.cell hp
theorem SL.grow (h : SL f sz w B A n xs) (hb : Below B w w') (hB : B ≤ B') : SL f sz w' B' A n xs := (h.below hb).more hB
/-- The cells of the element at k. -/
theorem SL.at_ (h : SL f sz w B A n xs) {k : Nat} (hk : k < xs.length) : ∃ b off, A = some ⟨b, off, none⟩ ∧ b < B ∧ ∀ j v, (f xs[k])[j]? = some v → w.cell? ⟨b, off + k * sz + j, none⟩ = some v := by
  obtain ⟨b, off, e, hb, hc⟩ := h.2 (by have := h.1; omega)
  exact ⟨b, off, e, hb, fun j v hv => hc k _ (List.getElem?_eq_getElem hk) j v hv⟩
end
/-- An old cell reads as it did. -/
theorem bc {B : Nat} {w w' : World} (h : Below B w w') {b o : Nat} (hb : b < B) : w'.cell? ⟨b, o, none⟩ = w.cell? ⟨b, o, none⟩ := h.cell (p := ⟨b, o, none⟩) hb
theorem bf {B : Nat} {w w' : World} (h : Below B w w') {b o : Nat} (hb : b < B) : w'.frozen? ⟨b, o, none⟩ = w.frozen? ⟨b, o, none⟩ := h.frozen (p := ⟨b, o, none⟩) hb
/-- What a contract of a call leaves (old memory as it was), joined to what was known before it. -/
theorem onto {B : Nat} {a b c : World} (h : Below B a b) (k : Below b.heap.size b c) (hB : B ≤ b.heap.size) : Below B a c := h.trans (k.mono hB)
/-- The slice value with address A, length n, capacity c is the call's own (a row from block base on, of elements of type e), and holds xs. -/
def OW {α : Type} (f : α → List Value) (sz : Nat) (e : TypeId) (base : Nat) (w : World) (A : Option Addr) (n c : Nat) (xs : List α) : Prop :=
  w.ownsRow base e sz (.slice A n c) n (xs.flatMap f) ∧ n = xs.length
section
variable {α : Type} {f : α → List Value} {sz : Nat} {e : TypeId} {base : Nat} {w w' : World} {A : Option Addr} {n c : Nat} {xs : List α}
theorem flat_at (hf : ∀ x, (f x).length = sz) : ∀ (xs : List α) (i : Nat) (x : α), xs[i]? = some x → ∀ j v, (f x)[j]? = some v → (xs.flatMap f)[i * sz + j]? = some v
  | [], i, x, hx, _, _, _ => by simp at hx
  | y :: ys, 0, x, hx, j, v, hv => by
    simp at hx; subst hx
    rw [List.flatMap_cons, Nat.zero_mul, Nat.zero_add, List.getElem?_append_left (List.getElem?_eq_some_iff.1 hv).1]; exact hv
  | y :: ys, i + 1, x, hx, j, v, hv => by
    have e2 : (i + 1) * sz + j = sz + (i * sz + j) := by rw [Nat.succ_mul]; omega
    rw [List.flatMap_cons, e2, List.getElem?_append_right (by rw [hf]; omega), hf, Nat.add_sub_cancel_left]
    exact flat_at hf ys i x (by simpa using hx) j v hv
theorem OW.nil_ : OW f sz e base w none 0 0 ([] : List α) := ⟨World.ownsRow_nil _ _ _ _, rfl⟩
theorem OW.len (h : OW f sz e base w A n c xs) : n = xs.length := h.2
theorem OW.lt (h : OW f sz e base w A n c xs) {g : Addr} (hA : A = some g) : base ≤ g.block ∧ g.block < w.heap.size := by
  subst hA
  exact h.1.lt _ rfl
theorem OW.none_ (h : OW f sz e base w none n c xs) : n = 0 ∧ c = 0 ∧ xs = [] := by
  have h2 := h.2
  rcases h.1.2 with ⟨h3, h4⟩ | ⟨g, cap, cur, h3, _⟩
  · injection h3 with _ _ h5
    exact ⟨h4, h5, List.eq_nil_of_length_eq_zero (by omega)⟩
  · cases h3
theorem OW.keep (h : OW f sz e base w A n c xs) (hk : ∀ g, A = some g → w'.heap[g.block]? = w.heap[g.block]?) : OW f sz e base w' A n c xs := by
  refine ⟨⟨h.1.1, ?_⟩, h.2⟩
  rcases h.1.2 with hn | ⟨g, cap, cur, h3, hb, hg, rest⟩
  · exact .inl hn
  · refine .inr ⟨g, cap, cur, h3, hb, ?_, rest⟩
    injection h3 with h3
    exact (hk ⟨g, 0, none⟩ h3).trans hg
theorem OW.alloc (h : OW f sz e base w A n c xs) (o : Obj) : OW f sz e base (w.alloc o) A n c xs := h.keep fun _ hg => Below.heap_alloc _ _ _ (h.lt hg).2
theorem OW.drew (h : OW f sz e base w A n c xs) : OW f sz e base w.drew A n c xs := h.keep fun _ _ => rfl
theorem OW.drewN (h : OW f sz e base w A n c xs) (k : Nat) : OW f sz e base (w.drewN k) A n c xs := h.keep fun _ _ => rfl
/-- Kept over a call that leaves old memory as it was. -/
theorem OW.call (h : OW f sz e base w A n c xs) (hb : Below w.heap.size w w') : OW f sz e base w' A n c xs := h.keep fun _ hg => hb.block _ (h.lt hg).2
theorem OW.setCell (h : OW f sz e base w A n c xs) {p : Addr} (hp : ∀ g, A = some g → g.block ≠ p.block) (u : Value) : OW f sz e base (w.setCell p u) A n c xs :=
  h.keep fun g hg => Below.heap_setCell _ _ _ _ (hp g hg)
theorem OW.drop0 (h : OW f sz e base w A n c xs) {base' : Nat} (hb : base' ≤ base) : OW f sz e base' w A n c xs := by
  refine ⟨⟨h.1.1, ?_⟩, h.2⟩
  rcases h.1.2 with hn | ⟨g, cap, cur, h3, hb', rest⟩
  · exact .inl hn
  · exact .inr ⟨g, cap, cur, h3, by omega, rest⟩
theorem OW.at_ (h : OW f sz e base w A n c xs) (hf : ∀ x, (f x).length = sz) : ∀ g, A = some g → ∃ b, g = ⟨b, 0, none⟩ ∧ b < w.heap.size ∧ base ≤ b ∧ (∀ j, w.frozen? ⟨b, j, none⟩ = false) ∧
    ∀ i x, xs[i]? = some x → ∀ j v, (f x)[j]? = some v → w.cell? ⟨b, 0 + i * sz + j, none⟩ = some v := by
  intro g hA
  subst hA
  rcases h.1.2 with ⟨h3, _⟩ | ⟨b, cap, cur, h3, hb, hg, hn, hc, hs, ht⟩
  · cases h3
  · injection h3 with h3 h4 h5
    injection h3 with h3
    subst h3
    refine ⟨b, rfl, (Array.getElem?_eq_some_iff.1 hg).1, hb, fun j => by simp [World.frozen?, hg], fun i x hx j v hv => ?_⟩
    have hi : i < xs.length := (List.getElem?_eq_some_iff.1 hx).1
    have hj : j < sz := by rw [← hf x]; exact (List.getElem?_eq_some_iff.1 hv).1
    have e1 := flat_at hf xs i x hx j v hv
    rw [Nat.zero_add, cell_of_row w b (i * sz + j) cur e (0, 0) hg]
    rw [← ht, List.getElem?_take] at e1
    split at e1
    · simpa using e1
    · cases e1
theorem OW.sl (h : OW f sz e base w A n c xs) (hf : ∀ x, (f x).length = sz) : SL f sz w w.heap.size A n xs := by
  refine ⟨h.2, fun hn => ?_⟩
  rcases A with _ | g
  · have := h.none_.1; omega
  · obtain ⟨b, rfl, hb, _, _, hc⟩ := h.at_ hf g rfl
    exact ⟨b, 0, rfl, hb, fun i x hx j v hv => hc i x hx j v hv⟩
end
/-- append of one element onto a row of the call's own; the new element lies in a block of its own, the world's last. -/
theorem wpList_app1 {α : Type} {P : Program} {ops : Array Oper} {rest : List Oper} {o : Oper} {a : Act} {Q : Exit → Act → World → Prop} (hgd : o.guard = none) (s x : Operand) (t : TypeId)
    (ho : o.op = .call { callee := .builtin .append, args := #[s, x], argTypes := #[t, t] })
    (base : Nat) (e : TypeId) (z : Value) (sz bytes : Nat) (ht : P.underlying t = some (.slice e)) (hi : (P.info? e).map (fun i => (i.zero, i.size, i.bytes)) = some (some z, sz, bytes))
    (hzs : z.cells.size = sz) (hsz : 0 < sz) (f : α → List Value) (W : World) (A : Option Addr) (n c : Nat) (xs : List α) (hs : a.eval s = .slice A n c) (hown : OW f sz e base W A n c xs)
    (y : α) (cs : Array Value) (hcs : cs.toList = f y) (hcl : (f y).length = sz) (ty : TypeId) (N : Nat) (hx : a.eval x = .slice (some ⟨N, 0, none⟩) 1 1) (hN : W.heap.size = N) (h1 : ∀ u ∈ f y, u.oneCell' = true)
    (hbytes : (n + 1) * bytes ≤ 140737488355328) (hby : 1 ≤ bytes) (hbase : base ≤ W.heap.size)
    (h : ∀ g c' w', OW f sz e base w' (some ⟨g, 0, none⟩) (n + 1) c' (xs ++ [y]) → Below base W w' → (∀ k, k < W.heap.size → (∀ g, A = some g → g.block ≠ k) → w'.heap[k]? = W.heap[k]?) → W.heap.size < w'.heap.size → wpList P ops Q rest (a.put o.dst (.slice (some ⟨g, 0, none⟩) (n + 1) c')) w') :
    wpList P ops Q (o :: rest) a (W.alloc (.cells cs ty)) := by
  subst hN
  obtain ⟨i, hi', hz, hsize, hbytes'⟩ := info_parts hi
  have hlen : (f y).length = 1 * sz := by rw [hcl, Nat.one_mul]
  refine wpList_append_own _ hgd s x t ho base e i z sz bytes ht hi' hz hsize hbytes' hzs hsz _ n _ hs (hown.alloc _).1 ⟨W.heap.size, 0, none⟩ 1 1 (f y) hx hlen ?_ h1 ?_ hbytes (by simp; omega) ?_
  · intro j u hj
    have e0 : ((⟨W.heap.size, 0, none⟩ : Addr).add j) = ⟨W.heap.size, j, none⟩ := by unfold Addr.add; split <;> simp_all
    rw [e0, World.cell?_alloc_new, ← Array.getElem?_toList, hcs]
    exact hj
  · unfold maxLen
    have : n + 1 ≤ (n + 1) * bytes := Nat.le_mul_of_pos_right _ (by omega)
    omega
  · intro v' w' h2 h3 _
    have hn1 : 0 < n + 1 := by omega
    rcases h2.2 with ⟨_, h4⟩ | ⟨g, cap, cur, rfl, hr⟩
    · omega
    · have hb1 : Below base (W.alloc (.cells cs ty)) w' := ⟨h3.os, h3.tape, h3.output, h3.size, fun k hk => h3.block k (by simp; omega) (fun e => by
        rcases A with _ | g'
        · simp [Value.ownBlock] at e
        · simp [Value.ownBlock] at e
          have := (hown.lt rfl).1
          omega)⟩
      refine h g cap w' ⟨by rw [List.flatMap_append, List.flatMap_cons, List.flatMap_nil, List.append_nil]; exact ⟨h2.1, .inr ⟨g, cap, cur, rfl, hr⟩⟩, by simp [hown.2]⟩ ((((Below.refl base W).alloc hbase _)).trans hb1) (fun k hk hne => ?_) (by have := h3.size; simp at this; omega)
      rw [h3.block k (by simp; omega) (fun e => by
        rcases A with _ | g'
        · simp [Value.ownBlock] at e
        · simp [Value.ownBlock] at e
          exact hne g' rfl e.symm)]
      exact Below.heap_alloc _ _ _ hk
/-- Block g holds the cells cs, of type t, none frozen. -/
def BK (w : World) (g : Nat) (t : TypeId) (cs : Array Value) : Prop := w.heap[g]? = some (.cells cs t (0, 0))
section
variable {w w' : World} {g : Nat} {t : TypeId} {cs : Array Value}
theorem BK.lt (h : BK w g t cs) : g < w.heap.size := (Array.getElem?_eq_some_iff.1 h).1
theorem BK.cell (h : BK w g t cs) (i : Nat) : w.cell? ⟨g, i, none⟩ = cs[i]? := cell_of_row w g i cs t (0, 0) h
theorem BK.frozen (h : BK w g t cs) (i : Nat) : w.frozen? ⟨g, i, none⟩ = false := by
  unfold BK at h
  simp [World.frozen?, h]
theorem BK.new (w : World) (t : TypeId) (cs : Array Value) : BK (w.alloc (.cells cs t)) w.heap.size t cs := heap_alloc_new w _
theorem BK.drew (h : BK w g t cs) : BK w.drew g t cs := h
theorem BK.drewN (h : BK w g t cs) (n : Nat) : BK (w.drewN n) g t cs := h
theorem BK.alloc (h : BK w g t cs) (o : Obj) : BK (w.alloc o) g t cs := (Below.heap_alloc w o g h.lt).trans h
theorem BK.set_ (h : BK w g t cs) (i : Nat) (u : Value) : BK (w.setCell ⟨g, i, none⟩ u) g t (cs.setIfInBounds i u) := by
  unfold BK at h ⊢
  simp [World.setCell, Array.getElem?_modify, h]
theorem BK.far (h : BK w g t cs) {p : Addr} (hp : g ≠ p.block) (u : Value) : BK (w.setCell p u) g t cs := (Below.heap_setCell w p u g hp).trans h
theorem BK.below {B : Nat} (h : BK w g t cs) (hb : Below B w w') (hg : g < B) : BK w' g t cs := (hb.block g hg).trans h
theorem BK.same (h : BK w g t cs) (hb : w'.heap[g]? = w.heap[g]?) : BK w' g t cs := hb.trans h
end
end Go.Proofs.YtafclpmnpamipaaGreat
