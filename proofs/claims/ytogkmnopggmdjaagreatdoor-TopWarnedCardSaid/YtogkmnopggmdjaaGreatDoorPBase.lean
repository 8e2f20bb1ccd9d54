/- The words for memory that all proofs of this seat use: a slice that reads as a list of structs, kept over what a call makes. Plain theorems over any program; no program in sight. -/
import Derived.WalkKit
import Derived.WalkSpells
import Derived.Deep.Draws
import Derived.Lib.Hide
import Derived.Maps.AppendAt
import Derived.Test.YtogkmnopggmdjaaGreatDoorProg
import Derived.WalkLawsBesides
import Derived.Deep.QuietTactic
import Derived.BigQuiet
import Derived.BigGuardPart
import Derived.Deep.RegionHeld3
namespace Go.Proofs.YtogkmnopggmdjaaGreatDoor
open Go.RowKit

/-- The slice value with address A and length n (elements of sz cells) reads as xs, and lies below block B. -/
def SL {α : Type} (f : α → List Value) (sz : Nat) (w : World) (B : Nat) (A : Option Addr) (n : Nat) (xs : List α) : Prop :=
  n = xs.length ∧ (0 < n → ∃ b off, A = some ⟨b, off, none⟩ ∧ b < B ∧ ∀ i x, xs[i]? = some x → ∀ j v, (f x)[j]? = some v → w.cell? ⟨b, off + i * sz + j, none⟩ = some v)
section
variable {α : Type} {f : α → List Value} {sz : Nat} {w w' : World} {B B' n : Nat} {A : Option Addr} {xs : List α}
theorem SL.len (h : SL f sz w B A n xs) : n = xs.length := h.1
theorem SL.nil_ : SL f sz w B A 0 [] := ⟨rfl, fun h => absurd h (by omega)⟩
theorem SL.keep (h : SL f sz w B A n xs) (hk : ∀ p : Addr, p.block < B → w'.cell? p = w.cell? p) : SL f sz w' B A n xs :=
  ⟨h.1, fun hn => by
    obtain ⟨b, off, e, hb, hc⟩ := h.2 hn
    exact ⟨b, off, e, hb, fun i x hx j v hv => (hk _ hb).trans (hc i x hx j v hv)⟩⟩
theorem SL.more (h : SL f sz w B A n xs) (hB : B ≤ B') : SL f sz w B' A n xs :=
  ⟨h.1, fun hn => by
    obtain ⟨b, off, e, hb, hc⟩ := h.2 hn
    exact ⟨b, off, e, by omega, hc⟩⟩
theorem SL.below (h : SL f sz w B A n xs) (hb : Below B w w') : SL f sz w' B A n xs := h.keep fun _ hp => hb.cell hp
theorem SL.grow (h : SL f sz w B A n xs) (hb : Below B w w') (hB : B ≤ B') : SL f sz w' B' A n xs := (h.below hb).more hB
/-- The cells of the element at k. -/
theorem SL.at_ (h : SL f sz w B A n xs) {k : Nat} (hk : k < xs.length) : ∃ b off, A = some ⟨b, off, none⟩ ∧ b < B ∧ ∀ j v, (f xs[k])[j]? = some v → w.cell? ⟨b, off + k * sz + j, none⟩ = some v := by
  obtain ⟨b, off, e, hb, hc⟩ := h.2 (by have := h.1; omega)
  exact ⟨b, off, e, hb, fun j v hv => hc k _ (List.getElem?_eq_getElem hk) j v hv⟩
end
/-- An old cell reads as it did. -/
theorem bc {B : Nat} {w w' : World} (h : Below B w w') {b o : Nat} (hb : b < B) : w'.cell? ⟨b, o, none⟩ = w.cell? ⟨b, o, none⟩ := h.cell (p := ⟨b, o, none⟩) hb
/-- What a contract of a call leaves (old memory as it was), joined to what was known before it. -/
theorem onto {B : Nat} {a b c : World} (h : Below B a b) (k : Below b.heap.size b c) (hB : B ≤ b.heap.size) : Below B a c := h.trans (k.mono hB)
/-- The slice value with address A, length n, capacity c is the call's own (a row from block base on, of elements of type e), and holds xs. -/
def OW {α : Type} (f : α → List Value) (sz : Nat) (e : TypeId) (base : Nat) (w : World) (A : Option Addr) (n c : Nat) (xs : List α) : Prop :=
  w.ownsRow base e sz (.slice A n c) n (xs.flatMap f) ∧ n = xs.length
section
variable {α : Type} {f : α → List Value} {sz : Nat} {e : TypeId} {base : Nat} {w w' : World} {A : Option Addr} {n c : Nat} {xs : List α}
theorem flat_at (hf : ∀ x, (f x).length = sz) : ∀ (xs : List α) (i : Nat) (x : α), xs[i]? = some x → ∀ j v, (f x)[j]? = some v → (xs.flatMap f)[i * sz + j]? = some v
  | [], i, x, hx, _, _, _ => by simp at hx
  | y :: ys, 0, x, hx, j, v, hv => by
    simp at hx; subst hx
    rw [List.flatMap_cons, Nat.zero_mul, Nat.zero_add, List.getElem?_append_left (List.getElem?_eq_some_iff.1 hv).1]; exact hv
  | y :: ys, i + 1, x, hx, j, v, hv => by
    have e2 : (i + 1) * sz + j = sz + (i * sz + j) := by rw [Nat.succ_mul]; omega
    rw [List.flatMap_cons, e2, List.getElem?_append_right (by rw [hf]; omega), hf, Nat.add_sub_cancel_left]
    exact flat_at hf ys i x (by simpa using hx) j v hv
theorem OW.nil_ : OW f sz e base w none 0 0 ([] : List α) := ⟨World.ownsRow_nil _ _ _ _, rfl⟩
theorem OW.len (h : OW f sz e base w A n c xs) : n = xs.length := h.2
theorem OW.lt (h : OW f sz e base w A n c xs) {g : Addr} (hA : A = some g) : base ≤ g.block ∧ g.block < w.heap.size := by
  subst hA
  exact h.1.lt _ rfl
theorem OW.none_ (h : OW f sz e base w none n c xs) : n = 0 ∧ c = 0 ∧ xs = [] := by
  have h2 := h.2
  rcases h.1.2 with ⟨h3, h4⟩ | ⟨g, cap, cur, h3, _⟩
  · injection h3 with _ _ h5
    exact ⟨h4, h5, List.eq_nil_of_length_eq_zero (by omega)⟩
  · cases h3
theorem OW.keep (h : OW f sz e base w A n c xs) (hk : ∀ g, A = some g → w'.heap[g.block]? = w.heap[g.block]?) : OW f sz e base w' A n c xs := by
  refine ⟨⟨h.1.1, ?_⟩, h.2⟩
  rcases h.1.2 with hn | ⟨g, cap, cur, h3, hb, hg, rest⟩
  · exact .inl hn
  · refine .inr ⟨g, cap, cur, h3, hb, ?_, rest⟩
    injection h3 with h3
    exact (hk ⟨g, 0, none⟩ h3).trans hg
theorem OW.alloc (h : OW f sz e base w A n c xs) (o : Obj) : OW f sz e base (w.alloc o) A n c xs := h.keep fun _ hg => Below.heap_alloc _ _ _ (h.lt hg).2
theorem OW.drew (h : OW f sz e base w A n c xs) : OW f sz e base w.drew A n c xs := h.keep fun _ _ => rfl
theorem OW.drewN (h : OW f sz e base w A n c xs) (k : Nat) : OW f sz e base (w.drewN k) A n c xs := h.keep fun _ _ => rfl
/-- Kept over a call that leaves old memory as it was. -/
theorem OW.call (h : OW f sz e base w A n c xs) (hb : Below w.heap.size w w') : OW f sz e base w' A n c xs := h.keep fun _ hg => hb.block _ (h.lt hg).2
theorem OW.setCell (h : OW f sz e base w A n c xs) {p : Addr} (hp : ∀ g, A = some g → g.block ≠ p.block) (u : Value) : OW f sz e base (w.setCell p u) A n c xs :=
  h.keep fun g hg => Below.heap_setCell _ _ _ _ (hp g hg)
theorem OW.drop0 (h : OW f sz e base w A n c xs) {base' : Nat} (hb : base' ≤ base) : OW f sz e base' w A n c xs := by
  refine ⟨⟨h.1.1, ?_⟩, h.2⟩
  rcases h.1.2 with hn | ⟨g, cap, cur, h3, hb', rest⟩
  · exact .inl hn
  · exact .inr ⟨g, cap, cur, h3, by omega, rest⟩
theorem OW.at_ (h : OW f sz e base w A n c xs) (hf : ∀ x, (f x).length = sz) : ∀ g, A = some g → ∃ b, g = ⟨b, 0, none⟩ ∧ b < w.heap.size ∧ base ≤ b ∧ (∀ j, w.frozen? ⟨b, j, none⟩ = false) ∧
    ∀ i x, xs[i]? = some x → ∀ j v, (f x)[j]? = some v → w.cell? ⟨b, 0 + i * sz + j, none⟩ = some v := by
  intro g hA
  subst hA
  rcases h.1.2 with ⟨h3, _⟩ | ⟨b, cap, cur, h3, hb, hg, hn, hc, hs, ht⟩
  · cases h3
  · injection h3 with h3 h4 h5
    injection h3 with h3
    subst h3
    refine ⟨b, rfl, (Array.getElem?_eq_some_iff.1 hg).1, hb, fun j => by simp [World.frozen?, hg], fun i x hx j v hv => ?_⟩
    have hi : i < xs.length := (List.getElem?_eq_some_iff.1 hx).1
    have hj : j < sz := by rw [← hf x]; exact (List.getElem?_eq_some_iff.1 hv).1
    have e1 := flat_at hf xs i x hx j v hv
    rw [Nat.zero_add, cell_of_row w b (i * sz + j) cur e (0, 0) hg]
    rw [← ht, List.getElem?_take] at e1
    split at e1
    · simpa using e1
    · cases e1
theorem OW.sl (h : OW f sz e base w A n c xs) (hf : ∀ x, (f x).length = sz) : SL f sz w w.heap.size A n xs := by
  refine ⟨h.2, fun hn => ?_⟩
  rcases A with _ | g
  · have := h.none_.1; omega
  · obtain ⟨b, rfl, hb, _, _, hc⟩ := h.at_ hf g rfl
    exact ⟨b, 0, rfl, hb, fun i x hx j v hv => hc i x hx j v hv⟩
end
/-- append of one element onto a row of the call's own; the new element lies in a block of its own, the world's last. -/
theorem wpList_app1 {α : Type} {P : Program} {ops : Array Oper} {rest : List Oper} {o : Oper} {a : Act} {Q : Exit → Act → World → Prop} (hgd : o.guard = none) (s x : Operand) (t : TypeId)
    (ho : o.op = .call { callee := .builtin .append, args := #[s, x], argTypes := #[t, t] })
    (base : Nat) (e : TypeId) (z : Value) (sz bytes : Nat) (ht : P.underlying t = some (.slice e)) (hi : (P.info? e).map (fun i => (i.zero, i.size, i.bytes)) = some (some z, sz, bytes))
    (hzs : z.cells.size = sz) (hsz : 0 < sz) (f : α → List Value) (W : World) (A : Option Addr) (n c : Nat) (xs : List α) (hs : a.eval s = .slice A n c) (hown : OW f sz e base W A n c xs)
    (y : α) (cs : Array Value) (hcs : cs.toList = f y) (hcl : (f y).length = sz) (ty : TypeId) (N : Nat) (hx : a.eval x = .slice (some ⟨N, 0, none⟩) 1 1) (hN : W.heap.size = N) (h1 : ∀ u ∈ f y, u.oneCell' = true)
    (hbytes : (n + 1) * bytes ≤ 140737488355328) (hby : 1 ≤ bytes) (hbase : base ≤ W.heap.size)
    (h : ∀ g c' w', OW f sz e base w' (some ⟨g, 0, none⟩) (n + 1) c' (xs ++ [y]) → Below base W w' → (∀ k, k < W.heap.size → (∀ g, A = some g → g.block ≠ k) → w'.heap[k]? = W.heap[k]?) → W.heap.size < w'.heap.size → wpList P ops Q rest (a.put o.dst (.slice (some ⟨g, 0, none⟩) (n + 1) c')) w') :
    wpList P ops Q (o :: rest) a (W.alloc (.cells cs ty)) := by
  subst hN
  obtain ⟨i, hi', hz, hsize, hbytes'⟩ := info_parts hi
  have hlen : (f y).length = 1 * sz := by rw [hcl, Nat.one_mul]
  refine wpList_append_own _ hgd s x t ho base e i z sz bytes ht hi' hz hsize hbytes' hzs hsz _ n _ hs (hown.alloc _).1 ⟨W.heap.size, 0, none⟩ 1 1 (f y) hx hlen ?_ h1 ?_ hbytes (by simp; omega) ?_
  · intro j u hj
    have e0 : ((⟨W.heap.size, 0, none⟩ : Addr).add j) = ⟨W.heap.size, j, none⟩ := by unfold Addr.add; split <;> simp_all
    rw [e0, World.cell?_alloc_new, ← Array.getElem?_toList, hcs]
    exact hj
  · unfold maxLen
    have : n + 1 ≤ (n + 1) * bytes := Nat.le_mul_of_pos_right _ (by omega)
    omega
  · intro v' w' h2 h3 _
    have hn1 : 0 < n + 1 := by omega
    rcases h2.2 with ⟨_, h4⟩ | ⟨g, cap, cur, rfl, hr⟩
    · omega
    · have hb1 : Below base (W.alloc (.cells cs ty)) w' := ⟨h3.os, h3.tape, h3.output, h3.size, fun k hk => h3.block k (by simp; omega) (fun e => by
        rcases A with _ | g'
        · simp [Value.ownBlock] at e
        · simp [Value.ownBlock] at e
          have := (hown.lt rfl).1
          omega)⟩
      refine h g cap w' ⟨by rw [List.flatMap_append, List.flatMap_cons, List.flatMap_nil, List.append_nil]; exact ⟨h2.1, .inr ⟨g, cap, cur, rfl, hr⟩⟩, by simp [hown.2]⟩ ((((Below.refl base W).alloc hbase _)).trans hb1) (fun k hk hne => ?_) (by have := h3.size; simp at this; omega)
      rw [h3.block k (by simp; omega) (fun e => by
        rcases A with _ | g'
        · simp [Value.ownBlock] at e
        · simp [Value.ownBlock] at e
          exact hne g' rfl e.symm)]
      exact Below.heap_alloc _ _ _ hk
/-- Block g holds the cells cs, of type t, none frozen. -/
def BK (w : World) (g : Nat) (t : TypeId) (cs : Array Value) : Prop := w.heap[g]? = some (.cells cs t (0, 0))
section
variable {w w' : World} {g : Nat} {t : TypeId} {cs : Array Value}
theorem BK.lt (h : BK w g t cs) : g < w.heap.size := (Array.getElem?_eq_some_iff.1 h).1
theorem BK.cell (h : BK w g t cs) (i : Nat) : w.cell? ⟨g, i, none⟩ = cs[i]? := cell_of_row w g i cs t (0, 0) h
theorem BK.frozen (h : BK w g t cs) (i : Nat) : w.frozen? ⟨g, i, none⟩ = false := by
  unfold BK at h
  simp [World.frozen?, h]
theorem BK.new (w : World) (t : TypeId) (cs : Array Value) : BK (w.alloc (.cells cs t)) w.heap.size t cs := heap_alloc_new w _
theorem BK.drew (h : BK w g t cs) : BK w.drew g t cs := h
theorem BK.drewN (h : BK w g t cs) (n : Nat) : BK (w.drewN n) g t cs := h
theorem BK.alloc (h : BK w g t cs) (o : Obj) : BK (w.alloc o) g t cs := (Below.heap_alloc w o g h.lt).trans h
theorem BK.set_ (h : BK w g t cs) (i : Nat) (u : Value) : BK (w.setCell ⟨g, i, none⟩ u) g t (cs.setIfInBounds i u) := by
  unfold BK at h ⊢
  simp [World.setCell, Array.getElem?_modify, h]
theorem BK.far (h : BK w g t cs) {p : Addr} (hp : g ≠ p.block) (u : Value) : BK (w.setCell p u) g t cs := (Below.heap_setCell w p u g hp).trans h
theorem BK.below {B : Nat} (h : BK w g t cs) (hb : Below B w w') (hg : g < B) : BK w' g t cs := (hb.block g hg).trans h
theorem BK.same (h : BK w g t cs) (hb : w'.heap[g]? = w.heap[g]?) : BK w' g t cs := hb.trans h
end
end Go.Proofs.YtogkmnopggmdjaaGreatDoor

/- Roads as plain data: pieces, crests, junctions; how each is laid out in cells; which are as defined. Plain definitions; no program in sight. -/
namespace Go.Proofs.YtogkmnopggmdjaaGreatDoor
open Go.RowKit

structure Piece where
  len : Int
  turn : Int
  rad : Int
  wid : Int
  sur : Int
structure Crest where
  pos : Int
  siz : Int
structure Junc where
  pos : Int
  arms : Int
  way : Int
structure Road where
  ps : List Piece
  cs : List Crest
  js : List Junc
def pC (p : Piece) : List Value := [.int .i64 p.len, .int .i64 p.turn, .int .i64 p.rad, .int .i64 p.wid, .int .i64 p.sur]
def cC (c : Crest) : List Value := [.int .i64 c.pos, .int .i64 c.siz]
def jC (j : Junc) : List Value := [.int .i64 j.pos, .int .i64 j.arms, .int .i64 j.way]
theorem PS.at_ {w : World} {B n : Nat} {A : Option Addr} {xs : List Piece} (h : SL pC 5 w B A n xs) {k : Nat} (hk : k < xs.length) : ∃ b off, A = some ⟨b, off, none⟩ ∧ b < B ∧
    w.cell? ⟨b, off + k * 5, none⟩ = some (.int .i64 xs[k].len) ∧ w.cell? ⟨b, off + k * 5 + 1, none⟩ = some (.int .i64 xs[k].turn) ∧ w.cell? ⟨b, off + k * 5 + 2, none⟩ = some (.int .i64 xs[k].rad) ∧
    w.cell? ⟨b, off + k * 5 + 3, none⟩ = some (.int .i64 xs[k].wid) ∧ w.cell? ⟨b, off + k * 5 + 4, none⟩ = some (.int .i64 xs[k].sur) := by
  obtain ⟨b, off, e, hb, hc⟩ := h.at_ hk
  exact ⟨b, off, e, hb, hc 0 _ rfl, hc 1 _ rfl, hc 2 _ rfl, hc 3 _ rfl, hc 4 _ rfl⟩
theorem CS.at_ {w : World} {B n : Nat} {A : Option Addr} {xs : List Crest} (h : SL cC 2 w B A n xs) {k : Nat} (hk : k < xs.length) : ∃ b off, A = some ⟨b, off, none⟩ ∧ b < B ∧
    w.cell? ⟨b, off + k * 2, none⟩ = some (.int .i64 xs[k].pos) ∧ w.cell? ⟨b, off + k * 2 + 1, none⟩ = some (.int .i64 xs[k].siz) := by
  obtain ⟨b, off, e, hb, hc⟩ := h.at_ hk
  exact ⟨b, off, e, hb, hc 0 _ rfl, hc 1 _ rfl⟩
theorem JS.at_ {w : World} {B n : Nat} {A : Option Addr} {xs : List Junc} (h : SL jC 3 w B A n xs) {k : Nat} (hk : k < xs.length) : ∃ b off, A = some ⟨b, off, none⟩ ∧ b < B ∧
    w.cell? ⟨b, off + k * 3, none⟩ = some (.int .i64 xs[k].pos) ∧ w.cell? ⟨b, off + k * 3 + 1, none⟩ = some (.int .i64 xs[k].arms) ∧ w.cell? ⟨b, off + k * 3 + 2, none⟩ = some (.int .i64 xs[k].way) := by
  obtain ⟨b, off, e, hb, hc⟩ := h.at_ hk
  exact ⟨b, off, e, hb, hc 0 _ rfl, hc 1 _ rfl, hc 2 _ rfl⟩
abbrev PS := SL pC 5
abbrev CS := SL cC 2
abbrev JS := SL jC 3
/-- Three slices that read as the road R, below block B. -/
structure RD (w : World) (B : Nat) (pa : Option Addr) (pn : Nat) (ca : Option Addr) (cn : Nat) (ja : Option Addr) (jn : Nat) (R : Road) : Prop where
  p : PS w B pa pn R.ps
  c : CS w B ca cn R.cs
  j : JS w B ja jn R.js
def inR (x lo hi : Int) : Bool := decide (lo ≤ x) && decide (x ≤ hi)
/-- A piece that is as defined. -/
def pOk (p : Piece) : Bool :=
  inR p.len 1 5000 && (inR p.turn (-1) 1 && (inR p.wid 15 300 && (inR p.sur 1 9 && (if p.turn = 0 then decide (p.rad = 0) else inR p.rad 5 2000))))
def sumL (l : List Piece) : Int := (l.map Piece.len).sum
/-- Division with rounding, halves away from 0. -/
def rnd (a b : Int) : Int := if a < 0 then -((2 * (-a) + b) / (2 * b)) else (2*a+b)/(2*b)
/-- The turning of m meters of a piece. -/
def trn (p : Piece) (m : Int) : Int := if p.turn = 0 then 0 else p.turn * rnd (1000*m) p.rad
/-- Turn and radius as far as the turning wants them. -/
def tOk (p : Piece) : Prop := -1 ≤ p.turn ∧ p.turn ≤ 1 ∧ (p.turn ≠ 0 → 5 ≤ p.rad ∧ p.rad ≤ 2000)
theorem rnd_bd (a b : Int) (h0 : -100000000 ≤ a) (h1 : a ≤ 100000000) (h2 : 1 ≤ b) (h3 : b ≤ 100000000) : -200000000 ≤ rnd a b ∧ rnd a b ≤ 200000000 := by
  have key : ∀ c : Int, 0 ≤ c → c ≤ 100000000 → 0 ≤ (2 * c + b) / (2 * b) ∧ (2 * c + b) / (2 * b) ≤ 200000000 := fun c hc0 hc1 =>
    ⟨Int.ediv_nonneg (by omega) (by omega), Int.ediv_le_of_le_mul (by omega) (by omega)⟩
  unfold rnd
  split
  · have := key (-a) (by omega) (by omega); omega
  · have := key a (by omega) (by omega); omega
theorem trn_bd (p : Piece) (m : Int) (h0 : -10000 ≤ m) (h1 : m ≤ 10000) (ht : tOk p) : -200000000 ≤ trn p m ∧ trn p m ≤ 200000000 := by
  unfold trn
  split
  · omega
  · rename_i hn
    obtain ⟨a, b, c⟩ := ht
    obtain ⟨d, e⟩ := c hn
    have hq := rnd_bd (1000*m) p.rad (by omega) (by omega) (by omega) (by omega)
    rcases (show p.turn = 1 ∨ p.turn = -1 from by omega) with h | h <;> rw [h] <;> omega
theorem below_drewN {B : Nat} {a w : World} (h : Below B a w) (n : Nat) : Below B a (w.drewN n) := ⟨h.os, h.tape, h.output, h.size, h.block⟩
theorem pOk_tOk {p : Piece} (h : pOk p = true) : tOk p := by
  simp only [pOk, inR, Bool.and_eq_true, decide_eq_true_eq] at h
  obtain ⟨_, ⟨h1, h2⟩, _, _, h3⟩ := h
  refine ⟨h1, h2, fun hn => ?_⟩
  rw [if_neg hn] at h3
  simpa using h3
/-- The crest at i is as defined (and behind the one before it). -/
def cAt (n : Int) (cs : List Crest) (i : Nat) : Prop := ∀ c, cs[i]? = some c → inR c.pos 0 n = true ∧ inR c.siz 1 3 = true ∧ ∀ d, 0 < i → cs[i-1]? = some d → d.pos < c.pos
/-- The junction at i is as defined. -/
def jAt (n : Int) (js : List Junc) (i : Nat) : Prop := ∀ c, js[i]? = some c → inR c.pos 0 n = true ∧ inR c.arms 2 6 = true ∧ inR c.way 1 c.arms = true ∧ ∀ d, 0 < i → js[i-1]? = some d → d.pos < c.pos
def cAtB (n : Int) (cs : List Crest) (i : Nat) : Bool := (cs[i]?).all fun c => inR c.pos 0 n && (inR c.siz 1 3 && (i == 0 || (cs[i-1]?).all fun d => decide (d.pos < c.pos)))
def jAtB (n : Int) (js : List Junc) (i : Nat) : Bool := (js[i]?).all fun c => inR c.pos 0 n && (inR c.arms 2 6 && (inR c.way 1 c.arms && (i == 0 || (js[i-1]?).all fun d => decide (d.pos < c.pos))))
theorem cAtB_iff (n : Int) (cs : List Crest) (i : Nat) : cAtB n cs i = true ↔ cAt n cs i := by
  unfold cAtB cAt
  simp only [Option.all_eq_true, Bool.and_eq_true, Bool.or_eq_true, decide_eq_true_eq, beq_iff_eq]
  constructor
  · intro h c hc
    obtain ⟨a, b, d⟩ := h c hc
    exact ⟨a, b, fun e hi he => (d.resolve_left (by omega)) e he⟩
  · intro h c hc
    obtain ⟨a, b, d⟩ := h c hc
    exact ⟨a, b, (Nat.eq_zero_or_pos i).imp id fun hi e he => d e hi he⟩
theorem jAtB_iff (n : Int) (js : List Junc) (i : Nat) : jAtB n js i = true ↔ jAt n js i := by
  unfold jAtB jAt
  simp only [Option.all_eq_true, Bool.and_eq_true, Bool.or_eq_true, decide_eq_true_eq, beq_iff_eq]
  constructor
  · intro h c hc
    obtain ⟨a, b, b', d⟩ := h c hc
    exact ⟨a, b, b', fun e hi he => (d.resolve_left (by omega)) e he⟩
  · intro h c hc
    obtain ⟨a, b, b', d⟩ := h c hc
    exact ⟨a, b, b', (Nat.eq_zero_or_pos i).imp id fun hi e he => d e hi he⟩
/-- A road that is as defined. -/
structure OK (R : Road) : Prop where
  p1 : 1 ≤ R.ps.length
  p2 : R.ps.length ≤ 2000
  c1 : R.cs.length ≤ 1000
  j1 : R.js.length ≤ 200
  pk : ∀ p ∈ R.ps, pOk p = true
  n1 : sumL R.ps ≤ 100000
  ck : ∀ i, i < R.cs.length → cAt (sumL R.ps) R.cs i
  jk : ∀ i, i < R.js.length → jAt (sumL R.ps) R.js i
def val (R : Road) : Bool := decide (1 ≤ R.ps.length) && (decide (R.ps.length ≤ 2000) && (decide (R.cs.length ≤ 1000) && (decide (R.js.length ≤ 200) && (R.ps.all pOk && (decide (sumL R.ps ≤ 100000) &&
  ((List.range R.cs.length).all (cAtB (sumL R.ps) R.cs) && (List.range R.js.length).all (jAtB (sumL R.ps) R.js)))))))
def chk (R : Road) : Int := if val R = true then 0 else 2
theorem val_iff (R : Road) : val R = true ↔ OK R := by
  unfold val
  simp only [Bool.and_eq_true, decide_eq_true_eq, List.all_eq_true, List.mem_range, cAtB_iff, jAtB_iff]
  constructor
  · rintro ⟨a, b, c, d, e, f, g, h⟩; exact ⟨a, b, c, d, e, f, g, h⟩
  · rintro ⟨a, b, c, d, e, f, g, h⟩; exact ⟨a, b, c, d, e, f, g, h⟩
theorem val_ok {R : Road} (h : OK R) : val R = true := (val_iff R).2 h
theorem val_bad {R : Road} (h : ¬ OK R) : val R = false := by rw [Bool.eq_false_iff]; exact fun q => h ((val_iff R).1 q)
theorem chk_ok {R : Road} (h : OK R) : chk R = 0 := by unfold chk; rw [if_pos (val_ok h)]
theorem chk_bad {R : Road} (h : ¬ OK R) : chk R = 2 := by unfold chk; rw [if_neg (by rw [val_bad h]; simp)]
theorem sumL_snoc (l : List Piece) (p : Piece) : sumL (l ++ [p]) = sumL l + p.len := by simp [sumL]
theorem sumL_take (l : List Piece) (k : Nat) (h : k < l.length) : sumL (l.take (k + 1)) = sumL (l.take k) + l[k].len := by
  rw [List.take_succ_eq_append_getElem h, sumL_snoc]
theorem pOk_len {p : Piece} (h : pOk p = true) : 1 ≤ p.len ∧ p.len ≤ 5000 := by
  simp only [pOk, inR, Bool.and_eq_true, decide_eq_true_eq] at h
  exact h.1
theorem sumL_bd (l : List Piece) (h : ∀ p ∈ l, pOk p = true) : (l.length : Int) ≤ sumL l ∧ sumL l ≤ 5000 * l.length := by
  induction l with
  | nil => simp [sumL]
  | cons p l ih =>
    have := ih (fun q hq => h q (List.mem_cons_of_mem _ hq))
    have h1 := pOk_len (h p (List.mem_cons_self ..))
    have e : sumL (p :: l) = p.len + sumL l := by simp [sumL]
    rw [e, List.length_cons]; omega
theorem sumL_take_bd (l : List Piece) (k : Nat) (h : ∀ p ∈ l.take k, pOk p = true) (hk : l.length ≤ 2000) : 0 ≤ sumL (l.take k) ∧ sumL (l.take k) ≤ 10000000 := by
  have := sumL_bd _ h
  have h2 : (l.take k).length ≤ l.length := List.length_take_le' ..
  omega
def iC (n : Int) : List Value := [.int .i64 n]
theorem iC_len (n : Int) : (iC n).length = 1 := rfl
abbrev IS := SL iC 1
theorem IS.at_ {w : World} {B n : Nat} {A : Option Addr} {xs : List Int} (h : SL iC 1 w B A n xs) {k : Nat} (hk : k < xs.length) : ∃ b off, A = some ⟨b, off, none⟩ ∧ b < B ∧
    w.cell? ⟨b, off + k, none⟩ = some (.int .i64 xs[k]) := by
  obtain ⟨b, off, e, hb, hc⟩ := h.at_ hk
  have := hc 0 _ rfl
  rw [Nat.mul_one, Nat.add_zero] at this
  exact ⟨b, off, e, hb, this⟩
/-- The beginnings of the first k pieces. -/
def bgk (ps : List Piece) (k : Nat) : List Int := (List.range k).map fun i => sumL (ps.take i)
theorem bgk_succ (ps : List Piece) (k : Nat) : bgk ps (k + 1) = bgk ps k ++ [sumL (ps.take k)] := by simp [bgk, List.range_succ]
theorem bgk_len (ps : List Piece) (k : Nat) : (bgk ps k).length = k := by simp [bgk]
theorem bgk_at (ps : List Piece) (k i : Nat) (h : i < (bgk ps k).length) : (bgk ps k)[i] = sumL (ps.take i) := by simp [bgk]
/-- A road with its beginnings, behind the pointer to block g. -/
structure MS (w : World) (B g : Nat) (pa : Option Addr) (pn pc : Nat) (ca : Option Addr) (cn cc : Nat) (ja : Option Addr) (jn jc : Nat) (ba : Option Addr) (bc : Nat) (R : Road) : Prop where
  lt : g < B
  c0 : w.cell? ⟨g, 0, none⟩ = some (.slice pa pn pc)
  c1 : w.cell? ⟨g, 1, none⟩ = some (.slice ca cn cc)
  c2 : w.cell? ⟨g, 2, none⟩ = some (.slice ja jn jc)
  c3 : w.cell? ⟨g, 3, none⟩ = some (.slice ba (pn + 1) bc)
  r : RD w B pa pn ca cn ja jn R
  b : IS w B ba (pn + 1) (bgk R.ps (pn + 1))
theorem RD.grow {w w' : World} {B B' : Nat} {pa : Option Addr} {pn : Nat} {ca : Option Addr} {cn : Nat} {ja : Option Addr} {jn : Nat} {R : Road} (h : RD w B pa pn ca cn ja jn R) (hb : Below B w w') (hB : B ≤ B') :
    RD w' B' pa pn ca cn ja jn R := ⟨h.p.grow hb hB, h.c.grow hb hB, h.j.grow hb hB⟩
theorem MS.grow {w w' : World} {B B' g : Nat} {pa : Option Addr} {pn pc : Nat} {ca : Option Addr} {cn cc : Nat} {ja : Option Addr} {jn jc : Nat} {ba : Option Addr} {bc : Nat} {R : Road}
    (h : MS w B g pa pn pc ca cn cc ja jn jc ba bc R) (hb : Below B w w') (hB : B ≤ B') : MS w' B' g pa pn pc ca cn cc ja jn jc ba bc R :=
  ⟨by have := h.lt; omega, (Go.Proofs.YtogkmnopggmdjaaGreatDoor.bc hb h.lt).trans h.c0, (Go.Proofs.YtogkmnopggmdjaaGreatDoor.bc hb h.lt).trans h.c1, (Go.Proofs.YtogkmnopggmdjaaGreatDoor.bc hb h.lt).trans h.c2, (Go.Proofs.YtogkmnopggmdjaaGreatDoor.bc hb h.lt).trans h.c3, h.r.grow hb hB, h.b.grow hb hB⟩
theorem RD.drewN {w : World} {B : Nat} {pa : Option Addr} {pn : Nat} {ca : Option Addr} {cn : Nat} {ja : Option Addr} {jn : Nat} {R : Road} (h : RD w B pa pn ca cn ja jn R) (n : Nat) :
    RD (w.drewN n) B pa pn ca cn ja jn R := h.grow (below_drewN (Below.refl B w) n) (Nat.le_refl _)
theorem MS.drewN {w : World} {B g : Nat} {pa : Option Addr} {pn pc : Nat} {ca : Option Addr} {cn cc : Nat} {ja : Option Addr} {jn jc : Nat} {ba : Option Addr} {bc : Nat} {R : Road}
    (h : MS w B g pa pn pc ca cn cc ja jn jc ba bc R) (n : Nat) : MS (w.drewN n) B g pa pn pc ca cn cc ja jn jc ba bc R := h.grow (below_drewN (Below.refl B w) n) (Nat.le_refl _)
end Go.Proofs.YtogkmnopggmdjaaGreatDoor

/- The leaf functions of the road package and of its reference: ranges, rounding, the turning of a piece, pieces that are as defined. -/
namespace Go.Proofs.YtogkmnopggmdjaaGreatDoor
open Go.RowKit Go.Proofs

theorem ret_bool {a b : Bool} (h : a = b) : Ending.returned (.bool a) = .returned (.bool b) := by rw [h]
theorem ret_int {a b : Int} (h : a = b) : Ending.returned (.int .i64 a) = .returned (.int .i64 b) := by rw [h]
theorem within_any (x lo hi : Int) (w : World) :
    Calls Tryz.prog 43 #[.int .i64 x, .int .i64 lo, .int .i64 hi] w fun e w' => e = .returned (.bool (inR x lo hi)) ∧ w = w' := by
  by_cases h : lo ≤ x
  · have e : inR x lo hi = decide (x ≤ hi) := by simp [inR, h]
    rw [e]; clear e
    go_enter Tryz.func43, Tryz.ntmps43
    go_wp2
    go_ret
    exact ⟨rfl, rfl⟩
  · have e : inR x lo hi = false := by simp [inR, h]
    rw [e]; clear e
    go_enter Tryz.func43, Tryz.ntmps43
    go_wp2
    go_ret
    exact ⟨rfl, rfl⟩
theorem in_any (x lo hi : Int) (w : World) :
    Calls Tryz.prog 23 #[.int .i64 x, .int .i64 lo, .int .i64 hi] w fun e w' => e = .returned (.bool (inR x lo hi)) ∧ w = w' := by
  by_cases h : lo ≤ x
  · have e : inR x lo hi = decide (x ≤ hi) := by simp [inR, h]
    rw [e]; clear e
    go_enter Tryz.func23, Tryz.ntmps23
    go_wp2
    go_ret
    exact ⟨rfl, rfl⟩
  · have e : inR x lo hi = false := by simp [inR, h]
    rw [e]; clear e
    go_enter Tryz.func23, Tryz.ntmps23
    go_wp2
    go_ret
    exact ⟨rfl, rfl⟩
theorem rounded_pos (a b : Int) (w : World) (h0 : 0 ≤ a) (h1 : a ≤ 1000000000) (h2 : 1 ≤ b) (h3 : b ≤ 1000000000) :
    Calls Tryz.prog 72 #[.int .i64 a, .int .i64 b] w fun e w' => e = .returned (.int .i64 ((2*a+b)/(2*b))) ∧ w = w' := by
  go_enter Tryz.func72, Tryz.ntmps72
  go_wp2
  go_ret
  exact ⟨rfl, rfl⟩
theorem rounded_any (a b : Int) (w : World) (h0 : -1000000000 ≤ a) (h1 : a ≤ 1000000000) (h2 : 1 ≤ b) (h3 : b ≤ 1000000000) :
    Calls Tryz.prog 72 #[.int .i64 a, .int .i64 b] w fun e w' => e = .returned (.int .i64 (rnd a b)) ∧ w = w' := by
  by_cases h : a < 0
  · have e : rnd a b = -((2 * (-a) + b) / (2 * b)) := by simp [rnd, h]
    have q0 : 0 ≤ (2 * (-a) + b) / (2 * b) := Int.ediv_nonneg (by omega) (by omega)
    have q1 : (2 * (-a) + b) / (2 * b) ≤ 3000000000 := Int.ediv_le_of_le_mul (by omega) (by omega)
    rw [e]; clear e
    go_enter Tryz.func72, Tryz.ntmps72
    go_wp2_with (go_at_call 72; refine (rounded_pos _ _ _ (by omega) (by omega) (by omega) (by omega)).mono ?_; rintro e w' ⟨rfl, rfl⟩)
    go_ret
    exact ⟨rfl, rfl⟩
  · have e : rnd a b = ((2 * a + b) / (2 * b)) := by simp [rnd, h]
    rw [e]
    exact rounded_pos a b w (by omega) h1 h2 h3
set_option maxHeartbeats 400000 in
theorem turned_any (p : Piece) (m : Int) (w : World) (h0 : -10000 ≤ m) (h1 : m ≤ 10000) (ht : tOk p) :
    Calls Tryz.prog 48 #[.agg #[.int .i64 p.len, .int .i64 p.turn, .int .i64 p.rad, .int .i64 p.wid, .int .i64 p.sur], .int .i64 m] w fun e w' => e = .returned (.int .i64 (trn p m)) ∧ Below w.heap.size w w' := by
  obtain ⟨ht0, ht1, hr⟩ := ht
  have hbd := trn_bd p m h0 h1 ⟨ht0, ht1, hr⟩
  by_cases h : p.turn = 0
  · have e : trn p m = 0 := by simp [trn, h]
    rw [e]; clear e hr hbd
    go_enter Tryz.func48, Tryz.ntmps48
    go_wp2
    go_ret
    exact ⟨rfl, (Below.refl _ _).alloc (Nat.le_refl _) _⟩
  · obtain ⟨hr1, hr2⟩ := hr h
    have hne : (p.turn == 0) = false := by simpa using h
    have hq := rnd_bd (1000*m) p.rad (by omega) (by omega) (by omega) (by omega)
    have hq1 := hq.1
    have hq2 := hq.2
    have hb : trn p m = p.turn * rnd (1000*m) p.rad := by simp [trn, h]
    rw [hb] at hbd ⊢
    have hm1 := hbd.1
    have hm2 := hbd.2
    clear hq h hb hbd hr
    go_enter Tryz.func48, Tryz.ntmps48
    go_wp2
    go_quiet ((go_at_call 72; exact Calls.quiet_of_same ((rounded_any _ _ _ (by omega) (by omega) (by omega) (by omega)).mono fun _ _ ⟨a, b⟩ => ⟨a, b.symm⟩)))
    go_wp2
    go_ret
    exact ⟨rfl, below_drewN ((Below.refl _ _).alloc (Nat.le_refl _) _) _⟩
set_option maxHeartbeats 400000 in
theorem piece_any (p : Piece) (w : World) :
    Calls Tryz.prog 65 #[.agg #[.int .i64 p.len, .int .i64 p.turn, .int .i64 p.rad, .int .i64 p.wid, .int .i64 p.sur]] w fun e w' => e = .returned (.bool (pOk p)) ∧ Below w.heap.size w w' := by
  go_enter Tryz.func65, Tryz.ntmps65
  go_wp2_with (go_at_call 43; refine (within_any _ _ _ _).mono ?_; rintro e w' ⟨rfl, rfl⟩)
  all_goals (go_ret; exact ⟨ret_bool (by simp_all [pOk]), (Below.refl _ _).alloc (Nat.le_refl _) _⟩)
set_option maxHeartbeats 400000 in
theorem Piece_any (p : Piece) (w : World) :
    Calls Tryz.prog 24 #[.agg #[.int .i64 p.len, .int .i64 p.turn, .int .i64 p.rad, .int .i64 p.wid, .int .i64 p.sur]] w fun e w' => e = .returned (.bool (pOk p)) ∧ Below w.heap.size w w' := by
  go_enter Tryz.func24, Tryz.ntmps24
  go_wp2_with (go_at_call 23; refine (in_any _ _ _ _).mono ?_; rintro e w' ⟨rfl, rfl⟩)
  all_goals (go_ret; exact ⟨ret_bool (by first | (simp_all [pOk]; done) | (simp_all [pOk]; rw [Bool.eq_iff_iff]; simp)), (Below.refl _ _).alloc (Nat.le_refl _) _⟩)
end Go.Proofs.YtogkmnopggmdjaaGreatDoor

/- measure, length: a road with the beginnings of its pieces. -/
namespace Go.Proofs.YtogkmnopggmdjaaGreatDoor
open Go.RowKit Go.Proofs

theorem infoInt : (Tryz.prog.info? 3).map (fun i => (i.zero, i.size, i.bytes)) = some (some (.int .i64 0), 1, 8) := by kernel_rfl
/-- What measure leaves. -/
def Measured (pa : Option Addr) (pn pc : Nat) (ca : Option Addr) (cn cc : Nat) (ja : Option Addr) (jn jc : Nat) (R : Road) (w : World) (e : Ending) (w' : World) : Prop :=
  ∃ g ba bc, e = .returned (.pointer (some ⟨g, 0, none⟩)) ∧ MS w' w'.heap.size g pa pn pc ca cn cc ja jn jc ba bc R ∧ w.heap.size ≤ g ∧ Below w.heap.size w w'
set_option maxHeartbeats 2000000 in
theorem measure_any (pa : Option Addr) (pn pc : Nat) (ca : Option Addr) (cn cc : Nat) (ja : Option Addr) (jn jc : Nat) (R : Road) (w : World)
    (h : RD w w.heap.size pa pn ca cn ja jn R) (hk : ∀ p ∈ R.ps, pOk p = true) (hl : pn ≤ 100000) :
    Calls Tryz.prog 44 #[.agg #[.slice pa pn pc, .slice ca cn cc, .slice ja jn jc]] w (Measured pa pn pc ca cn cc ja jn jc R w) := by
  obtain ⟨hP, hC, hJ⟩ := h
  have hlp := Lib.hid hP.1
  have hk' := Lib.hid hk
  clear hk
  go_enter Tryz.func44, Tryz.ntmps44
  go_wp2_with fail
  go_loopw [4, 13] (fun s i wr => ∃ (k : Nat) (A : Option Addr) (c : Nat), k ≤ pn ∧ i = .int .i64 k ∧ s = .int .i64 (sumL (R.ps.take k)) ∧ BK wr (w.heap.size + 1) 148 #[.slice pa pn pc, .slice ca cn cc, .slice ja jn jc, .slice A k c] ∧
      OW iC 1 3 (w.heap.size + 2) wr A k c (bgk R.ps k) ∧ Below (w.heap.size + 1) (w.alloc (.cells #[.slice pa pn pc, .slice ca cn cc, .slice ja jn jc] 26)) wr)
    (fun _ i _ => pn - (intOf i).toNat)
  case atStart =>
    refine ⟨0, none, 0, Nat.zero_le _, rfl, rfl, ?_, OW.nil_, (Below.refl _ _).alloc (by simp) _⟩
    have := BK.new (w.alloc (.cells #[.slice pa pn pc, .slice ca cn cc, .slice ja jn jc] 26)) 148 #[.slice pa pn pc, .slice ca cn cc, .slice ja jn jc, .slice none 0 0]
    rw [World.size_alloc] at this
    exact this
  case round =>
    obtain ⟨k, A, c, hkn, rfl, rfl, hm, how, hb⟩ := hrel
    have hW0 : Below w.heap.size w (w.alloc (.cells #[.slice pa pn pc, .slice ca cn cc, .slice ja jn jc] 26)) := (Below.refl w.heap.size w).alloc (Nat.le_refl _) _
    have hBr : Below w.heap.size w wr := hW0.trans (hb.mono (by omega))
    have hsz := hm.lt
    have m3 : wr.cell? ⟨w.heap.size + 1, 3, none⟩ = some (.slice A k c) := hm.cell 3
    have f3 := hm.frozen 3
    have hbd0 : 0 ≤ sumL (R.ps.take k) ∧ sumL (R.ps.take k) ≤ 500000000 := by
      have h1 := sumL_bd (R.ps.take k) (fun p hp => hk'.out p (List.mem_of_mem_take hp))
      have h2 : (R.ps.take k).length ≤ k := List.length_take_le ..
      omega
    have hbd1 := hbd0.1
    have hbd2 := hbd0.2
    clear hbd0
    by_cases hlt : k < pn
    · have hkl : k < R.ps.length := by rw [← hlp.out]; exact hlt
      have hw := hP.grow hBr hBr.size
      obtain ⟨b, off, hA, hbB, c0, c1, c2, c3, c4⟩ := PS.at_ hw (k := k) hkl
      have hst := Lib.hid (sumL_take R.ps k hkl)
      have hpl := pOk_len (hk'.out _ (List.getElem_mem hkl))
      generalize R.ps[k]'hkl = p at c0 c1 c2 c3 c4 hst hpl
      have hp1 := hpl.1
      have hp2 := hpl.2
      clear hw hkl hpl
      subst hA
      go_wp2_with (at_builtin; refine wpList_app1 rfl _ _ 27 rfl (w.heap.size + 2) 3 _ 1 8 Tryz.underlying27 infoInt rfl (by decide) iC _ A k c (bgk R.ps k) rfl (how.alloc _) (sumL (R.ps.take k)) _ rfl rfl 3 _ rfl (by simp) (by simp [iC, Value.oneCell']) (by omega) (by omega) (by simp; omega) ?_; intro g c' w1 hown1 hbl hfar hlt1; have hcl : w1.cell? ⟨wr.heap.size, 0, none⟩ = some (.int .i64 p.len) := (World.cell?_of_block (hfar wr.heap.size (by simp) (fun g hg => by have := (how.lt hg).2; omega))).trans (by simp); have hm1 := hm.alloc (.cells #[.int .i64 p.len, .int .i64 p.turn, .int .i64 p.rad, .int .i64 p.wid, .int .i64 p.sur] 77) |>.same (hfar (w.heap.size + 1) (by simp; omega) (fun g hg => by have := (how.lt hg).1; omega)); have m31 := hm1.cell 3; have f31 := hm1.frozen 3; clear hfar)
      have hgl := (hown1.lt rfl).1
      have hb2 : Below (w.heap.size + 1) (w.alloc (.cells #[.slice (some ⟨b, off, none⟩) pn pc, .slice ca cn cc, .slice ja jn jc] 26)) w1 := (hb.alloc (by omega) _).trans (hbl.mono (by omega))
      go_roundw
      case rel => exact ⟨k + 1, _, _, by omega, by go_num, by rw [hst.out], hm1.set_ 3 _, by rw [bgk_succ]; exact hown1.setCell (fun g hg => by cases hg; simp; simp at hgl; omega) _, hb2.setCell (by simp) _⟩
      case measure => simp [intOf]; omega
    · obtain rfl : k = pn := by omega
      have HN := Lib.hid (show sumL (R.ps.take k) = sumL R.ps by rw [hlp.out, List.take_length])
      go_wp2_with (at_builtin; refine wpList_app1 rfl _ _ 27 rfl (w.heap.size + 2) 3 _ 1 8 Tryz.underlying27 infoInt rfl (by decide) iC _ A k c (bgk R.ps k) rfl how (sumL (R.ps.take k)) _ rfl rfl 3 _ rfl (by simp) (by simp [iC, Value.oneCell']) (by omega) (by omega) (by omega) ?_; intro g c' w1 hown1 hbl hfar hlt1; have hm1 := hm.same (hfar (w.heap.size + 1) (by omega) (fun g hg => by have := (how.lt hg).1; omega)); have m31 := hm1.cell 3; have f31 := hm1.frozen 3; clear hfar)
      have hm2 := hm1.set_ 3 (.slice (some ⟨g, 0, none⟩) (k + 1) c')
      have how2 : OW iC 1 3 (w.heap.size + 2) (w1.setCell ⟨w.heap.size + 1, 3, none⟩ (.slice (some ⟨g, 0, none⟩) (k + 1) c')) (some ⟨g, 0, none⟩) (k + 1) c' (bgk R.ps (k + 1)) := by
        have hgl := (hown1.lt rfl).1
        rw [bgk_succ]; exact hown1.setCell (fun g hg => by cases hg; simp; simp at hgl; omega) _
      have hb2 : Below w.heap.size w (w1.setCell ⟨w.heap.size + 1, 3, none⟩ (.slice (some ⟨g, 0, none⟩) (k + 1) c')) := (hBr.trans (hbl.mono (by omega))).setCell (by simp) _
      go_ret
      refine ⟨w.heap.size + 1, some ⟨g, 0, none⟩, c', rfl, ⟨hm2.lt, ?_, ?_, ?_, ?_, (RD.mk hP hC hJ).grow hb2 hb2.size, how2.sl iC_len⟩, by omega, hb2⟩
      · exact hm2.cell 0
      · exact hm2.cell 1
      · exact hm2.cell 2
      · exact hm2.cell 3
/-- (m *measured) length: the sum of all pieces. -/
theorem mlength_any (g : Nat) (pa : Option Addr) (pn pc : Nat) (ca : Option Addr) (cn cc : Nat) (ja : Option Addr) (jn jc : Nat) (ba : Option Addr) (bc : Nat) (R : Road) (w : World) (B : Nat)
    (h : MS w B g pa pn pc ca cn cc ja jn jc ba bc R) (hl : pn ≤ 100000) :
    Calls Tryz.prog 77 #[.pointer (some ⟨g, 0, none⟩)] w fun e w' => e = .returned (.int .i64 (sumL R.ps)) ∧ ∃ n, w' = w.drewN n := by
  have h0 := h.c0
  have h3 := h.c3
  have hpn := h.r.p.1
  obtain ⟨b, off, hA, hbB, hc⟩ := IS.at_ h.b (k := pn) (by rw [bgk_len]; omega)
  rw [bgk_at] at hc
  have e : sumL (R.ps.take pn) = sumL R.ps := by rw [hpn, List.take_length]
  rw [e] at hc
  have hlt : (pn : Int) < (pn : Int) + 1 := by omega
  have hge : (0 : Int) ≤ pn := by omega
  clear h e hpn
  subst hA
  go_enter Tryz.func77, Tryz.ntmps77
  go_wp2
  go_quiet (fail)
  go_wp2
  go_ret
  exact ⟨rfl, _, rfl⟩
end Go.Proofs.YtogkmnopggmdjaaGreatDoor
