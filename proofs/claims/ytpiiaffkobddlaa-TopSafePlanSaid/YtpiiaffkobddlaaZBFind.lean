/- The piece at a place: the binary search of the road package, and the reference's walk along the pieces. -/
import Derived.Test.YtpiiaffkobddlaaZBLeaf
import Derived.Test.YtpiiaffkobddlaaZBValid
import Derived.RangeFuncNested
import Derived.RangeFuncBound
import Derived.RangeFuncCalls
import Derived.RangeFuncLeaves
import Derived.Shelf.Abstract
import Derived.Shelf.RegionOpen
import Derived.OwnWalkIn
import Derived.TacticsInMore
import Derived.LoopNIn
import Derived.LoopIn
import Derived.BigRegionIn
import Derived.Test.YtpiiaffkobddlaaZBReg
import Derived.BigQuiet
import Derived.Deep.CutBlock
import Derived.Deep.AppendLies
import Derived.Deep.RegionLaw
import Derived.Maps.OwnIn
namespace Go.Proofs.Ytpiiaffkobddlaa
open Go.RowKit Go.Proofs

/-- Piece i lies at the place x. -/
def At (ps : List Piece) (x : Int) (i : Nat) : Prop := i < ps.length ∧ sumL (ps.take i) ≤ x ∧ x < sumL (ps.take (i + 1))
theorem sumL_mono {ps : List Piece} (h : ∀ p ∈ ps, pOk p = true) {i j : Nat} (hij : i ≤ j) : sumL (ps.take i) ≤ sumL (ps.take j) := by
  obtain ⟨d, rfl⟩ := Nat.exists_eq_add_of_le hij
  clear hij
  induction d with
  | zero => exact Int.le_refl _
  | succ d ih =>
    refine Int.le_trans ih ?_
    show sumL (ps.take (i + d)) ≤ sumL (ps.take (i + d + 1))
    rcases Nat.lt_or_ge (i + d) ps.length with hl | hl
    · rw [sumL_take ps _ hl]
      have := (pOk_len (h _ (List.getElem_mem hl))).1
      omega
    · rw [List.take_of_length_le hl, List.take_of_length_le (by omega)]
      exact Int.le_refl _
end Go.Proofs.Ytpiiaffkobddlaa

/- road.Find and road.Length on a road that is as defined; Find and At of the reference. -/
namespace Go.Proofs.Ytpiiaffkobddlaa
open Go.RowKit Go.Proofs

theorem OK.len {R : Road} (h : OK R) : 1 ≤ sumL R.ps ∧ sumL R.ps ≤ 100000 := by
  have := (sumL_bd R.ps h.pk).1
  have h1 := h.p1
  exact ⟨by omega, h.n1⟩
theorem Length_in (pa : Option Addr) (pn pc : Nat) (ca : Option Addr) (cn cc : Nat) (ja : Option Addr) (jn jc : Nat) (R : Road) (w : World)
    (h : RD w w.heap.size pa pn ca cn ja jn R) (hv : OK R) :
    Calls Try.prog 16 #[.agg #[.slice pa pn pc, .slice ca cn cc, .slice ja jn jc]] w fun e w' =>
      e = .returned (.tuple #[.int .i64 (sumL R.ps), .int .i64 0]) ∧ Below w.heap.size w w' := by
  have hpn : pn ≤ 2000 := by rw [h.p.1]; exact hv.p2
  have hc := Lib.hid (chk_ok hv)
  have hv' := Lib.hid hv
  have hR := Lib.hid h
  clear h hv
  have hW0 : Below w.heap.size w (w.alloc (.cells #[.slice pa pn pc, .slice ca cn cc, .slice ja jn jc] 26)) := (Below.refl w.heap.size w).alloc (Nat.le_refl _) _
  go_enter Try.func16, Try.ntmps16
  go_wp2_with fail
  refine (Check_any _ _ _ _ _ _ _ _ _ R _ (hR.out.grow hW0 hW0.size)).mono ?_
  rintro e w1 ⟨rfl, hb1'⟩
  rw [hc.out]
  have hB1 := onto hW0 hb1' hW0.size
  have d0 := (bc hb1' (b := w.heap.size) (o := 0) (by simp)).trans (show _ = some (.slice pa pn pc) by simp)
  have d1 := (bc hb1' (b := w.heap.size) (o := 1) (by simp)).trans (show _ = some (.slice ca cn cc) by simp)
  have d2 := (bc hb1' (b := w.heap.size) (o := 2) (by simp)).trans (show _ = some (.slice ja jn jc) by simp)
  go_wp2_with fail
  refine (measure_any _ _ _ _ _ _ _ _ _ R _ (hR.out.grow hB1 hB1.size) hv'.out.pk (by omega)).mono ?_
  rintro e w2 ⟨g, ba, bq, rfl, hM, hg, hb2⟩
  have hM' := Lib.hid hM
  have hB2 := onto hB1 hb2 hB1.size
  clear hM
  go_wp2_with fail
  refine (mlength_any g _ _ _ _ _ _ _ _ _ _ _ R _ _ hM'.out (by omega)).mono ?_
  rintro e w3 ⟨rfl, n, rfl⟩
  go_wp2_with fail
  go_ret2
  exact ⟨rfl, below_drewN hB2 _⟩
end Go.Proofs.Ytpiiaffkobddlaa

/- The range over a road's pieces: what the iterator of a measured road hands to a loop's body, for every body that keeps old memory. -/
namespace Go.Proofs.Ytpiiaffkobddlaa
open Go.RowKit Go.Shelf Go.Proofs

attribute [local go_sem] Oper.semAt_some

/-- The pieces with their beginnings. -/
def its : Int → List Piece → List (Int × Piece)
  | _, [] => []
  | b, p :: ps => (b, p) :: its (b + p.len) ps
/-- What a round must keep for the iterator: what lay below n0, and the box of the receiver. -/
def KB (n0 bm : Nat) (W W' : World) : Prop := Below n0 W W' ∧ W'.heap[bm]? = W.heap[bm]?
theorem KB.refl (n0 bm : Nat) (W : World) : KB n0 bm W W := ⟨Below.refl _ _, rfl⟩
theorem KB.t {n0 bm : Nat} {A B C : World} (h : KB n0 bm A B) (k : KB n0 bm B C) : KB n0 bm A C := ⟨h.1.trans k.1, k.2.trans h.2⟩
theorem KB.b {n0 bm : Nat} {w : World} (hn : n0 ≤ w.heap.size) (hm : bm < w.heap.size) (W : World) (l : Nat) (o o' : Obj) (hl : w.heap.size ≤ l) (h : W.heap[l]? = some o) (h1 : o.isCells = false) (h2 : o.isWalk = false) : KB n0 bm W (W.putObj l o') :=
  ⟨belowK_b hn W l o o' hl h h1 h2, World.putObj_heap_other (by omega)⟩
theorem KB.of_below {n0 bm B : Nat} {W W' : World} (h : Below B W W') (hn : n0 ≤ B) (hm : bm < B) : KB n0 bm W W' := ⟨h.mono hn, h.block _ hm⟩
theorem KB.setCell {n0 bm : Nat} {W W' : World} (h : KB n0 bm W W') {p : Addr} (h1 : n0 ≤ p.block) (h2 : p.block ≠ bm) (u : Value) : KB n0 bm W (W'.setCell p u) :=
  ⟨h.1.setCell h1 u, (Below.heap_setCell _ _ _ _ (Ne.symm h2)).trans h.2⟩
theorem KB.cell {n0 bm : Nat} {W W' : World} (h : KB n0 bm W W') {o : Nat} : W'.cell? ⟨bm, o, none⟩ = W.cell? ⟨bm, o, none⟩ := World.cell?_of_block h.2
end Go.Proofs.Ytpiiaffkobddlaa

/- The turning up to a place: the plain function, and the road package's loop over its iterator. -/
namespace Go.Proofs.Ytpiiaffkobddlaa
open Go.RowKit Go.Shelf Go.Sort Go.Proofs

attribute [local go_sem] Oper.semAt_some

/-- The turning up to the place x. -/
def upt : List Piece → Int → Int
  | [], _ => 0
  | p :: ps, x => if x ≤ 0 then 0 else trn p (min x p.len) + upt ps (x - p.len)
end Go.Proofs.Ytpiiaffkobddlaa

/- How far one sees: what the answer is, and the reference's walk. -/
namespace Go.Proofs.Ytpiiaffkobddlaa
open Go.RowKit Go.Shelf Go.Sort Go.Proofs

/-- The first crest behind the place (n + 1: there is none). -/
def nxt (n pl : Int) : List Crest → Int
  | [] => n + 1
  | c :: cs => if pl < c.pos then c.pos else nxt n pl cs
/-- The turning from pl to q is at most an. -/
def okq (ps : List Piece) (an pl q : Int) : Prop := -an ≤ upt ps q - upt ps pl ∧ upt ps q - upt ps pl ≤ an
/-- r meters are seen, where lim is the most that can be. -/
structure SI (ps : List Piece) (an pl lim r : Int) : Prop where
  r0 : 0 ≤ r
  r1 : r ≤ lim
  all : ∀ q, pl < q → q ≤ pl + r → okq ps an pl q
  stop : r = lim ∨ ¬ okq ps an pl (pl + r + 1)
theorem SI.uniq {ps : List Piece} {an pl lim r s : Int} (h : SI ps an pl lim r) (k : SI ps an pl lim s) : r = s := by
  rcases Int.lt_trichotomy r s with hlt | heq | hgt
  · rcases h.stop with h1 | h1
    · have := k.r1; omega
    · exact absurd (k.all (pl + r + 1) (by have := h.r0; omega) (by omega)) h1
  · exact heq
  · rcases k.stop with h1 | h1
    · have := h.r1; omega
    · exact absurd (h.all (pl + s + 1) (by have := k.r0; omega) (by omega)) h1
theorem SI.more {ps : List Piece} {an an' pl lim lim' r s : Int} (h : SI ps an pl lim r) (k : SI ps an' pl lim' s) (h1 : an ≤ an') (h2 : lim ≤ lim') : r ≤ s := by
  rcases Int.lt_or_le s r with hlt | hle
  · rcases k.stop with h3 | h3
    · have := h.r1; omega
    · have := h.all (pl + s + 1) (by have := k.r0; omega) (by omega)
      exact absurd ⟨by have := this.1; omega, by have := this.2; omega⟩ h3
  · exact hle
/-- The most that can be seen. -/
def lim (R : Road) (mo pl : Int) : Int := min (min mo (sumL R.ps - pl)) (nxt (sumL R.ps) pl R.cs - pl)
end Go.Proofs.Ytpiiaffkobddlaa

/- The search for sight, piece by piece: that what the loop gathers is the sight. Plain; no program. -/
namespace Go.Proofs.Ytpiiaffkobddlaa
open Go.RowKit Go.Proofs

section
variable (pl M an bg : Int)
end
section
variable {ps : List Piece} {pl M an : Int}
end
end Go.Proofs.Ytpiiaffkobddlaa

/- road.Sight: the search piece by piece, over the iterator. -/
namespace Go.Proofs.Ytpiiaffkobddlaa
open Go.RowKit Go.Shelf Go.Sort Go.Proofs

attribute [local go_sem] Oper.semAt_some

end Go.Proofs.Ytpiiaffkobddlaa

/- road.Sight: what is refused. -/
namespace Go.Proofs.Ytpiiaffkobddlaa
open Go.RowKit Go.Shelf Go.Sort Go.Proofs

end Go.Proofs.Ytpiiaffkobddlaa

/- Bends: their groups, plainly; the test whether two of them lie together. -/
namespace Go.Proofs.Ytpiiaffkobddlaa
open Go.RowKit Go.Shelf Go.Sort Go.Proofs

/-- A bend, with its beginning: six cells. -/
abbrev Bd := Int × Piece
/-- y belongs to the group of x. -/
def tog (gap : Int) (x y : Bd) : Bool := decide (x.2.turn = y.2.turn) && decide (y.1 - x.1 - x.2.len ≤ gap)
end Go.Proofs.Ytpiiaffkobddlaa

/- append of one element onto a row of the call's own, with the place where the new row lies: in a plain region, and at a step of a region that draws. Plain theorems over any program. -/
namespace Go.Proofs.Ytpiiaffkobddlaa
open Go.RowKit Go.Proofs

section
variable {α : Type} {P : Program} {f : α → List Value} {sz : Nat} {e : TypeId} {base : Nat} {W : World} {A : Option Addr} {n c : Nat} {xs : List α} {y : α}
/-- What an append of one element leaves. -/
structure App1 (f : α → List Value) (sz : Nat) (e : TypeId) (base : Nat) (W : World) (A : Option Addr) (n c : Nat) (xs : List α) (y : α) (g c' : Nat) (w' : World) : Prop where
  own : OW f sz e base w' (some ⟨g, 0, none⟩) (n + 1) c' (xs ++ [y])
  bel : Below base W w'
  at_ : (∃ b, A = some b ∧ b.block = g) ∨ g = W.heap.size
  far : ∀ k, k < W.heap.size → (∀ b, A = some b → b.block ≠ k) → w'.heap[k]? = W.heap[k]?
  size : W.heap.size ≤ w'.heap.size
theorem app1_of (hown : OW f sz e base W A n c xs) (hbase : base ≤ W.heap.size) {g cap : Nat} {w' : World}
    (h2 : w'.ownsRow base e sz (.slice (some ⟨g, 0, none⟩) (n + 1) cap) (n + 1) (xs.flatMap f ++ f y)) (h3 : W.grownBy w' (Value.slice A n c).ownBlock) (h4 : (Value.slice A n c).ownBlock = some g ∨ g = W.heap.size) : App1 f sz e base W A n c xs y g cap w' := by
  refine ⟨⟨by rw [List.flatMap_append, List.flatMap_cons, List.flatMap_nil, List.append_nil]; exact h2, by simp [hown.2]⟩, ⟨h3.os, h3.tape, h3.output, h3.size, fun k hk => h3.block k (by omega) (fun e => ?_)⟩, ?_, fun k hk hne => h3.block k hk (fun e => ?_), h3.size⟩
  · rcases A with _ | g'
    · simp [Value.ownBlock] at e
    · simp [Value.ownBlock] at e
      have := (hown.lt rfl).1
      omega
  · rcases h4 with h4 | h4
    · left
      rcases A with _ | g'
      · simp [Value.ownBlock] at h4
      · simp [Value.ownBlock] at h4
        exact ⟨g', rfl, h4⟩
    · exact .inr h4
  · rcases A with _ | g'
    · simp [Value.ownBlock] at e
    · simp [Value.ownBlock] at e
      exact hne g' rfl e.symm
theorem news1 {N : Nat} {ty : TypeId} {cs : Array Value} (hb : BK W N ty cs) (hcs : cs.toList = f y) : ∀ j u, (f y)[j]? = some u → W.cell? ((⟨N, 0, none⟩ : Addr).add j) = some u := by
  intro j u hj
  have e0 : ((⟨N, 0, none⟩ : Addr).add j) = ⟨N, j, none⟩ := by unfold Addr.add; split <;> simp_all
  rw [e0, hb.cell j, ← Array.getElem?_toList, hcs]
  exact hj
/-- In a plain region. -/
theorem wpList_app {ops : Array Oper} {rest : List Oper} {o : Oper} {a : Act} {Q : Exit → Act → World → Prop} (hgd : o.guard = none) (s x : Operand) (t : TypeId)
    (ho : o.op = .call { callee := .builtin .append, args := #[s, x], argTypes := #[t, t] })
    (base : Nat) (e : TypeId) (z : Value) (sz bytes : Nat) (ht : P.underlying t = some (.slice e)) (hi : (P.info? e).map (fun i => (i.zero, i.size, i.bytes)) = some (some z, sz, bytes))
    (hzs : z.cells.size = sz) (hsz : 0 < sz) (f : α → List Value) (A : Option Addr) (n c : Nat) (xs : List α) (hs : a.eval s = .slice A n c) (hown : OW f sz e base W A n c xs)
    (y : α) (cs : Array Value) (hcs : cs.toList = f y) (hcl : (f y).length = sz) (ty : TypeId) (N : Nat) (hx : a.eval x = .slice (some ⟨N, 0, none⟩) 1 1) (hN : BK W N ty cs) (h1 : ∀ u ∈ f y, u.oneCell' = true)
    (hbytes : (n + 1) * bytes ≤ 140737488355328) (hby : 1 ≤ bytes) (hbase : base ≤ W.heap.size)
    (h : ∀ g c' w', App1 f sz e base W A n c xs y g c' w' → wpList P ops Q rest (a.put o.dst (.slice (some ⟨g, 0, none⟩) (n + 1) c')) w') :
    wpList P ops Q (o :: rest) a W := by
  obtain ⟨i, hi', hz, hsize, hbytes'⟩ := info_parts hi
  refine wpList_append_lies W hgd s x t ho base e i z sz bytes ht hi' hz hsize hbytes' hzs hsz _ n (xs.flatMap f) hs hown.1 ⟨N, 0, none⟩ 1 1 (f y) hx (by rw [hcl, Nat.one_mul]) (news1 hN hcs) h1 (by omega) ?_ hbytes hbase W.heap.size rfl ?_
  · unfold maxLen
    have : n + 1 ≤ (n + 1) * bytes := Nat.le_mul_of_pos_right _ (by omega)
    omega
  · intro g cap w' h2 h3 h4 _
    exact h g cap w' (app1_of hown hbase h2 h3 h4)
/-- At a step of a region that draws. -/
theorem step_app {ops : Array Oper} {o : Oper} {a : Act} {K : Act → World → Prop} {Q : Exit → Act → World → Prop} {E : Prop} (hgd : o.guard = none) (s x : Operand) (t : TypeId)
    (ho : o.op = .call { callee := .builtin .append, args := #[s, x], argTypes := #[t, t] })
    (base : Nat) (e : TypeId) (z : Value) (sz bytes : Nat) (ht : P.underlying t = some (.slice e)) (hi : (P.info? e).map (fun i => (i.zero, i.size, i.bytes)) = some (some z, sz, bytes))
    (hzs : z.cells.size = sz) (hsz : 0 < sz) (f : α → List Value) (A : Option Addr) (n c : Nat) (xs : List α) (hs : a.eval s = .slice A n c) (hown : OW f sz e base W A n c xs)
    (y : α) (cs : Array Value) (hcs : cs.toList = f y) (hcl : (f y).length = sz) (ty : TypeId) (N : Nat) (hx : a.eval x = .slice (some ⟨N, 0, none⟩) 1 1) (hN : BK W N ty cs) (h1 : ∀ u ∈ f y, u.oneCell' = true)
    (hbytes : (n + 1) * bytes ≤ 140737488355328) (hby : 1 ≤ bytes) (hbase : base ≤ W.heap.size)
    (h : ∀ g c' w', App1 f sz e base W A n c xs y g c' w' → K (a.put o.dst (.slice (some ⟨g, 0, none⟩) (n + 1) c')) w') :
    if Region.wanted o (yielded ops a.tmps) = true then Oper.wp P o a W K Q else E := by
  obtain ⟨i, hi', hz, hsize, hbytes'⟩ := info_parts hi
  refine step_append_lies W hgd s x t ho base e i z sz bytes ht hi' hz hsize hbytes' hzs hsz _ n (xs.flatMap f) hs hown.1 ⟨N, 0, none⟩ 1 1 (f y) hx (by rw [hcl, Nat.one_mul]) (news1 hN hcs) h1 (by omega) ?_ hbytes hbase W.heap.size rfl ?_
  · unfold maxLen
    have : n + 1 ≤ (n + 1) * bytes := Nat.le_mul_of_pos_right _ (by omega)
    omega
  · intro g cap w' h2 h3 h4 _
    exact h g cap w' (app1_of hown hbase h2 h3 h4)
end
end Go.Proofs.Ytpiiaffkobddlaa

/- Groups of bends: plainly, and how they lie in memory. -/
namespace Go.Proofs.Ytpiiaffkobddlaa
open Go.RowKit Go.Shelf Go.Sort Go.Proofs

/-- A new bend joins the last group, or begins one. -/
def addB (gap : Int) (gs : List (List Bd)) (x : Bd) : List (List Bd) :=
  match gs.getLast?.bind List.getLast? with
  | some y => if tog gap y x then gs.dropLast ++ [(gs.getLast?.getD []) ++ [x]] else gs ++ [[x]]
  | none => gs ++ [[x]]
def grp (gap : Int) (l : List Bd) : List (List Bd) := l.foldl (addB gap) []
/-- The header of a slice. -/
structure Hdr where
  A : Option Addr
  n : Nat
  c : Nat
def hC (h : Hdr) : List Value := [.slice h.A h.n h.c]
theorem hC_len (h : Hdr) : (hC h).length = 1 := rfl
section
variable {w w' : World} {base n c : Nat} {A : Option Addr} {gs ds : List (Hdr × List Bd)} {q : Hdr × List Bd}
end
end Go.Proofs.Ytpiiaffkobddlaa

/- grouped, for bends that lie together. -/
namespace Go.Proofs.Ytpiiaffkobddlaa
open Go.RowKit Go.Shelf Go.Sort Go.Proofs

theorem flat_set {α : Type} {f : α → List Value} (hf : ∀ x, (f x).length = 1) : ∀ (xs : List α) (i : Nat) (y : α) (v : Value), f y = [v] → (xs.set i y).flatMap f = (xs.flatMap f).set i v
  | [], _, _, _, _ => rfl
  | x :: xs, 0, y, v, h => by
    obtain ⟨u, hu⟩ := List.length_eq_one_iff.1 (hf x)
    simp [h, hu]
  | x :: xs, i + 1, y, v, h => by
    obtain ⟨u, hu⟩ := List.length_eq_one_iff.1 (hf x)
    simp [hu, flat_set hf xs i y v h]
/-- One cell of an own row of one-celled elements is written. -/
theorem OW.set1 {α : Type} {f : α → List Value} {e : TypeId} {base : Nat} {w : World} {b n c : Nat} {xs : List α} (h : OW f 1 e base w (some ⟨b, 0, none⟩) n c xs) (hf : ∀ x, (f x).length = 1) (i : Nat) (y : α) (v : Value) (hy : f y = [v]) :
    OW f 1 e base (w.setCell ⟨b, i, none⟩ v) (some ⟨b, 0, none⟩) n c (xs.set i y) := by
  refine ⟨⟨by rw [flat_set hf xs i y v hy]; simpa using h.1.1, ?_⟩, by simpa using h.2⟩
  rcases h.1.2 with ⟨h3, _⟩ | ⟨g, cap, cur, h3, hb, hg, hn, hc, hs, ht⟩
  · cases h3
  · injection h3 with h3 h4 h5
    injection h3 with h3
    injection h3 with h3
    subst h3 h5
    refine .inr ⟨b, c, cur.setIfInBounds i v, rfl, hb, ?_, hn, hc, by simpa using hs, ?_⟩
    · simp [World.setCell, Array.getElem?_modify, hg]
    · rw [Array.toList_setIfInBounds, List.take_set, ht, flat_set hf xs i y v hy]
/-- A block of its own with one element. -/
theorem OW.one {α : Type} {f : α → List Value} {sz : Nat} {e : TypeId} {base : Nat} {w : World} {N : Nat} {cs : Array Value} {y : α} (hb : BK w N e cs) (hcs : cs.toList = f y) (hl : (f y).length = sz) (hN : base ≤ N) :
    OW f sz e base w (some ⟨N, 0, none⟩) 1 1 [y] := by
  refine ⟨⟨by simp [hl], .inr ⟨N, 1, cs, rfl, hN, hb, Nat.le_refl _, by unfold maxLen; omega, ?_, ?_⟩⟩, rfl⟩
  · rw [← Array.length_toList, hcs, hl]; omega
  · rw [hcs, Nat.one_mul, List.take_of_length_le (by omega)]; simp
end Go.Proofs.Ytpiiaffkobddlaa

/- append of one element, inside a fence. Plain theorem over any program. -/
namespace Go.Proofs.Ytpiiaffkobddlaa
open Go.RowKit Go.Proofs

theorem wpListIn_app {F : Fence} {nF : Nat} {α : Type} {P : Program} {W : World} {ops : Array Oper} {rest : List Oper} {o : Oper} {a : Act} {Q : Exit → Act → World → Prop} (hgd : o.guard = none) (s x : Operand) (t : TypeId)
    (ho : o.op = .call { callee := .builtin .append, args := #[s, x], argTypes := #[t, t] })
    (base : Nat) (e : TypeId) (z : Value) (sz bytes : Nat) (ht : P.underlying t = some (.slice e)) (hi : (P.info? e).map (fun i => (i.zero, i.size, i.bytes)) = some (some z, sz, bytes))
    (hzs : z.cells.size = sz) (hsz : 0 < sz) (f : α → List Value) (A : Option Addr) (n c : Nat) (xs : List α) (hs : a.eval s = .slice A n c) (hown : OW f sz e base W A n c xs)
    (y : α) (cs : Array Value) (hcs : cs.toList = f y) (hcl : (f y).length = sz) (ty : TypeId) (N : Nat) (hx : a.eval x = .slice (some ⟨N, 0, none⟩) 1 1) (hN : BK W N ty cs) (h1 : ∀ u ∈ f y, u.oneCell' = true)
    (hbytes : (n + 1) * bytes ≤ 140737488355328) (hby : 1 ≤ bytes) (hbase : base ≤ W.heap.size)
    (h : ∀ g c' w', App1 f sz e base W A n c xs y g c' w' → wpListIn F nF P ops Q rest (a.put o.dst (.slice (some ⟨g, 0, none⟩) (n + 1) c')) w') :
    wpListIn F nF P ops Q (o :: rest) a W := by
  obtain ⟨i, hi', hz, hsize, hbytes'⟩ := info_parts hi
  have h63 : n + 1 ≤ maxLen := by
    unfold maxLen
    have : n + 1 ≤ (n + 1) * bytes := Nat.le_mul_of_pos_right _ (by omega)
    omega
  refine wpListIn_plain hgd fun K hK => ?_
  obtain ⟨g, cap, w', hr, h2, h3, h4, _⟩ := run_append_lies (P := P) W t o.type base e i z sz bytes ht hi' hz hsize hbytes' hzs hsz _ n (xs.flatMap f) hown.1 ⟨N, 0, none⟩ 1 1 (f y) (by rw [hcl, Nat.one_mul]) (news1 hN hcs) h1 (by omega) h63 hbytes hbase W.heap.size rfl
  unfold Oper.wpIn
  refine ⟨by simp [Oper.about, ho, resolve, Target.leads, Sem.run_pure], ?_⟩
  rw [Oper.semAt_plain F _ _ (by rw [ho]; intro c hc'; cases hc')]
  simp [execOp, ho, resolve, invoke, builtin, hs, hx, hr, Result.andThen]
  exact hK _ _ (h g cap w' (app1_of hown hbase h2 h3 h4))
end Go.Proofs.Ytpiiaffkobddlaa
