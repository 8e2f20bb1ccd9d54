/- The range over a road's pieces: what the iterator of a measured road hands to a loop's body, for every body that keeps old memory. -/
import Derived.RangeFuncNested
import Derived.RangeFuncBound
import Derived.RangeFuncCalls
import Derived.RangeFuncLeaves
import Derived.Shelf.Abstract
import Derived.Shelf.RegionOpen
import Derived.OwnWalkIn
import Derived.TacticsInMore
import Derived.LoopNIn
import Derived.LoopIn
import Derived.BigRegionIn
import Derived.Test.YtafclpmnpamipaaGreatQLeaf
import Derived.Test.YtafclpmnpamipaaGreatQValid
import Derived.Test.YtafclpmnpamipaaGreatQReg
import Derived.BigQuiet
import Derived.Deep.CutBlock
import Derived.Deep.AppendLies
import Derived.Deep.RegionLaw
import Derived.Maps.OwnIn
import Derived.Laws.EntriesVeiled
namespace Go.Proofs.YtafclpmnpamipaaGreat
open Go.RowKit Go.Shelf Go.Proofs

attribute [local go_sem] Oper.semAt_some

/-- The pieces with their beginnings. -/
def its : Int → List Piece → List (Int × Piece)
  | _, [] => []
  | b, p :: ps => (b, p) :: its (b + p.len) ps
/-- What a round must keep for the iterator: what lay below n0, and the box of the receiver. -/
def KB (n0 bm : Nat) (W W' : World) : Prop := Below n0 W W' ∧ W'.heap[bm]? = W.heap[bm]?
theorem KB.refl (n0 bm : Nat) (W : World) : KB n0 bm W W := ⟨Below.refl _ _, rfl⟩
theorem KB.t {n0 bm : Nat} {A B C : World} (h : KB n0 bm A B) (k : KB n0 bm B C) : KB n0 bm A C := ⟨h.1.trans k.1, k.2.trans h.2⟩
theorem KB.b {n0 bm : Nat} {w : World} (hn : n0 ≤ w.heap.size) (hm : bm < w.heap.size) (W : World) (l : Nat) (o o' : Obj) (hl : w.heap.size ≤ l) (h : W.heap[l]? = some o) (h1 : o.isCells = false) (h2 : o.isWalk = false) : KB n0 bm W (W.putObj l o') :=
  ⟨belowK_b hn W l o o' hl h h1 h2, World.putObj_heap_other (by omega)⟩
theorem KB.of_below {n0 bm B : Nat} {W W' : World} (h : Below B W W') (hn : n0 ≤ B) (hm : bm < B) : KB n0 bm W W' := ⟨h.mono hn, h.block _ hm⟩
theorem KB.setCell {n0 bm : Nat} {W W' : World} (h : KB n0 bm W W') {p : Addr} (h1 : n0 ≤ p.block) (h2 : p.block ≠ bm) (u : Value) : KB n0 bm W (W'.setCell p u) :=
  ⟨h.1.setCell h1 u, (Below.heap_setCell _ _ _ _ (Ne.symm h2)).trans h.2⟩
theorem KB.cell {n0 bm : Nat} {W W' : World} (h : KB n0 bm W W') {o : Nat} : W'.cell? ⟨bm, o, none⟩ = W.cell? ⟨bm, o, none⟩ := World.cell?_of_block h.2
end Go.Proofs.YtafclpmnpamipaaGreat

/- The piece at a place: the binary search of the road package, and the reference's walk along the pieces. -/
namespace Go.Proofs.YtafclpmnpamipaaGreat
open Go.RowKit Go.Proofs

/-- Piece i lies at the place x. -/
def At (ps : List Piece) (x : Int) (i : Nat) : Prop := i < ps.length ∧ sumL (ps.take i) ≤ x ∧ x < sumL (ps.take (i + 1))
theorem sumL_mono {ps : List Piece} (h : ∀ p ∈ ps, pOk p = true) {i j : Nat} (hij : i ≤ j) : sumL (ps.take i) ≤ sumL (ps.take j) := by
  obtain ⟨d, rfl⟩ := Nat.exists_eq_add_of_le hij
  clear hij
  induction d with
  | zero => exact Int.le_refl _
  | succ d ih =>
    refine Int.le_trans ih ?_
    show sumL (ps.take (i + d)) ≤ sumL (ps.take (i + d + 1))
    rcases Nat.lt_or_ge (i + d) ps.length with hl | hl
    · rw [sumL_take ps _ hl]
      have := (pOk_len (h _ (List.getElem_mem hl))).1
      omega
    · rw [List.take_of_length_le hl, List.take_of_length_le (by omega)]
      exact Int.le_refl _
end Go.Proofs.YtafclpmnpamipaaGreat

/- road.Find and road.Length on a road that is as defined; Find and At of the reference. -/
namespace Go.Proofs.YtafclpmnpamipaaGreat
open Go.RowKit Go.Proofs

theorem OK.len {R : Road} (h : OK R) : 1 ≤ sumL R.ps ∧ sumL R.ps ≤ 100000 := by
  have := (sumL_bd R.ps h.pk).1
  have h1 := h.p1
  exact ⟨by omega, h.n1⟩
theorem Length_in (pa : Option Addr) (pn pc : Nat) (ca : Option Addr) (cn cc : Nat) (ja : Option Addr) (jn jc : Nat) (R : Road) (w : World)
    (h : RD w w.heap.size pa pn ca cn ja jn R) (hv : OK R) :
    Calls Tryz.prog 25 #[.agg #[.slice pa pn pc, .slice ca cn cc, .slice ja jn jc]] w fun e w' =>
      e = .returned (.tuple #[.int .i64 (sumL R.ps), .int .i64 0]) ∧ Below w.heap.size w w' := by
  have hpn : pn ≤ 2000 := by rw [h.p.1]; exact hv.p2
  have hc := Lib.hid (chk_ok hv)
  have hv' := Lib.hid hv
  have hR := Lib.hid h
  clear h hv
  have hW0 : Below w.heap.size w (w.alloc (.cells #[.slice pa pn pc, .slice ca cn cc, .slice ja jn jc] 26)) := (Below.refl w.heap.size w).alloc (Nat.le_refl _) _
  go_enter Tryz.func25, Tryz.ntmps25
  go_wp2_with fail
  refine (Check_any _ _ _ _ _ _ _ _ _ R _ (hR.out.grow hW0 hW0.size)).mono ?_
  rintro e w1 ⟨rfl, hb1'⟩
  rw [hc.out]
  have hB1 := onto hW0 hb1' hW0.size
  have d0 := (bc hb1' (b := w.heap.size) (o := 0) (by simp)).trans (show _ = some (.slice pa pn pc) by simp)
  have d1 := (bc hb1' (b := w.heap.size) (o := 1) (by simp)).trans (show _ = some (.slice ca cn cc) by simp)
  have d2 := (bc hb1' (b := w.heap.size) (o := 2) (by simp)).trans (show _ = some (.slice ja jn jc) by simp)
  go_wp2_with fail
  refine (measure_any _ _ _ _ _ _ _ _ _ R _ (hR.out.grow hB1 hB1.size) hv'.out.pk (by omega)).mono ?_
  rintro e w2 ⟨g, ba, bq, rfl, hM, hg, hb2⟩
  have hM' := Lib.hid hM
  have hB2 := onto hB1 hb2 hB1.size
  clear hM
  go_wp2_with fail
  refine (mlength_any g _ _ _ _ _ _ _ _ _ _ _ R _ _ hM'.out (by omega)).mono ?_
  rintro e w3 ⟨rfl, n, rfl⟩
  go_wp2_with fail
  go_ret2
  exact ⟨rfl, below_drewN hB2 _⟩
end Go.Proofs.YtafclpmnpamipaaGreat

/- The turning up to a place: the plain function, and the road package's loop over its iterator. -/
namespace Go.Proofs.YtafclpmnpamipaaGreat
open Go.RowKit Go.Shelf Go.Sort Go.Proofs

attribute [local go_sem] Oper.semAt_some

/-- The turning up to the place x. -/
def upt : List Piece → Int → Int
  | [], _ => 0
  | p :: ps, x => if x ≤ 0 then 0 else trn p (min x p.len) + upt ps (x - p.len)
end Go.Proofs.YtafclpmnpamipaaGreat

/- How far one sees: what the answer is, and the reference's walk. -/
namespace Go.Proofs.YtafclpmnpamipaaGreat
open Go.RowKit Go.Shelf Go.Sort Go.Proofs

/-- The first crest behind the place (n + 1: there is none). -/
def nxt (n pl : Int) : List Crest → Int
  | [] => n + 1
  | c :: cs => if pl < c.pos then c.pos else nxt n pl cs
/-- The turning from pl to q is at most an. -/
def okq (ps : List Piece) (an pl q : Int) : Prop := -an ≤ upt ps q - upt ps pl ∧ upt ps q - upt ps pl ≤ an
/-- r meters are seen, where lim is the most that can be. -/
structure SI (ps : List Piece) (an pl lim r : Int) : Prop where
  r0 : 0 ≤ r
  r1 : r ≤ lim
  all : ∀ q, pl < q → q ≤ pl + r → okq ps an pl q
  stop : r = lim ∨ ¬ okq ps an pl (pl + r + 1)
theorem SI.uniq {ps : List Piece} {an pl lim r s : Int} (h : SI ps an pl lim r) (k : SI ps an pl lim s) : r = s := by
  rcases Int.lt_trichotomy r s with hlt | heq | hgt
  · rcases h.stop with h1 | h1
    · have := k.r1; omega
    · exact absurd (k.all (pl + r + 1) (by have := h.r0; omega) (by omega)) h1
  · exact heq
  · rcases k.stop with h1 | h1
    · have := h.r1; omega
    · exact absurd (h.all (pl + s + 1) (by have := k.r0; omega) (by omega)) h1
theorem SI.more {ps : List Piece} {an an' pl lim lim' r s : Int} (h : SI ps an pl lim r) (k : SI ps an' pl lim' s) (h1 : an ≤ an') (h2 : lim ≤ lim') : r ≤ s := by
  rcases Int.lt_or_le s r with hlt | hle
  · rcases k.stop with h3 | h3
    · have := h.r1; omega
    · have := h.all (pl + s + 1) (by have := k.r0; omega) (by omega)
      exact absurd ⟨by have := this.1; omega, by have := this.2; omega⟩ h3
  · exact hle
/-- The most that can be seen. -/
def lim (R : Road) (mo pl : Int) : Int := min (min mo (sumL R.ps - pl)) (nxt (sumL R.ps) pl R.cs - pl)
end Go.Proofs.YtafclpmnpamipaaGreat

/- The search for sight, piece by piece: that what the loop gathers is the sight. Plain; no program. -/
namespace Go.Proofs.YtafclpmnpamipaaGreat
open Go.RowKit Go.Proofs

section
variable (pl M an bg : Int)
/-- The turning to q, by the loop's reckoning, is at most an. -/
def okL (b : Int) (e : Int × Piece) (q : Int) : Prop := -an ≤ b + trn e.2 (q - e.1) - bg ∧ b + trn e.2 (q - e.1) - bg ≤ an
/-- The loop goes on behind the piece e. -/
def goes (b : Int) (e : Int × Piece) : Prop := e.1 + e.2.len ≤ pl ∨ (pl < e.1 + e.2.len ∧ e.1 + e.2.len ≤ pl + M ∧ ∀ q, max pl e.1 ≤ q → q ≤ e.1 + e.2.len → okL an bg b e q)
end
section
variable {ps : List Piece} {pl M an : Int}
end
end Go.Proofs.YtafclpmnpamipaaGreat

/- road.Sight: the search piece by piece, over the iterator. -/
namespace Go.Proofs.YtafclpmnpamipaaGreat
open Go.RowKit Go.Shelf Go.Sort Go.Proofs

attribute [local go_sem] Oper.semAt_some

end Go.Proofs.YtafclpmnpamipaaGreat

/- road.Sight: what is refused. -/
namespace Go.Proofs.YtafclpmnpamipaaGreat
open Go.RowKit Go.Shelf Go.Sort Go.Proofs

end Go.Proofs.YtafclpmnpamipaaGreat

/- Bends: their groups, plainly; the test whether two of them lie together. -/
namespace Go.Proofs.YtafclpmnpamipaaGreat
open Go.RowKit Go.Shelf Go.Sort Go.Proofs

/-- A bend, with its beginning: six cells. -/
abbrev Bd := Int × Piece
/-- y belongs to the group of x. -/
def tog (gap : Int) (x y : Bd) : Bool := decide (x.2.turn = y.2.turn) && decide (y.1 - x.1 - x.2.len ≤ gap)
end Go.Proofs.YtafclpmnpamipaaGreat

/- append of one element onto a row of the call's own, with the place where the new row lies: in a plain region, and at a step of a region that draws. Plain theorems over any program. -/
namespace Go.Proofs.YtafclpmnpamipaaGreat
open Go.RowKit Go.Proofs

section
variable {α : Type} {P : Program} {f : α → List Value} {sz : Nat} {e : TypeId} {base : Nat} {W : World} {A : Option Addr} {n c : Nat} {xs : List α} {y : α}
/-- What an append of one element leaves. -/
structure App1 (f : α → List Value) (sz : Nat) (e : TypeId) (base : Nat) (W : World) (A : Option Addr) (n c : Nat) (xs : List α) (y : α) (g c' : Nat) (w' : World) : Prop where
  own : OW f sz e base w' (some ⟨g, 0, none⟩) (n + 1) c' (xs ++ [y])
  bel : Below base W w'
  at_ : (∃ b, A = some b ∧ b.block = g) ∨ g = W.heap.size
  far : ∀ k, k < W.heap.size → (∀ b, A = some b → b.block ≠ k) → w'.heap[k]? = W.heap[k]?
  size : W.heap.size ≤ w'.heap.size
theorem news1 {N : Nat} {ty : TypeId} {cs : Array Value} (hb : BK W N ty cs) (hcs : cs.toList = f y) : ∀ j u, (f y)[j]? = some u → W.cell? ((⟨N, 0, none⟩ : Addr).add j) = some u := by
  intro j u hj
  have e0 : ((⟨N, 0, none⟩ : Addr).add j) = ⟨N, j, none⟩ := by unfold Addr.add; split <;> simp_all
  rw [e0, hb.cell j, ← Array.getElem?_toList, hcs]
  exact hj
end
end Go.Proofs.YtafclpmnpamipaaGreat

/- Groups of bends: plainly, and how they lie in memory. -/
namespace Go.Proofs.YtafclpmnpamipaaGreat
open Go.RowKit Go.Shelf Go.Sort Go.Proofs

/-- A new bend joins the last group, or begins one. -/
def addB (gap : Int) (gs : List (List Bd)) (x : Bd) : List (List Bd) :=
  match gs.getLast?.bind List.getLast? with
  | some y => if tog gap y x then gs.dropLast ++ [(gs.getLast?.getD []) ++ [x]] else gs ++ [[x]]
  | none => gs ++ [[x]]
def grp (gap : Int) (l : List Bd) : List (List Bd) := l.foldl (addB gap) []
/-- The header of a slice. -/
structure Hdr where
  A : Option Addr
  n : Nat
  c : Nat
def hC (h : Hdr) : List Value := [.slice h.A h.n h.c]
section
variable {w w' : World} {base n c : Nat} {A : Option Addr} {gs ds : List (Hdr × List Bd)} {q : Hdr × List Bd}
end
end Go.Proofs.YtafclpmnpamipaaGreat

/- grouped, for bends that lie together. -/
namespace Go.Proofs.YtafclpmnpamipaaGreat
open Go.RowKit Go.Shelf Go.Sort Go.Proofs

/-- A block of its own with one element. -/
theorem OW.one {α : Type} {f : α → List Value} {sz : Nat} {e : TypeId} {base : Nat} {w : World} {N : Nat} {cs : Array Value} {y : α} (hb : BK w N e cs) (hcs : cs.toList = f y) (hl : (f y).length = sz) (hN : base ≤ N) :
    OW f sz e base w (some ⟨N, 0, none⟩) 1 1 [y] := by
  refine ⟨⟨by simp [hl], .inr ⟨N, 1, cs, rfl, hN, hb, Nat.le_refl _, by unfold maxLen; omega, ?_, ?_⟩⟩, rfl⟩
  · rw [← Array.length_toList, hcs, hl]; omega
  · rw [hcs, Nat.one_mul, List.take_of_length_le (by omega)]; simp
end Go.Proofs.YtafclpmnpamipaaGreat

/- append of one element, inside a fence. Plain theorem over any program. -/
namespace Go.Proofs.YtafclpmnpamipaaGreat
open Go.RowKit Go.Proofs

end Go.Proofs.YtafclpmnpamipaaGreat

/- What a round of an iterator with boxes of its own must keep. -/
namespace Go.Proofs.YtafclpmnpamipaaGreat
open Go.RowKit Go.Shelf Go.Proofs

/-- What a round must keep for the iterator: what lay below n0, and every block of cells from s0 on. -/
def KM (n0 s0 : Nat) (W W' : World) : Prop := Below n0 W W' ∧ ∀ (b : Nat) (o : Obj), s0 ≤ b → W.heap[b]? = some o → o.isCells = true → W'.heap[b]? = some o
theorem KM.refl (n0 s0 : Nat) (W : World) : KM n0 s0 W W := ⟨Below.refl _ _, fun _ _ _ h _ => h⟩
theorem KM.t {n0 s0 : Nat} {A B C : World} (h : KM n0 s0 A B) (k : KM n0 s0 B C) : KM n0 s0 A C := ⟨h.1.trans k.1, fun b o h0 h1 h2 => k.2 b o h0 (h.2 b o h0 h1 h2) h2⟩
theorem KM.b {n0 s0 : Nat} {w : World} (hn : n0 ≤ w.heap.size) (W : World) (l : Nat) (o o' : Obj) (hl : w.heap.size ≤ l) (h : W.heap[l]? = some o) (h1 : o.isCells = false) (h2 : o.isWalk = false) : KM n0 s0 W (W.putObj l o') :=
  ⟨belowK_b hn W l o o' hl h h1 h2, fun b u _ hb hc => (World.putObj_heap_other (fun e => by subst e; rw [h] at hb; cases hb; rw [h1] at hc; cases hc)).trans hb⟩
theorem KM.of_below {n0 s0 : Nat} {W W' : World} (h : Below W.heap.size W W') (hn : n0 ≤ W.heap.size) : KM n0 s0 W W' :=
  ⟨h.mono hn, fun b _ _ hb _ => (h.block b (Array.getElem?_eq_some_iff.1 hb).1).trans hb⟩
theorem KM.setCell {n0 s0 : Nat} {W W' : World} (h : KM n0 s0 W W') {p : Addr} (h1 : n0 ≤ p.block) (h2 : p.block < s0 ∨ W.heap.size ≤ p.block) (u : Value) : KM n0 s0 W (W'.setCell p u) :=
  ⟨h.1.setCell h1 u, fun b o h0 hb hc => (Below.heap_setCell _ _ _ b (fun e => by have := (Array.getElem?_eq_some_iff.1 hb).1; omega)).trans (h.2 b o h0 hb hc)⟩
theorem KM.bk {n0 s0 : Nat} {W W' : World} (h : KM n0 s0 W W') {b : Nat} {t : TypeId} {cs : Array Value} (hb : BK W b t cs) (h0 : s0 ≤ b) : BK W' b t cs := h.2 b _ h0 hb rfl
end Go.Proofs.YtafclpmnpamipaaGreat
