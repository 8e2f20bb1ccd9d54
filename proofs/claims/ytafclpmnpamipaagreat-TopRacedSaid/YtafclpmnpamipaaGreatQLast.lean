/- pace.last at Plan's test: the greatest place up to a bound whose sum of least times is within the room. -/
import Derived.Test.YtafclpmnpamipaaGreatQPlanM
import Derived.Test.YtafclpmnpamipaaGreatQMtr
namespace Go.Proofs.YtafclpmnpamipaaGreat
open Go.RowKit Go.Shelf Go.Sort Go.Proofs

theorem tQ_step {S : Spd} {R : Road} (hS : SOK S) (hv : OK R) {a : Nat} : ∀ d : Nat, tQ S R.ps a ≤ tQ S R.ps (a + d)
  | 0 => Int.le_refl _
  | d + 1 => by
    have ih := tQ_step hS hv (a := a) d
    cases hx : (units R.ps)[a + d]? with
    | none =>
      have hl := List.getElem?_eq_none_iff.1 hx
      have e : tQ S R.ps (a + (d + 1)) = tQ S R.ps (a + d) := by
        unfold tQ
        rw [List.take_of_length_le (by omega), List.take_of_length_le hl]
      omega
    | some x =>
      have e := tQ_succ S R.ps hx
      have := mQ_bd hS (units_ok hv.pk x (List.mem_of_getElem? hx))
      rw [← Nat.add_assoc]
      omega
theorem tQ_mono {S : Spd} {R : Road} (hS : SOK S) (hv : OK R) {a b : Nat} (h : a ≤ b) : tQ S R.ps a ≤ tQ S R.ps b := by
  have := tQ_step hS hv (a := a) (b - a)
  rwa [show a + (b - a) = b by omega] at this
theorem tQ_zero (S : Spd) (ps : List Piece) : tQ S ps 0 = 0 := by simp [tQ]
theorem tSl_zero (S : Spd) (ps : List Piece) : tSl S ps 0 = 0 := by simp [tSl]
end Go.Proofs.YtafclpmnpamipaaGreat

/- Worlds that differ in one old block (and have grown); sums of pairs. Plain theorems over any program. -/
namespace Go.Proofs.YtafclpmnpamipaaGreat
open Go.RowKit Go.Shelf Go.Sort Go.Proofs

/-- All old blocks but m read as before. -/
structure But (m : Nat) (x y : World) : Prop where
  os : y.os = x.os
  tape : y.tape = x.tape
  output : y.output = x.output
  size : x.heap.size ≤ y.heap.size
  block : ∀ b, b < x.heap.size → b ≠ m → y.heap[b]? = x.heap[b]?
section
variable {m : Nat} {W W' : World}
theorem But.refl (m : Nat) (x : World) : But m x x := ⟨rfl, rfl, rfl, Nat.le_refl _, fun _ _ _ => rfl⟩
theorem But.trans {x y z : World} (h : But m x y) (k : But m y z) : But m x z :=
  ⟨k.os.trans h.os, k.tape.trans h.tape, k.output.trans h.output, Nat.le_trans h.size k.size, fun b hb hm => (k.block b (Nat.lt_of_lt_of_le hb h.size) hm).trans (h.block b hb hm)⟩
theorem But.of_below (h : Below W.heap.size W W') : But m W W' := ⟨h.os, h.tape, h.output, h.size, fun b hb _ => h.block b hb⟩
theorem But.setCell {x y : World} (h : But m x y) (o : Nat) (u : Value) : But m x (y.setCell ⟨m, o, none⟩ u) :=
  ⟨h.os, h.tape, h.output, by rw [World.size_setCell]; exact h.size, fun b hb hm => (Below.heap_setCell _ _ _ b hm).trans (h.block b hb hm)⟩
theorem But.grown {x y z : World} (h : But m x y) (k : y.grownBy z (some m)) : But m x z :=
  ⟨k.os.trans h.os, k.tape.trans h.tape, k.output.trans h.output, Nat.le_trans h.size k.size, fun b hb hm => (k.block b (Nat.lt_of_lt_of_le hb h.size) (fun e => hm (by cases e; rfl))).trans (h.block b hb hm)⟩
theorem But.bk (h : But m W W') {b : Nat} {t : TypeId} {cs : Array Value} (hb : BK W b t cs) (hm : b ≠ m) : BK W' b t cs := (h.block b hb.lt hm).trans hb
theorem But.ow (h : But m W W') {α : Type} {f : α → List Value} {sz : Nat} {e : TypeId} {base : Nat} {A : Option Addr} {n c : Nat} {xs : List α} (ho : OW f sz e base W A n c xs) (hm : ∀ g, A = some g → g.block ≠ m) : OW f sz e base W' A n c xs :=
  ho.keep (fun g hg => h.block _ (ho.lt hg).2 (hm g hg))
theorem But.below (h : But m W W') {n0 : Nat} (h1 : n0 ≤ m) (h2 : n0 ≤ W.heap.size) : Below n0 W W' :=
  ⟨h.os, h.tape, h.output, h.size, fun b hb => h.block b (by omega) (by omega)⟩
theorem But.km (h : But m W W') {n0 s0 : Nat} (h1 : n0 ≤ m) (h2 : m < s0) (h3 : n0 ≤ W.heap.size) : KM n0 s0 W W' :=
  ⟨h.below h1 h3, fun b o h0 hb _ => (h.block b (Array.getElem?_eq_some_iff.1 hb).1 (by omega)).trans hb⟩
theorem But.keeps (h : But m W W') {t : TypeId} {cs : Array Value} (hm : BK W m t cs) (B : Nat) : KeepsFrom B W W' :=
  ⟨h.size, fun k o _ hk ho => (h.block k (Array.getElem?_eq_some_iff.1 hk).1 (fun e => by subst e; rw [show W.heap[k]? = _ from hm] at hk; cases hk; cases ho)).trans hk⟩
theorem but_put (m : Nat) (W : World) (o : Obj) (d : Nat) (os : Array Obj) : But m W (grow (redrawn (W.putObj m o) d) os) := by
  have h1 : But m W (W.putObj m o) := ⟨rfl, rfl, rfl, by simp [World.putObj], fun b _ hm => World.putObj_heap_other hm⟩
  exact h1.trans (But.of_below (below_regrown _ d os))
theorem putq (h : But m W W') (hm : m < W.heap.size) {o : Obj} (ho : W'.heap[m]? = some o) : ∃ p : Regrown, W' = grow (redrawn (W.putObj m o) p.d) p.os := by
  refine regrown_of_below ⟨h.os, h.tape, h.output, by simpa [World.putObj] using h.size, fun b hb => ?_⟩
  have hb' : b < W.heap.size := by simpa [World.putObj] using hb
  by_cases e : b = m
  · subst e
    rw [World.putObj_heap_same hm, ho]
  · rw [World.putObj_heap_other e, h.block b hb' e]
end

def pF (L : List (Int × Int)) : Int := (L.map Prod.fst).sum
def pS (L : List (Int × Int)) : Int := (L.map Prod.snd).sum
theorem pF_snoc (L : List (Int × Int)) (x : Int × Int) : pF (L ++ [x]) = pF L + x.1 := by simp [pF]
theorem pS_snoc (L : List (Int × Int)) (x : Int × Int) : pS (L ++ [x]) = pS L + x.2 := by simp [pS]
/-- The sums of the first 0, 1, .. of some pairs. -/
def pss (L : List (Int × Int)) : List (Int × Int) := (List.range (L.length + 1)).map fun k => (pF (L.take k), pS (L.take k))
theorem pss_snoc (L : List (Int × Int)) (x : Int × Int) : pss (L ++ [x]) = pss L ++ [(pF L + x.1, pS L + x.2)] := by
  unfold pss
  rw [List.length_append, List.length_singleton, List.range_succ, List.map_append]
  congr 1
  · refine List.map_congr_left (fun k hk => ?_)
    have := List.mem_range.1 hk
    rw [List.take_append_of_le_length (by omega)]
  · rw [List.map_singleton, List.take_of_length_le (by simp), pF_snoc, pS_snoc]
theorem pss_mtrs (S : Spd) (ps : List Piece) : pss (mtrs S ps) = tms S ps ((mtrs S ps).length + 1) := by
  unfold pss tms
  refine List.map_congr_left (fun k _ => ?_)
  have e : (mtrs S ps).take k = ((units ps).take k).map (mtp S) := by unfold mtrs; rw [List.map_take]
  rw [e]
  simp only [pF, pS, List.map_map]
  rfl
theorem pF_bd : ∀ (pre : List BT), (0 ≤ pF (pre.map (·.1)) ∧ pF (pre.map (·.1)) ≤ 10000000 * (pre.length : Int)) ∧ 0 ≤ pS (pre.map (·.1)) ∧ pS (pre.map (·.1)) ≤ 10000700 * (pre.length : Int)
  | [] => by simp [pF, pS]
  | x :: l => by
    have h := pF_bd l
    have h2 := x.2
    simp only [pF, pS, List.map_cons, List.sum_cons, List.length_cons, Int.natCast_add] at *
    omega
end Go.Proofs.YtafclpmnpamipaaGreat
