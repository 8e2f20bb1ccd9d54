/- Package score: the items of a leg (an iterator), on which side a car is, where it is out: nowhere, at a plan of one stage and plain cards. Printed by genscd.py. -/
import Derived.RangeFuncNested
import Derived.RangeFuncBound
import Derived.RangeFuncCalls
import Derived.RangeFuncLeaves
import Derived.Shelf.Abstract
import Derived.Shelf.RegionOpen
import Derived.OwnWalkIn
import Derived.TacticsInMore
import Derived.LoopNIn
import Derived.LoopIn
import Derived.Test.YtafclpmnpamipaaGreatQScC
import Derived.Test.YtafclpmnpamipaaGreatQFind
import Derived.Test.YtafclpmnpamipaaGreatQStr1
namespace Go.Proofs.YtafclpmnpamipaaGreat
open Go.RowKit Go.Shelf Go.Sort Go.Proofs

attribute [local go_sem] Oper.semAt_some

set_option maxRecDepth 100000 in
set_option maxHeartbeats 8000000 in
theorem scSide (L : PlF) (x : CdV) (w : World) (hp : PD w w.heap.size L) :
    Calls Tryz.prog 136 #[plA L, .agg #[.int .i64 0, .slice (some ⟨x.sb, 0, none⟩) 1 x.sc, .slice (some ⟨x.lb, 0, none⟩) 1 x.lc], .int .i64 0] w fun e w' => e = .returned (.tuple #[.int .i64 0, .int .i64 0]) ∧ Below w.heap.size w w' := by
  have hB0 : Below w.heap.size w ((w.alloc (.cells #[.slice (some ⟨L.ib, 0, none⟩) 1 L.ic, .int .i64 1, .int .i64 0, .int .i64 0, .int .i64 L.ml, .int .i64 L.ll, .slice (some ⟨L.jb, 0, none⟩) 1 L.jc, .bool false, .int .i64 0, .int .i64 1, .int .i64 100, .int .i64 L.pow, .slice L.pa L.ps.length L.pc, .slice none 0 0] 42)).alloc (.cells #[.int .i64 0, .slice (some ⟨x.sb, 0, none⟩) 1 x.sc, .slice (some ⟨x.lb, 0, none⟩) 1 x.lc] 58)) := ((Below.refl _ w).alloc (Nat.le_refl _) _).alloc (by simp) _
  obtain ⟨i0, i1, i2, i3⟩ := hp.it
  have hib := hp.i.1
  clear hp
  unfold plA
  go_enter Tryz.func136, Tryz.ntmps136
  go_wp2_with fail
  go_ret2
  exact ⟨rfl, hB0⟩
set_option maxRecDepth 100000 in
set_option maxHeartbeats 8000000 in
theorem leg1_in (n : Nat) (hn : 1 ≤ n) (l pb nb n0 : Nat) (L : PlF) (J Jx : List Unit → World → Prop)
    (hJA : ∀ (s : List Unit) (A B : World), J s A → A.grownBy B none → J s B)
    (hY : ∀ pre x W, J pre W → pre.length < 1 → YieldAt Fence.wide (n - 1) Tryz.prog l #[.int .i64 0] W fun e W' =>
      (e = .returned (.bool true) ∧ J (pre ++ [x]) W' ∧ Below n0 W W') ∨ (e = .returned (.bool false) ∧ Jx (pre ++ [x]) W'))
    (W : World) (hp : BK W pb 42 #[.slice (some ⟨L.ib, 0, none⟩) 1 L.ic, .int .i64 1, .int .i64 0, .int .i64 0, .int .i64 L.ml, .int .i64 L.ll, .slice (some ⟨L.jb, 0, none⟩) 1 L.jc, .bool false, .int .i64 0, .int .i64 1, .int .i64 100, .int .i64 L.pow, .slice L.pa L.ps.length L.pc, .slice none 0 0]) (_ : pb < n0) (hnb : W.cell? ⟨nb, 0, none⟩ = some (.int .i64 0)) (hnl : nb < n0) (hL : PD W n0 L) (hn0 : n0 ≤ W.heap.size) (h0 : J [] W) :
    CallsIn Fence.wide n Tryz.prog 162 #[.func (.yield l) #[] #[], .pointer (some ⟨pb, 0, none⟩), .pointer (some ⟨nb, 0, none⟩)] W fun e W' => (∃ v, e = .returned v) ∧
      ((∃ ys : List Unit, ys = [()] ∧ J ys W') ∨ (∃ pre : List Unit, True ∧ Jx pre W')) := by
  obtain ⟨x0, x1, x2, x3, x4, x5, x6, x7, x8, x9, x10, x11, x12, x13⟩ := bk14 hp
  obtain ⟨i0, i1, i2, i3⟩ := hL.it
  have hib := hL.i.1
  have hnW : nb < W.heap.size := by omega
  have hiW : L.ib < W.heap.size := by omega
  clear hp hL
  refine callsIn_of_wp Tryz.func162 rfl trivial ?_ rfl
  simp only [Tryz.ntmps162, List.size_toArray, List.length_cons, List.length_nil, Nat.reduceAdd, Nat.reduceSub, Array.replicate_succ, Array.replicate_zero, List.push_toArray, List.append_toArray, List.nil_append, List.cons_append]
  gi_wp2_with fail
  refine wpIn_loop_rounds 2 ?_
  rw [roundsIn_succ]
  have hb1 : Below W.heap.size W (W.alloc (.cells #[.int .i64 2, .int .i64 0, .int .i64 0, .bool false] 36)) := (Below.refl W.heap.size W).alloc (Nat.le_refl _) _
  have hJ1 := hJA [] W _ h0 (grownBy_of_below hb1)
  obtain ⟨fn, tmps, assign, body, hy, hR⟩ := hY [] () _ hJ1 (by simp)
  have HR := Lib.hid hR
  have HB1 := Lib.hid hb1
  clear hR hJ1 hb1
  gi_wp2_with fail
  refine HR.out.mono ?_
  rintro e W3 (⟨rfl, hJ2, hb2⟩ | ⟨rfl, hx⟩)
  · gi_wp2_with fail
    rw [roundsIn_succ]
    gi_wp2_with fail
    go_end0
    exact ⟨⟨_, rfl⟩, .inl ⟨_, rfl, hJ2⟩⟩
  · gi_wp2_with fail
    refine bodyPost_ret (results_none rfl _ _ _) rfl ?_
    exact ⟨⟨_, rfl⟩, .inr ⟨_, trivial, hx⟩⟩
/-- The iterator's contract: it yields 0 alone. -/
theorem leg_stops (n : Nat) (hn : 1 ≤ n) (pb nb n0 : Nat) (L : PlF) (w : World) (hp : BK w pb 42 #[.slice (some ⟨L.ib, 0, none⟩) 1 L.ic, .int .i64 1, .int .i64 0, .int .i64 0, .int .i64 L.ml, .int .i64 L.ll, .slice (some ⟨L.jb, 0, none⟩) 1 L.jc, .bool false, .int .i64 0, .int .i64 1, .int .i64 100, .int .i64 L.pow, .slice L.pa L.ps.length L.pc, .slice none 0 0]) (hpb : pb < n0) (hnb : w.cell? ⟨nb, 0, none⟩ = some (.int .i64 0)) (hnl : nb < n0) (hL : PD w n0 L) (hn0 : n0 ≤ w.heap.size) :
    SeqStopsK Fence.wide n Tryz.prog 162 #[.pointer (some ⟨pb, 0, none⟩), .pointer (some ⟨nb, 0, none⟩)] (fun _ : Unit => #[.int .i64 0]) (Below n0) (fun ys => ys = [()]) (fun _ => True) 1 w := by
  intro l J Jx W hW hJ hJx hY h0
  have hb := hW.mono hn0
  exact leg1_in n hn l pb nb n0 L J Jx (fun s A B hs hg => hJ s A B none hs hg (fun r e => by cases e)) hY W (hp.below hb hpb) hpb ((bc hb hnl).trans hnb) hnl (hL.grow hb (Nat.le_refl _)) (Nat.le_trans hn0 hW.size) h0
set_option maxRecDepth 100000 in
set_option maxHeartbeats 8000000 in
theorem leg_any (L : PlF) (w : World) :
    Calls Tryz.prog 135 #[.agg #[.slice (some ⟨L.ib, 0, none⟩) 1 L.ic, .int .i64 1, .int .i64 0, .int .i64 0, .int .i64 L.ml, .int .i64 L.ll, .slice (some ⟨L.jb, 0, none⟩) 1 L.jc, .bool false, .int .i64 0, .int .i64 1, .int .i64 100, .int .i64 L.pow, .slice L.pa L.ps.length L.pc, .slice none 0 0], .int .i64 0] w fun e w' => e = .returned (.func (.func 162) #[] #[.pointer (some ⟨w.heap.size, 0, none⟩), .pointer (some ⟨w.heap.size + 1, 0, none⟩)]) ∧
      w' = (w.alloc (.cells #[.slice (some ⟨L.ib, 0, none⟩) 1 L.ic, .int .i64 1, .int .i64 0, .int .i64 0, .int .i64 L.ml, .int .i64 L.ll, .slice (some ⟨L.jb, 0, none⟩) 1 L.jc, .bool false, .int .i64 0, .int .i64 1, .int .i64 100, .int .i64 L.pow, .slice L.pa L.ps.length L.pc, .slice none 0 0] 42)).alloc (.cells #[.int .i64 0] 3) := by
  go_enter Tryz.func135, Tryz.ntmps135
  go_wp2_with fail
  go_ret
  exact ⟨rfl, rfl⟩
set_option maxRecDepth 100000 in
set_option maxHeartbeats 8000000 in
theorem out_in (L : PlF) (x : CdV) (w : World) (hp : PD w w.heap.size L) (h : CD w w.heap.size x) :
    CallsIn Fence.wide 5 Tryz.prog 90 #[plA L, .agg #[.int .i64 0, .slice (some ⟨x.sb, 0, none⟩) 1 x.sc, .slice (some ⟨x.lb, 0, none⟩) 1 x.lc]] w fun e w' => e = .returned (.int .i64 (-1)) ∧ Below w.heap.size w w' := by
  have HP := Lib.hid hp
  have HC := Lib.hid h
  have hib := hp.i.1
  obtain ⟨i0, i1, i2, i3⟩ := hp.it
  have hib1 : L.ib < w.heap.size + 1 := by omega
  have hib2 : L.ib < w.heap.size + 1 + 1 := by omega
  have hib3 : L.ib < w.heap.size + 1 + 1 + 1 := by omega
  have hw1 : IntKind.i64.wrap 0 = 0 := by decide
  have hw2 : IntKind.i64.wrap 1 = 1 := by decide
  obtain ⟨w0, hw0⟩ : ∃ w0, w0 = (((((((w.alloc (.cells #[.slice (some ⟨L.ib, 0, none⟩) 1 L.ic, .int .i64 1, .int .i64 0, .int .i64 0, .int .i64 L.ml, .int .i64 L.ll, .slice (some ⟨L.jb, 0, none⟩) 1 L.jc, .bool false, .int .i64 0, .int .i64 1, .int .i64 100, .int .i64 L.pow, .slice L.pa L.ps.length L.pc, .slice none 0 0] 42)).alloc (.cells #[.int .i64 0, .slice (some ⟨x.sb, 0, none⟩) 1 x.sc, .slice (some ⟨x.lb, 0, none⟩) 1 x.lc] 58)).alloc (.cells #[.int .i64 0] 3)).alloc (.cells #[.int .i64 0] 3)).alloc (.cells #[.int .i64 0] 3)).alloc (.cells #[.int .i64 0] 3)).alloc (.cells #[.slice (some ⟨L.ib, 0, none⟩) 1 L.ic, .int .i64 1, .int .i64 0, .int .i64 0, .int .i64 L.ml, .int .i64 L.ll, .slice (some ⟨L.jb, 0, none⟩) 1 L.jc, .bool false, .int .i64 0, .int .i64 1, .int .i64 100, .int .i64 L.pow, .slice L.pa L.ps.length L.pc, .slice none 0 0] 42)).alloc (.cells #[.int .i64 0] 3) := ⟨_, rfl⟩
  have hB0 : Below w.heap.size w w0 := by rw [hw0]; exact ((((((((Below.refl w.heap.size w).alloc (Nat.le_refl _) _).alloc (by simp) _).alloc (by simp; omega) _).alloc (by simp; omega) _).alloc (by simp; omega) _).alloc (by simp; omega) _).alloc (by simp; omega) _).alloc (by simp; omega) _
  have hA0 : BK w0 (w.heap.size) 42 #[.slice (some ⟨L.ib, 0, none⟩) 1 L.ic, .int .i64 1, .int .i64 0, .int .i64 0, .int .i64 L.ml, .int .i64 L.ll, .slice (some ⟨L.jb, 0, none⟩) 1 L.jc, .bool false, .int .i64 0, .int .i64 1, .int .i64 100, .int .i64 L.pow, .slice L.pa L.ps.length L.pc, .slice none 0 0] := by rw [hw0]; exact ((((((((BK.new w 42 #[.slice (some ⟨L.ib, 0, none⟩) 1 L.ic, .int .i64 1, .int .i64 0, .int .i64 0, .int .i64 L.ml, .int .i64 L.ll, .slice (some ⟨L.jb, 0, none⟩) 1 L.jc, .bool false, .int .i64 0, .int .i64 1, .int .i64 100, .int .i64 L.pow, .slice L.pa L.ps.length L.pc, .slice none 0 0])).alloc _).alloc _).alloc _).alloc _).alloc _).alloc _).alloc _
  have hC0 : BK w0 (w.heap.size + 1) 58 #[.int .i64 0, .slice (some ⟨x.sb, 0, none⟩) 1 x.sc, .slice (some ⟨x.lb, 0, none⟩) 1 x.lc] := by rw [hw0]; have := BK.new (w.alloc (.cells #[.slice (some ⟨L.ib, 0, none⟩) 1 L.ic, .int .i64 1, .int .i64 0, .int .i64 0, .int .i64 L.ml, .int .i64 L.ll, .slice (some ⟨L.jb, 0, none⟩) 1 L.jc, .bool false, .int .i64 0, .int .i64 1, .int .i64 100, .int .i64 L.pow, .slice L.pa L.ps.length L.pc, .slice none 0 0] 42)) 58 #[.int .i64 0, .slice (some ⟨x.sb, 0, none⟩) 1 x.sc, .slice (some ⟨x.lb, 0, none⟩) 1 x.lc]; rw [World.size_alloc] at this; exact ((((((this).alloc _).alloc _).alloc _).alloc _).alloc _).alloc _
  have hE0 : BK w0 (w.heap.size + 2) 3 #[.int .i64 0] := by rw [hw0]; have := BK.new ((w.alloc (.cells #[.slice (some ⟨L.ib, 0, none⟩) 1 L.ic, .int .i64 1, .int .i64 0, .int .i64 0, .int .i64 L.ml, .int .i64 L.ll, .slice (some ⟨L.jb, 0, none⟩) 1 L.jc, .bool false, .int .i64 0, .int .i64 1, .int .i64 100, .int .i64 L.pow, .slice L.pa L.ps.length L.pc, .slice none 0 0] 42)).alloc (.cells #[.int .i64 0, .slice (some ⟨x.sb, 0, none⟩) 1 x.sc, .slice (some ⟨x.lb, 0, none⟩) 1 x.lc] 58)) 3 #[.int .i64 0]; rw [World.size_alloc, World.size_alloc] at this; exact (((((this).alloc _).alloc _).alloc _).alloc _).alloc _
  have hF0 : BK w0 (w.heap.size + 3) 3 #[.int .i64 0] := by rw [hw0]; have := BK.new (((w.alloc (.cells #[.slice (some ⟨L.ib, 0, none⟩) 1 L.ic, .int .i64 1, .int .i64 0, .int .i64 0, .int .i64 L.ml, .int .i64 L.ll, .slice (some ⟨L.jb, 0, none⟩) 1 L.jc, .bool false, .int .i64 0, .int .i64 1, .int .i64 100, .int .i64 L.pow, .slice L.pa L.ps.length L.pc, .slice none 0 0] 42)).alloc (.cells #[.int .i64 0, .slice (some ⟨x.sb, 0, none⟩) 1 x.sc, .slice (some ⟨x.lb, 0, none⟩) 1 x.lc] 58)).alloc (.cells #[.int .i64 0] 3)) 3 #[.int .i64 0]; rw [World.size_alloc, World.size_alloc, World.size_alloc] at this; exact ((((this).alloc _).alloc _).alloc _).alloc _
  have hK0 : BK w0 (w.heap.size + 4) 3 #[.int .i64 0] := by rw [hw0]; have := BK.new ((((w.alloc (.cells #[.slice (some ⟨L.ib, 0, none⟩) 1 L.ic, .int .i64 1, .int .i64 0, .int .i64 0, .int .i64 L.ml, .int .i64 L.ll, .slice (some ⟨L.jb, 0, none⟩) 1 L.jc, .bool false, .int .i64 0, .int .i64 1, .int .i64 100, .int .i64 L.pow, .slice L.pa L.ps.length L.pc, .slice none 0 0] 42)).alloc (.cells #[.int .i64 0, .slice (some ⟨x.sb, 0, none⟩) 1 x.sc, .slice (some ⟨x.lb, 0, none⟩) 1 x.lc] 58)).alloc (.cells #[.int .i64 0] 3)).alloc (.cells #[.int .i64 0] 3)) 3 #[.int .i64 0]; rw [World.size_alloc, World.size_alloc, World.size_alloc, World.size_alloc] at this; exact (((this).alloc _).alloc _).alloc _
  have hM0 : BK w0 (w.heap.size + 5) 3 #[.int .i64 0] := by rw [hw0]; have := BK.new (((((w.alloc (.cells #[.slice (some ⟨L.ib, 0, none⟩) 1 L.ic, .int .i64 1, .int .i64 0, .int .i64 0, .int .i64 L.ml, .int .i64 L.ll, .slice (some ⟨L.jb, 0, none⟩) 1 L.jc, .bool false, .int .i64 0, .int .i64 1, .int .i64 100, .int .i64 L.pow, .slice L.pa L.ps.length L.pc, .slice none 0 0] 42)).alloc (.cells #[.int .i64 0, .slice (some ⟨x.sb, 0, none⟩) 1 x.sc, .slice (some ⟨x.lb, 0, none⟩) 1 x.lc] 58)).alloc (.cells #[.int .i64 0] 3)).alloc (.cells #[.int .i64 0] 3)).alloc (.cells #[.int .i64 0] 3)) 3 #[.int .i64 0]; rw [World.size_alloc, World.size_alloc, World.size_alloc, World.size_alloc, World.size_alloc] at this; exact ((this).alloc _).alloc _
  have hG0 : BK w0 (w.heap.size + 6) 42 #[.slice (some ⟨L.ib, 0, none⟩) 1 L.ic, .int .i64 1, .int .i64 0, .int .i64 0, .int .i64 L.ml, .int .i64 L.ll, .slice (some ⟨L.jb, 0, none⟩) 1 L.jc, .bool false, .int .i64 0, .int .i64 1, .int .i64 100, .int .i64 L.pow, .slice L.pa L.ps.length L.pc, .slice none 0 0] := by rw [hw0]; have := BK.new ((((((w.alloc (.cells #[.slice (some ⟨L.ib, 0, none⟩) 1 L.ic, .int .i64 1, .int .i64 0, .int .i64 0, .int .i64 L.ml, .int .i64 L.ll, .slice (some ⟨L.jb, 0, none⟩) 1 L.jc, .bool false, .int .i64 0, .int .i64 1, .int .i64 100, .int .i64 L.pow, .slice L.pa L.ps.length L.pc, .slice none 0 0] 42)).alloc (.cells #[.int .i64 0, .slice (some ⟨x.sb, 0, none⟩) 1 x.sc, .slice (some ⟨x.lb, 0, none⟩) 1 x.lc] 58)).alloc (.cells #[.int .i64 0] 3)).alloc (.cells #[.int .i64 0] 3)).alloc (.cells #[.int .i64 0] 3)).alloc (.cells #[.int .i64 0] 3)) 42 #[.slice (some ⟨L.ib, 0, none⟩) 1 L.ic, .int .i64 1, .int .i64 0, .int .i64 0, .int .i64 L.ml, .int .i64 L.ll, .slice (some ⟨L.jb, 0, none⟩) 1 L.jc, .bool false, .int .i64 0, .int .i64 1, .int .i64 100, .int .i64 L.pow, .slice L.pa L.ps.length L.pc, .slice none 0 0]; rw [World.size_alloc, World.size_alloc, World.size_alloc, World.size_alloc, World.size_alloc, World.size_alloc] at this; exact (this).alloc _
  have hH0 : BK w0 (w.heap.size + 7) 3 #[.int .i64 0] := by rw [hw0]; have := BK.new (((((((w.alloc (.cells #[.slice (some ⟨L.ib, 0, none⟩) 1 L.ic, .int .i64 1, .int .i64 0, .int .i64 0, .int .i64 L.ml, .int .i64 L.ll, .slice (some ⟨L.jb, 0, none⟩) 1 L.jc, .bool false, .int .i64 0, .int .i64 1, .int .i64 100, .int .i64 L.pow, .slice L.pa L.ps.length L.pc, .slice none 0 0] 42)).alloc (.cells #[.int .i64 0, .slice (some ⟨x.sb, 0, none⟩) 1 x.sc, .slice (some ⟨x.lb, 0, none⟩) 1 x.lc] 58)).alloc (.cells #[.int .i64 0] 3)).alloc (.cells #[.int .i64 0] 3)).alloc (.cells #[.int .i64 0] 3)).alloc (.cells #[.int .i64 0] 3)).alloc (.cells #[.slice (some ⟨L.ib, 0, none⟩) 1 L.ic, .int .i64 1, .int .i64 0, .int .i64 0, .int .i64 L.ml, .int .i64 L.ll, .slice (some ⟨L.jb, 0, none⟩) 1 L.jc, .bool false, .int .i64 0, .int .i64 1, .int .i64 100, .int .i64 L.pow, .slice L.pa L.ps.length L.pc, .slice none 0 0] 42)) 3 #[.int .i64 0]; rw [World.size_alloc, World.size_alloc, World.size_alloc, World.size_alloc, World.size_alloc, World.size_alloc, World.size_alloc] at this; exact this
  clear hp h
  unfold plA
  refine callsIn_of_wp_marks Tryz.func90 rfl trivial ?_ rfl
  simp only [Tryz.ntmps90, List.size_toArray, List.length_cons, List.length_nil, Nat.reduceAdd, Nat.reduceSub, Array.replicate_succ, Array.replicate_zero, List.push_toArray, List.append_toArray, List.nil_append, List.cons_append]
  gi_wp2_with fail
  refine wpIn_loop_rounds 2 ?_
  rw [roundsIn_succ]
  gi_wp2_with fail
  refine cin ((leg_any L _).mono ?_)
  rintro e w' ⟨rfl, rfl⟩
  gi_wp2_with fail
  have hsz : w0.heap.size = w.heap.size + 8 := by rw [hw0]; simp
  rw [← hw0]
  have HS := Lib.hid hsz
  clear hw0 hsz i0 i1 i2 i3
  have HP0 := Lib.hid (HP.out.grow hB0 hB0.size)
  have HC0 := Lib.hid (HC.out.grow hB0 hB0.size)
  refine wpIn_named (fun a0 ha0 => ?_)
  refine wpIn_rangeFunc_ownH (α := Unit) rfl (by omega) (gf := 162) (lb := #[.pointer (some ⟨w.heap.size + 6, 0, none⟩), .pointer (some ⟨w.heap.size + 7, 0, none⟩)]) (by rw [ha0]; simp [Act.eval]) trivial (enters_of Tryz.func162 (by kernel_rfl) rfl)
    (leg_stops 4 (by omega) (w.heap.size + 6) (w.heap.size + 7) w0.heap.size L w0 hG0 hG0.lt (hH0.cell 0) hH0.lt HP0.out (Nat.le_refl _))
    (fun {A B C} h k => h.trans k) (belowK_b (Nat.le_refl _)) (Below.refl _ _) (fun _ => rfl)
    (fun _ W => Since w0 w0.heap.size W)
    (fun _ _ _ => False)
    (ownFrom_since (Nat.le_refl _))
    (fun _ => ownFrom_pure _ _)
    ⟨Below.refl _ _, Nat.le_refl _⟩
    (fun _ a' _ => a' = { tmps := (a0.tmps.setIfInBounds 28 (.int .i64 0)).setIfInBounds 8 (.int .i64 0), defers := [] })
    (fun _ _ => ownFrom_pure _ _) ?assign ?body ?done ?stop
  case assign =>
    intro l pre e W K hI hK
    rw [ha0] at hK ⊢
    simp only [List.setIfInBounds_toArray, List.set_cons_succ, List.set_cons_zero] at hK ⊢
    gi_wp2
    exact hK _ _ (KeepsFrom.refl _ _) (Below.refl _ _) hI rfl
  case body =>
    rintro l pre e a' W hlW ⟨r, hr⟩ hB rfl hlt
    rw [ha0]
    simp only [List.setIfInBounds_toArray, List.set_cons_succ, List.set_cons_zero]
    have hz := HS.out
    have hz2 := hB.2
    obtain ⟨x0, x1, x2, x3, x4, x5, x6, x7, x8, x9, x10, x11, x12, x13⟩ := bk14 (hA0.below hB.1 hA0.lt)
    obtain ⟨y0, y1, y2⟩ := bk3 (hC0.below hB.1 hC0.lt)
    obtain ⟨l0, l1, l2, l3⟩ := (HC0.out.grow hB.1 (Nat.le_refl _)).ln
    have HPW := Lib.hid (HP0.out.grow hB.1 hB.2)
    gi_wp2_with (refine cinr ((scSide L x _ HPW.out).mono ?_); rintro e w' ⟨rfl, hb2⟩)
    exact ⟨keeps_of_below hb2, hb2.mono hz2, hB.onto hb2⟩
  case done =>
    rintro D ys W hD hys hB hK
    have hz := HS.out
    have c4 := (hE0.below hB.1 hE0.lt).cell 0
    have f4 := (hE0.below hB.1 hE0.lt).frozen 0
    simp only [List.getElem?_toArray, List.getElem?_cons_zero] at c4
    rw [ha0]
    gi_wp2_with fail
    rw [roundsIn_succ]
    gi_wp2_with fail
    have c5 : (W.setCell ⟨w.heap.size + 1 + 1, 0, none⟩ (.int .i64 (-1))).cell? ⟨w.heap.size + 1 + 1, 0, none⟩ = some (.int .i64 (-1)) := World.cell?_setCell_same' _ _ _ (by rw [c4]; rfl)
    have hK2 := (KeepsOthers.setCell W ⟨w.heap.size + 1 + 1, 0, none⟩ (.int .i64 (-1))).same D _ hK rfl
    refine ⟨by simp, .inl ⟨_, _, rfl, run_takeDeferred hK2, ?_⟩⟩
    have c6 := cell_kept c5 (grownBy_putObj' _ D (.deferred none)) (fun r e => by cases e; exact ⟨_, hK2, rfl⟩)
    refine ⟨.int .i64 (-1), by simp [results, Tryz.results90, go_sem, c6], rfl, ?_⟩
    exact ((hB0.trans (hB.1.mono hB0.size)).setCell (p := ⟨w.heap.size + 1 + 1, 0, none⟩) (by simp; omega) _).trans (belowK_b (w := w) (Nat.le_refl _) _ D _ _ (by omega) hK2 rfl rfl)
  case stop =>
    rintro D c pre W hD _ h _
    exact h.elim
theorem scOut (L : PlF) (x : CdV) (w : World) (hp : PD w w.heap.size L) (h : CD w w.heap.size x) :
    Calls Tryz.prog 90 #[plA L, .agg #[.int .i64 0, .slice (some ⟨x.sb, 0, none⟩) 1 x.sc, .slice (some ⟨x.lb, 0, none⟩) 1 x.lc]] w fun e w' => e = .returned (.int .i64 (-1)) ∧ Below w.heap.size w w' := callsIn_wide.1 (out_in L x w hp h)
end Go.Proofs.YtafclpmnpamipaaGreat
