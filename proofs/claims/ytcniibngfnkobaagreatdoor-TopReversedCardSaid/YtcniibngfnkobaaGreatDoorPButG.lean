/- Worlds that differ in one old block (and have grown). Plain theorems over any program. -/
import Derived.Test.YtcniibngfnkobaaGreatDoorPCBase
import Derived.Test.YtcniibngfnkobaaGreatDoorPCRoad
import Derived.Test.YtcniibngfnkobaaGreatDoorPCLeaf
import Derived.Test.YtcniibngfnkobaaGreatDoorPCIter
import Derived.Test.YtcniibngfnkobaaGreatDoorPCCheck
import Derived.Test.YtcniibngfnkobaaGreatDoorPCValid
import Derived.Test.YtcniibngfnkobaaGreatDoorPCReg
import Derived.Test.YtcniibngfnkobaaGreatDoorPCGrouped
import Derived.Test.YtcniibngfnkobaaGreatDoorPCAppS
import Derived.Test.YtcniibngfnkobaaGreatDoorPCCorn
import Derived.Test.YtcniibngfnkobaaGreatDoorPCOpen
import Derived.Test.YtcniibngfnkobaaGreatDoorPCReg8
import Derived.Test.YtcniibngfnkobaaGreatDoorPCBackOk
import Derived.Test.YtcniibngfnkobaaGreatDoorPCOrdM
import Derived.Test.YtcniibngfnkobaaGreatDoorPCRCorn
import Derived.Test.YtcniibngfnkobaaGreatDoorPCRev
import Derived.Test.YtcniibngfnkobaaGreatDoorPCRevR
import Derived.Defers
import Derived.Recover
import Derived.TacticsInMore
import Derived.RegionIn
import Derived.LoopNIn
import Derived.LoopIn
import Derived.RecoverIn
import Derived.OwnWalkIn
import Derived.Laws.EntriesVeiled
import Derived.Test.YtcniibngfnkobaaGreatDoorPNWords
namespace Go.Proofs.YtcniibngfnkobaaGreatDoor
open Go.RowKit Go.Shelf Go.Sort Go.Proofs

/-- All old blocks but m read as before. -/
structure But (m : Nat) (x y : World) : Prop where
  os : y.os = x.os
  tape : y.tape = x.tape
  output : y.output = x.output
  size : x.heap.size ≤ y.heap.size
  block : ∀ b, b < x.heap.size → b ≠ m → y.heap[b]? = x.heap[b]?
section
variable {m : Nat} {W W' : World}
theorem But.refl (m : Nat) (x : World) : But m x x := ⟨rfl, rfl, rfl, Nat.le_refl _, fun _ _ _ => rfl⟩
theorem But.trans {x y z : World} (h : But m x y) (k : But m y z) : But m x z :=
  ⟨k.os.trans h.os, k.tape.trans h.tape, k.output.trans h.output, Nat.le_trans h.size k.size, fun b hb hm => (k.block b (Nat.lt_of_lt_of_le hb h.size) hm).trans (h.block b hb hm)⟩
theorem But.of_below (h : Below W.heap.size W W') : But m W W' := ⟨h.os, h.tape, h.output, h.size, fun b hb _ => h.block b hb⟩
theorem But.setCell {x y : World} (h : But m x y) (o : Nat) (u : Value) : But m x (y.setCell ⟨m, o, none⟩ u) :=
  ⟨h.os, h.tape, h.output, by rw [World.size_setCell]; exact h.size, fun b hb hm => (Below.heap_setCell _ _ _ b hm).trans (h.block b hb hm)⟩
theorem But.grown {x y z : World} (h : But m x y) (k : y.grownBy z (some m)) : But m x z :=
  ⟨k.os.trans h.os, k.tape.trans h.tape, k.output.trans h.output, Nat.le_trans h.size k.size, fun b hb hm => (k.block b (Nat.lt_of_lt_of_le hb h.size) (fun e => hm (by cases e; rfl))).trans (h.block b hb hm)⟩
theorem But.bk (h : But m W W') {b : Nat} {t : TypeId} {cs : Array Value} (hb : BK W b t cs) (hm : b ≠ m) : BK W' b t cs := (h.block b hb.lt hm).trans hb
theorem But.ow (h : But m W W') {α : Type} {f : α → List Value} {sz : Nat} {e : TypeId} {base : Nat} {A : Option Addr} {n c : Nat} {xs : List α} (ho : OW f sz e base W A n c xs) (hm : ∀ g, A = some g → g.block ≠ m) : OW f sz e base W' A n c xs :=
  ho.keep (fun g hg => h.block _ (ho.lt hg).2 (hm g hg))
theorem But.below (h : But m W W') {n0 : Nat} (h1 : n0 ≤ m) (h2 : n0 ≤ W.heap.size) : Below n0 W W' :=
  ⟨h.os, h.tape, h.output, h.size, fun b hb => h.block b (by omega) (by omega)⟩
theorem But.keeps (h : But m W W') {t : TypeId} {cs : Array Value} (hm : BK W m t cs) (B : Nat) : KeepsFrom B W W' :=
  ⟨h.size, fun k o _ hk ho => (h.block k (Array.getElem?_eq_some_iff.1 hk).1 (fun e => by subst e; rw [show W.heap[k]? = _ from hm] at hk; cases hk; cases ho)).trans hk⟩
theorem but_put (m : Nat) (W : World) (o : Obj) (d : Nat) (os : Array Obj) : But m W (grow (redrawn (W.putObj m o) d) os) := by
  have h1 : But m W (W.putObj m o) := ⟨rfl, rfl, rfl, by simp [World.putObj], fun b _ hm => World.putObj_heap_other hm⟩
  exact h1.trans (But.of_below (below_regrown _ d os))
theorem putq (h : But m W W') (hm : m < W.heap.size) {o : Obj} (ho : W'.heap[m]? = some o) : ∃ p : Regrown, W' = grow (redrawn (W.putObj m o) p.d) p.os := by
  refine regrown_of_below ⟨h.os, h.tape, h.output, by simpa [World.putObj] using h.size, fun b hb => ?_⟩
  have hb' : b < W.heap.size := by simpa [World.putObj] using hb
  by_cases e : b = m
  · subst e
    rw [World.putObj_heap_same hm, ho]
  · rw [World.putObj_heap_other e, h.block b hb' e]
end

structure RegO where
  o : Obj
  d : Nat
  os : Array Obj
instance : Inhabited RegO := ⟨⟨.cells #[] 0, 0, #[]⟩⟩
theorem ow_obj {α : Type} {f : α → List Value} {sz : Nat} {e : TypeId} {base : Nat} {w : World} {M n c : Nat} {xs : List α} (h : OW f sz e base w (some ⟨M, 0, none⟩) n c xs) : ∃ cur, w.heap[M]? = some (.cells cur e (0, 0)) := by
  rcases h.1.2 with ⟨h3, _⟩ | ⟨g', cap, cur, h3, _, hg', _⟩
  · cases h3
  · injection h3 with h3
    injection h3 with h3
    injection h3 with h3
    subst h3
    exact ⟨cur, hg'⟩
end Go.Proofs.YtcniibngfnkobaaGreatDoor

/- Reading notes: the deferred closure of note.all, entered while the frame panics and while it returns. -/
namespace Go.Proofs.YtcniibngfnkobaaGreatDoor
open Go.RowKit Go.Shelf Go.Sort Go.Proofs

set_option maxRecDepth 100000 in
theorem catch_idle (n : Nat) (b0 b1 : Nat) (w : World) :
    CallsDIn Fence.wide n Tryz.prog 60 #[.pointer (some ⟨b0, 0, none⟩), .pointer (some ⟨b1, 0, none⟩)] .returning w fun e u' w' => e = .returned (.tuple #[]) ∧ u' = .returning ∧ w' = w := by
  refine callsDIn_of_wpSIn Tryz.func60 rfl trivial fun c₀ cs hu => ?_
  simp only [Tryz.ntmps60, List.size_toArray, List.length_cons, List.length_nil, Nat.reduceAdd, Nat.reduceSub, Array.replicate_succ, Array.replicate_zero, List.push_toArray, List.append_toArray, List.nil_append, List.cons_append]
  apply wpSIn_seq
  apply wpSIn_region
  simp [wpOpsSIn, go_sem, recoverD, hu, Exit.thenS]
  refine wpSIn_of_wpIn rfl ?_
  gi_wp2_with fail
  cases c₀
  simp_all [bodyPostS, results, Tryz.results60]
theorem ta_unread (v : Value) (w : World) : (Instr.typeAssert (.iface 124 v) 20 124 true).run Tryz.prog w = .ok (.tuple #[v, .bool true]) w := by kernel_rfl
set_option maxRecDepth 100000 in
set_option maxHeartbeats 4000000 in
theorem catch_unread (n : Nat) (b0 b1 : Nat) (v0 v1 : Value) (older : List PanicEntry) (w : World) (h0 : BK w b0 38 #[v0]) (h1 : BK w b1 35 #[v1]) (hne : b0 ≠ b1) :
    CallsDIn Fence.wide n Tryz.prog 60 #[.pointer (some ⟨b0, 0, none⟩), .pointer (some ⟨b1, 0, none⟩)] (.panicking ({ v := .iface 124 (.agg #[.int .i64 3]), recovered := false } :: older)) w fun e u' w' =>
      e = .returned (.tuple #[]) ∧ u' = .panicking ({ v := .iface 124 (.agg #[.int .i64 3]), recovered := true } :: older) ∧ BK w' b0 38 #[.slice none 0 0] ∧ BK w' b1 35 #[.int .i64 3] ∧
        (∀ m, m ≤ b0 → m ≤ b1 → m ≤ w.heap.size → Below m w w') ∧ (∀ k, k ≠ b0 → k ≠ b1 → k < w.heap.size → w'.heap[k]? = w.heap[k]?) := by
  refine callsDIn_of_wpSIn Tryz.func60 rfl trivial fun c₀ cs hu => ?_
  have hmo : Tryz.prog.follows .mixedOrders = true := by kernel_rfl
  simp only [Tryz.ntmps60, List.size_toArray, List.length_cons, List.length_nil, Nat.reduceAdd, Nat.reduceSub, Array.replicate_succ, Array.replicate_zero, List.push_toArray, List.append_toArray, List.nil_append, List.cons_append]
  apply wpSIn_seq
  apply wpSIn_region
  simp [wpOpsSIn, go_sem, recoverD, hu, Exit.thenS]
  have hta := ta_unread
  refine wpSIn_of_wpIn rfl ?_
  gi_wp2_with fail
  have c0 := h0.cell 0
  have f0 := h0.frozen 0
  have c1 := h1.cell 0
  have f1 := h1.frozen 0
  have hl0 := h0.lt
  have hl1 := h1.lt
  simp only [List.getElem?_toArray, List.getElem?_cons_zero] at c0 c1
  gi_region
  all_goals gi_wp2_with fail
  have hA : BK (((w.setCell ⟨b0, 0, none⟩ (.slice none 0 0)).setCell ⟨b1, 0, none⟩ (.int .i64 3)).alloc (.cells #[.int .i64 3] 124)).drew b0 38 #[.slice none 0 0] := (((h0.set_ 0 _).far (p := ⟨b1, 0, none⟩) hne _).alloc _).drew
  have hB : BK (((w.setCell ⟨b0, 0, none⟩ (.slice none 0 0)).setCell ⟨b1, 0, none⟩ (.int .i64 3)).alloc (.cells #[.int .i64 3] 124)).drew b1 35 #[.int .i64 3] := (((h1.far (p := ⟨b0, 0, none⟩) (Ne.symm hne) _).set_ 0 _).alloc _).drew
  refine ⟨rfl, _, rfl, .tuple #[], by simp [results, Tryz.results60, go_sem], rfl, rfl, hA, hB, fun m m0 m1 mw => ?_, fun k k0 k1 kw => ?_⟩
  · exact ((((Below.refl m w).setCell (p := ⟨b0, 0, none⟩) m0 _).setCell (p := ⟨b1, 0, none⟩) m1 _).alloc (by simpa using mw) _).drew
  · exact (Below.heap_alloc _ _ _ (by simpa using kw)).trans ((Below.heap_setCell _ _ _ k (by simpa using k1)).trans (Below.heap_setCell _ _ _ k (by simpa using k0)))
end Go.Proofs.YtcniibngfnkobaaGreatDoor
