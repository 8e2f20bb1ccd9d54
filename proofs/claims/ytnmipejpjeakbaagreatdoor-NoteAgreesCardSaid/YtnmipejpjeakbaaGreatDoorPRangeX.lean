/- A range over a function whose iterator turns a box of its own (block X) between two rounds; the body never leaves the loop. A theorem over any program. -/
import Derived.RangeFuncNested
import Derived.RangeFuncBound
import Derived.RangeFuncCalls
import Derived.RangeFuncLeaves
import Derived.Test.YtnmipejpjeakbaaGreatDoorPCBase
import Derived.Test.YtnmipejpjeakbaaGreatDoorPCValid
import Derived.Test.YtnmipejpjeakbaaGreatDoorPCCheck
import Derived.Test.YtnmipejpjeakbaaGreatDoorPCReg
import Derived.Test.YtnmipejpjeakbaaGreatDoorPCGrouped
import Derived.Test.YtnmipejpjeakbaaGreatDoorPCAppS
import Derived.Test.YtnmipejpjeakbaaGreatDoorPCCorn
import Derived.Test.YtnmipejpjeakbaaGreatDoorPCReg8
import Derived.Test.YtnmipejpjeakbaaGreatDoorPDReg
import Derived.Test.YtnmipejpjeakbaaGreatDoorPNRead4
import Derived.Test.YtnmipejpjeakbaaGreatDoorPReadR
import Derived.Defers
import Derived.Recover
import Derived.TacticsInMore
import Derived.RegionIn
import Derived.LoopNIn
import Derived.LoopIn
import Derived.RecoverIn
import Derived.OwnWalkIn
import Derived.Laws.EntriesVeiled
namespace Go.Proofs.YtnmipejpjeakbaaGreatDoor
open Go.RowKit

section
variable {F : Fence} {n : Nat} {P : Program}
/-- What an iterator owes that turns block X alone of the elder cells: it hands its values to the rounds, one after the other, and nobody stops it. -/
def SeqBox {α : Type} (F : Fence) (n : Nat) (P : Program) (gf : Nat) (lb : Array Value) (encs : α → Array Value) (X : Nat) (Kp : World → World → Prop) (S : List α → Prop) (N : Nat) (w : World) : Prop :=
  ∀ (l : Nat) (J : List α → World → Prop) (W : World), Below w.heap.size w W → (∀ s A B, J s A → A.grownBy B (some X) → J s B) →
    (∀ pre x W1, J pre W1 → pre.length < N → YieldAt F (n - 1) P l (encs x) W1 fun e W' => e = .returned (.bool true) ∧ J (pre ++ [x]) W' ∧ Kp W1 W') → J [] W →
    CallsIn F n P gf (#[.func (.yield l) #[] #[]] ++ lb) W fun e W' => (∃ v, e = .returned v) ∧ ∃ xs, S xs ∧ J xs W'
theorem wpIn_rangeFunc_box {α : Type} {g : Operand} {ps : Array Tmp} {assign body : Code} {Q : Exit → Act → World → Prop} {a : Act} {w : World} (X : Nat) (hX : X < w.heap.size)
    (hro : F.round = none) (h1 : 1 ≤ n) {gf : Nat} {lb : Array Value} (hg : a.eval g = .func (.func gf) #[] lb) (hFg : F.fn gf) (eg : ∀ args w, (callFunc gf args).run P w = .ok (.enter gf args) w)
    {encs : α → Array Value} {Kp : World → World → Prop} {S : List α → Prop} {N : Nat} (hseq : SeqBox F (n - 1) P gf lb encs X Kp S N w)
    (hKt : ∀ {A B C : World}, Kp A B → Kp B C → Kp A C) (hKb : ∀ (W : World) (l : Nat) (o o' : Obj), w.heap.size ≤ l → W.heap[l]? = some o → o.isCells = false → o.isWalk = false → Kp W (W.putObj l o')) (hps : ∀ x, (encs x).size = ps.size)
    (I : List α → World → Prop) (hI : OwnFrom w.heap.size I) (hIg : ∀ s A B, I s A → A.grownBy B (some X) → I s B) (h0 : I [] w) (a₁ : α → Act)
    (hassign : ∀ (l : Nat) (x : α) (W : World) (K : Act → World → Prop), K (a₁ x) W → assign.wpIn (F.inRound l) (n - 1 - 1) P (Exit.then K (fun _ _ _ => False)) { tmps := (ps.zip (encs x)).foldl (fun t (p, v) => t.setIfInBounds p v) a.tmps, defers := [] } W)
    (hbody : ∀ (l : Nat) (pre : List α) (x : α) (W : World), I pre W → pre.length < N → body.wpIn (F.inRound l) (n - 1 - 1) P (fun e _ W' => e = .normal ∧ KeepsFrom w.heap.size W W' ∧ Kp W W' ∧ I (pre ++ [x]) W') (a₁ x) W)
    (hdone : ∀ (D : Nat) (xs : List α) (W : World), w.heap.size ≤ D → S xs → I xs W → W.heap[D]? = some (.deferred (some [])) → Q .normal { a with defers := { target := .collected D, args := #[] } :: a.defers } W) :
    (Code.rangeFunc g ps assign body).wpIn F n P Q a w := by
  refine wpIn_rangeFunc fun fn hfn => ?_
  rw [hro]
  obtain ⟨m, hm⟩ : ∃ m, m = w.heap.size := ⟨_, rfl⟩
  rw [← hm] at hX hKb hI hbody hdone
  -- the loop's record as it stands between two rounds, within one, and behind the last
  obtain ⟨R, hR⟩ : ∃ R : LoopState → Loop, R = fun st => { state := st, pending := none, fn, tmps := a.tmps, params := ps, assign, body, defers := m } := ⟨_, rfl⟩
  obtain ⟨V, hV⟩ : ∃ V, V = (w.alloc (.deferred (some []))).alloc (.loop (R .ready)) := ⟨_, rfl⟩
  have vD : V.heap[m]? = some (.deferred (some [])) := by rw [hV, hm]; exact (Below.heap_alloc _ _ _ (by simp)).trans (World.alloc_heap_new w _)
  have vL : V.heap[m + 1]? = some (.loop (R .ready)) := by
    have h := World.alloc_heap_new (w.alloc (.deferred (some []))) (.loop (R .ready))
    rw [World.size_alloc, ← hm] at h
    rw [hV]; exact h
  have vB : Below w.heap.size w V := by rw [hV]; exact ((Below.refl _ w).alloc (Nat.le_refl _) _).alloc (by simp) _
  have vI : I [] V := by rw [hV]; exact hI.alloc _ (hI.alloc _ h0)
  refine ⟨m + 1, [{ target := .collected m, args := #[] }], V, { target := .fn (.func gf) lb, args := #[.func (.yield (m + 1)) #[] #[]] }, V, gf, #[.func (.yield (m + 1)) #[] #[]] ++ lb, V, ?_, ?_, ?_, ?_, fun _ => h1, ?_⟩
  · rw [hV, hR, hm]; exact run_enterLoop_outer _ _ _ _ _
  · simp only [resolve, hg]; simp [go_sem]
  · intro f' hf'; simp [Target.leads] at hf'; subst hf'; exact hFg
  · simp [invoke, go_sem, eg]
  -- what the iterator is asked to carry: the caller's own, the record and the block of deferred calls
  refine (hseq (m + 1) (fun s W => I s W ∧ W.heap[m + 1]? = some (.loop (R .ready)) ∧ W.heap[m]? = some (.deferred (some []))) V vB (fun s A B hs hAB => ?_) ?_ ⟨vI, vL, vD⟩).mono ?_
  · obtain ⟨s1, s2, s3⟩ := hs
    exact ⟨hIg s A B s1 hAB, (hAB.block _ (Array.getElem?_eq_some_iff.1 s2).1 (by simp; omega)).trans s2, (hAB.block _ (Array.getElem?_eq_some_iff.1 s3).1 (by simp; omega)).trans s3⟩
  · rintro pre x W ⟨i1, i2, i3⟩ hlen
    have lt2 := (Array.getElem?_eq_some_iff.1 i2).1
    have yld := run_yield (P := P) (args := encs x) i2 (by rw [hR]; exact hps x)
    rw [hR] at yld
    refine ⟨fn, _, assign, body, yld, roundIn_of_wpIn hfn (hassign _ x W _ ?_)⟩
    obtain ⟨Z, hZ⟩ : ∃ Z, Z = W.putObj (m + 1) (.loop { R .ready with state := .busy }) := ⟨_, rfl⟩
    refine ⟨Z, by rw [hZ]; exact run_beginRound i2 (by rw [hR]), ?_⟩
    have zL : Z.heap[m + 1]? = some (.loop { R .ready with state := .busy }) := by rw [hZ]; exact World.putObj_heap_same lt2
    have zD : Z.heap[m]? = some (.deferred (some [])) := by rw [hZ]; exact (World.putObj_heap_other (by omega)).trans i3
    have zK : Kp W Z := by rw [hZ]; exact hKb _ _ _ _ (by omega) i2 rfl rfl
    have zI : I pre Z := by rw [hZ]; exact hI.putObj _ i1 (by omega) i2 rfl
    refine wpIn_mono (hbody _ pre x Z zI hlen) ?_
    rintro e a3 W3 ⟨rfl, b1, b2, b3⟩
    have wL := b1.same _ _ (by omega) zL rfl
    have wD := b1.same _ _ (Nat.le_refl _) zD rfl
    have lt3 := (Array.getElem?_eq_some_iff.1 wL).1
    have er := run_endRound (P := P) none wL
    refine ⟨_, _, er, by simp, ⟨hI.putObj _ b3 (by omega) wL rfl, ?_, (World.putObj_heap_other (by omega)).trans wD⟩, hKt zK (hKt b2 (hKb _ _ _ _ (by omega) wL rfl rfl))⟩
    refine (World.putObj_heap_same lt3).trans ?_
    rw [hR]
    rfl
  · rintro e W2 ⟨⟨v, rfl⟩, xs, hS, i1, i2, i3⟩
    have el := run_endLoop (P := P) i2 (by rw [hR]; simp)
    rw [hR] at el
    exact ⟨none, _, el, hdone m xs _ (Nat.le_refl _) hS (hI.putObj _ i1 (by omega) i2 rfl) ((World.putObj_heap_other (by omega)).trans i3)⟩
end
end Go.Proofs.YtnmipejpjeakbaaGreatDoor

/- Worlds that differ in one old block (and have grown). Plain theorems over any program. -/
namespace Go.Proofs.YtnmipejpjeakbaaGreatDoor
open Go.RowKit Go.Shelf Go.Sort Go.Proofs

/-- All old blocks but m read as before. -/
structure But (m : Nat) (x y : World) : Prop where
  os : y.os = x.os
  tape : y.tape = x.tape
  output : y.output = x.output
  size : x.heap.size ≤ y.heap.size
  block : ∀ b, b < x.heap.size → b ≠ m → y.heap[b]? = x.heap[b]?
section
variable {m : Nat} {W W' : World}
theorem But.refl (m : Nat) (x : World) : But m x x := ⟨rfl, rfl, rfl, Nat.le_refl _, fun _ _ _ => rfl⟩
theorem But.trans {x y z : World} (h : But m x y) (k : But m y z) : But m x z :=
  ⟨k.os.trans h.os, k.tape.trans h.tape, k.output.trans h.output, Nat.le_trans h.size k.size, fun b hb hm => (k.block b (Nat.lt_of_lt_of_le hb h.size) hm).trans (h.block b hb hm)⟩
theorem But.of_below (h : Below W.heap.size W W') : But m W W' := ⟨h.os, h.tape, h.output, h.size, fun b hb _ => h.block b hb⟩
theorem But.setCell {x y : World} (h : But m x y) (o : Nat) (u : Value) : But m x (y.setCell ⟨m, o, none⟩ u) :=
  ⟨h.os, h.tape, h.output, by rw [World.size_setCell]; exact h.size, fun b hb hm => (Below.heap_setCell _ _ _ b hm).trans (h.block b hb hm)⟩
theorem But.grown {x y z : World} (h : But m x y) (k : y.grownBy z (some m)) : But m x z :=
  ⟨k.os.trans h.os, k.tape.trans h.tape, k.output.trans h.output, Nat.le_trans h.size k.size, fun b hb hm => (k.block b (Nat.lt_of_lt_of_le hb h.size) (fun e => hm (by cases e; rfl))).trans (h.block b hb hm)⟩
theorem But.bk (h : But m W W') {b : Nat} {t : TypeId} {cs : Array Value} (hb : BK W b t cs) (hm : b ≠ m) : BK W' b t cs := (h.block b hb.lt hm).trans hb
theorem But.ow (h : But m W W') {α : Type} {f : α → List Value} {sz : Nat} {e : TypeId} {base : Nat} {A : Option Addr} {n c : Nat} {xs : List α} (ho : OW f sz e base W A n c xs) (hm : ∀ g, A = some g → g.block ≠ m) : OW f sz e base W' A n c xs :=
  ho.keep (fun g hg => h.block _ (ho.lt hg).2 (hm g hg))
theorem But.below (h : But m W W') {n0 : Nat} (h1 : n0 ≤ m) (h2 : n0 ≤ W.heap.size) : Below n0 W W' :=
  ⟨h.os, h.tape, h.output, h.size, fun b hb => h.block b (by omega) (by omega)⟩
theorem But.keeps (h : But m W W') {t : TypeId} {cs : Array Value} (hm : BK W m t cs) (B : Nat) : KeepsFrom B W W' :=
  ⟨h.size, fun k o _ hk ho => (h.block k (Array.getElem?_eq_some_iff.1 hk).1 (fun e => by subst e; rw [show W.heap[k]? = _ from hm] at hk; cases hk; cases ho)).trans hk⟩
theorem but_put (m : Nat) (W : World) (o : Obj) (d : Nat) (os : Array Obj) : But m W (grow (redrawn (W.putObj m o) d) os) := by
  have h1 : But m W (W.putObj m o) := ⟨rfl, rfl, rfl, by simp [World.putObj], fun b _ hm => World.putObj_heap_other hm⟩
  exact h1.trans (But.of_below (below_regrown _ d os))
theorem putq (h : But m W W') (hm : m < W.heap.size) {o : Obj} (ho : W'.heap[m]? = some o) : ∃ p : Regrown, W' = grow (redrawn (W.putObj m o) p.d) p.os := by
  refine regrown_of_below ⟨h.os, h.tape, h.output, by simpa [World.putObj] using h.size, fun b hb => ?_⟩
  have hb' : b < W.heap.size := by simpa [World.putObj] using hb
  by_cases e : b = m
  · subst e
    rw [World.putObj_heap_same hm, ho]
  · rw [World.putObj_heap_other e, h.block b hb' e]
end

structure RegO where
  o : Obj
  d : Nat
  os : Array Obj
instance : Inhabited RegO := ⟨⟨.cells #[] 0, 0, #[]⟩⟩
theorem ow_obj {α : Type} {f : α → List Value} {sz : Nat} {e : TypeId} {base : Nat} {w : World} {M n c : Nat} {xs : List α} (h : OW f sz e base w (some ⟨M, 0, none⟩) n c xs) : ∃ cur, w.heap[M]? = some (.cells cur e (0, 0)) := by
  rcases h.1.2 with ⟨h3, _⟩ | ⟨g', cap, cur, h3, _, hg', _⟩
  · cases h3
  · injection h3 with h3
    injection h3 with h3
    injection h3 with h3
    subst h3
    exact ⟨cur, hg'⟩
end Go.Proofs.YtnmipejpjeakbaaGreatDoor

/- The words of a text: strings.Cut at a blank; the iterator that yields them. -/
namespace Go.Proofs.YtnmipejpjeakbaaGreatDoor
open Go.RowKit Go.Shelf Go.Sort Go.Proofs

attribute [local go_sem] Oper.semAt_some
/-- A text cut at its first blank. -/
def cutB : List UInt8 → List UInt8 × List UInt8 × Bool
  | [] => ([], [], false)
  | b :: r => if b = 32 then ([], r, true) else (b :: (cutB r).1, (cutB r).2.1, (cutB r).2.2)
theorem cutB_no : ∀ (s : List UInt8), (cutB s).2.2 = false → cutB s = (s, [], false) ∧ splitB s = [s]
  | [], _ => ⟨rfl, rfl⟩
  | b :: r, h => by
    unfold cutB at h ⊢
    split at h
    · cases h
    · rename_i hb
      obtain ⟨h1, h2⟩ := cutB_no r h
      rw [if_neg hb, h1]
      refine ⟨rfl, ?_⟩
      unfold splitB
      rw [if_neg hb, h2]
theorem cutB_yes : ∀ (s : List UInt8), (cutB s).2.2 = true → s = (cutB s).1 ++ 32 :: (cutB s).2.1 ∧ splitB s = (cutB s).1 :: splitB (cutB s).2.1 ∧ 32 ∉ (cutB s).1
  | [], h => by cases h
  | b :: r, h => by
    unfold cutB at h ⊢
    split at h
    · rename_i hb
      rw [if_pos hb, hb]
      refine ⟨rfl, ?_, by simp⟩
      rw [splitB, if_pos rfl]
    · rename_i hb
      obtain ⟨h1, h2, h3⟩ := cutB_yes r h
      rw [if_neg hb]
      refine ⟨by rw [List.cons_append, ← h1], ?_, by simp only [List.mem_cons, not_or]; exact ⟨fun hh => hb hh.symm, h3⟩⟩
      conv => lhs; unfold splitB
      rw [if_neg hb, h2]
theorem cutB_len (s : List UInt8) : (cutB s).1.length ≤ s.length ∧ (cutB s).2.1.length ≤ s.length := by
  cases h : (cutB s).2.2 with
  | false => rw [(cutB_no s h).1]; exact ⟨Nat.le_refl _, by simp⟩
  | true =>
    have := congrArg List.length (cutB_yes s h).1
    simp at this
    omega
theorem cutB_ix : ∀ (s : List UInt8), Lib.indexByte s 32 = if (cutB s).2.2 then ((cutB s).1.length : Int) else -1
  | [] => rfl
  | b :: r => by
    have ih := cutB_ix r
    unfold Lib.indexByte cutB
    by_cases hb : b = 32
    · subst hb
      simp
    · have hb2 : (b == 32) = false := by simpa using hb
      rw [hb2, if_neg hb]
      simp only [Bool.false_eq_true, if_false]
      rw [ih]
      cases (cutB r).2.2 with
      | false => simp
      | true =>
        simp only [if_true]
        rw [if_neg (by simp)]
        simp only [List.length_cons]
        omega
theorem nbs_extract (s : List UInt8) (a b : Nat) : (nbs s).extract a b = nbs ((s.drop a).take (b - a)) := by
  apply ByteArray.ext
  rw [ByteArray.data_extract]
  apply Array.ext'
  simp [nbs]
set_option maxRecDepth 100000 in
theorem slcut_any (s : List UInt8) (hl : s.length ≤ 1000000) (w : World) :
    Calls Tryz.prog 122 #[.string (nbs s), .string (ByteArray.mk #[32])] w fun e w' => e = .returned (.tuple #[.string (nbs (cutB s).1), .string (nbs (cutB s).2.1), .bool (cutB s).2.2]) ∧ Below w.heap.size w w' := by
  have hix := sh_stringslite_Index_one (nbs s) 32 w
  rw [show (nbs s).data.toList = s by simp [nbs], cutB_ix] at hix
  cases h : (cutB s).2.2 with
  | false =>
    have hc := Lib.hid (cutB_no s h).1
    rw [h] at hix
    simp only [Bool.false_eq_true, if_false] at hix
    go_enter Tryz.func122, Tryz.ntmps122
    go_wp2_with (go_at_call 133; refine hix.mono ?_; rintro e w' ⟨rfl, rfl⟩)
    go_ret3
    exact ⟨by rw [hc.out]; rfl, Below.refl _ _⟩
  | true =>
    have hc := Lib.hid (cutB_yes s h).1
    have hle := Lib.hid (cutB_len s).1
    rw [h] at hix
    simp only [if_true] at hix
    obtain ⟨i, hi⟩ : ∃ i, i = (cutB s).1.length := ⟨_, rfl⟩
    rw [← hi] at hix
    have HI := Lib.hid hi
    have hz := nbs_size s
    have hlen : i + 1 ≤ s.length := by
      have := congrArg List.length hc.out
      simp at this
      omega
    clear hi
    have h32 : (ByteArray.mk #[(32 : UInt8)]).size = 1 := rfl
    have c1 : (0 : Int) ≤ (i : Int) := by omega
    have c2 : (i : Int) ≤ ((nbs s).size : Int) := by rw [hz]; omega
    have c3 : (0 : Int) ≤ (i : Int) + 1 := by omega
    have c4 : (i : Int) + 1 ≤ ((nbs s).size : Int) := by rw [hz]; omega
    have mixed : Tryz.prog.follows .mixedOrders = true := by kernel_rfl
    clear hz
    have e1 : Hid ((nbs s).extract 0 i = nbs (cutB s).1) := by
      show _ = _
      rw [nbs_extract, HI.out, List.drop_zero, Nat.sub_zero]
      have h2 := congrArg (List.take (cutB s).1.length) hc.out
      rw [h2]
      simp
    have e2 : Hid ((nbs s).extract (i + 1) (nbs s).size = nbs (cutB s).2.1) := by
      show _ = _
      rw [nbs_extract, nbs_size, List.take_of_length_le (by simp), HI.out]
      have h2 := congrArg (List.drop ((cutB s).1.length + 1)) hc.out
      rw [h2]
      simp
    go_enter Tryz.func122, Tryz.ntmps122
    go_wp2_with (go_at_call 133; refine hix.mono ?_; rintro e w' ⟨rfl, rfl⟩)
    go_region_o
    go_wp2
    go_ret3
    exact ⟨by rw [← e1.out, ← e2.out]; rfl, (Below.refl _ _).drew⟩
theorem cut_any (s : List UInt8) (hl : s.length ≤ 1000000) (w : World) :
    Calls Tryz.prog 101 #[.string (nbs s), .string (ByteArray.mk #[32])] w fun e w' => e = .returned (.tuple #[.string (nbs (cutB s).1), .string (nbs (cutB s).2.1), .bool (cutB s).2.2]) ∧ Below w.heap.size w w' := by
  go_enter Tryz.func101, Tryz.ntmps101
  go_wp2_with (go_at_call 122; refine (slcut_any s hl _).mono ?_; rintro e w' ⟨rfl, hb⟩)
  go_ret3
  exact ⟨rfl, hb⟩
theorem words_any (s : List UInt8) (w : World) :
    Calls Tryz.prog 80 #[.string (nbs s)] w fun e w' => e = .returned (.func (.func 100) #[] #[.pointer (some ⟨w.heap.size, 0, none⟩)]) ∧ w' = w.alloc (.cells #[.string (nbs s)] 9) := by
  go_enter Tryz.func80, Tryz.ntmps80
  go_wp2
  go_ret
  exact ⟨rfl, rfl⟩
theorem splitB_len (s : List UInt8) : (splitB s).length ≤ s.length + 1 := by
  induction s with
  | nil => simp [splitB]
  | cons b r ih =>
    unfold splitB
    split
    · simp; omega
    · split
      · simp
      · rename_i x xs he
        rw [he] at ih
        simp at ih ⊢
        omega
def boxLen (w : World) (sb : Nat) : Nat := match w.cell? ⟨sb, 0, none⟩ with | some (.string b) => b.size | _ => 0
theorem boxLen_bk {w : World} {sb : Nat} {t : TypeId} {r : List UInt8} (h : BK w sb t #[.string (nbs r)]) : boxLen w sb = r.length := by
  have c := h.cell 0
  simp only [List.getElem?_toArray, List.getElem?_cons_zero] at c
  unfold boxLen
  rw [c]
  exact nbs_size r
theorem nil_beq (r : List UInt8) : ((nbs r).toList == ([] : List UInt8)) = r.isEmpty := by
  rw [ByteArray.toList_eq]
  cases r <;> rfl
theorem nil_beq2 (r : List UInt8) : ((nbs r).toList == (ByteArray.mk #[]).toList) = r.isEmpty := by
  rw [ByteArray.toList_eq, ByteArray.toList_eq]
  cases r <;> rfl
/-- The round keeps the iterator's box. -/
def KX (sb : Nat) (W W' : World) : Prop := W'.heap[sb]? = W.heap[sb]?
set_option maxRecDepth 100000 in
set_option maxHeartbeats 4000000 in
theorem words1_box (n : Nat) (hn : 1 ≤ n) (s0 : List UInt8) (hl : s0.length ≤ 1000000) (sb : Nat) (w : World) (hbx : BK w sb 9 #[.string (nbs s0)]) :
    SeqBox Fence.wide n Tryz.prog 100 #[.pointer (some ⟨sb, 0, none⟩)] (fun x : Wd => #[.string (nbs x)]) sb (KX sb) (fun xs => xs = wordsB s0) (s0.length + 1) w := by
  intro l J W hbW hJX hY h0
  have hS0 := hbx.below hbW hbx.lt
  have hSL := splitB_len s0
  clear hbx
  refine callsIn_of_wp Tryz.func100 rfl trivial ?_ rfl
  simp only [Tryz.ntmps100, List.size_toArray, List.length_cons, List.length_nil, Nat.reduceAdd, Nat.reduceSub, Array.replicate_succ, Array.replicate_zero, List.push_toArray, List.append_toArray, List.nil_append, List.cons_append]
  gi_wp2_with fail
  gi_loopw [3] (fun _ wr => ∃ (r : List UInt8) (pre : List Wd), Hid ((r = [] ∧ wordsB s0 = pre) ∨ (r ≠ [] ∧ s0 ≠ [] ∧ splitB s0 = pre ++ splitB r)) ∧ r.length ≤ s0.length ∧ BK wr sb 9 #[.string (nbs r)] ∧ J pre wr)
    (fun _ wr => boxLen wr sb)
  case atStart =>
    refine ⟨s0, [], ?_, Nat.le_refl _, hS0, h0⟩
    show _ ∨ _
    by_cases hs : s0 = []
    · exact .inl ⟨hs, by unfold wordsB; rw [if_pos hs]⟩
    · exact .inr ⟨hs, hs, rfl⟩
  case round =>
    obtain ⟨r, pre, HW, hrl, hS, hJ⟩ := hrel
    have c0 := hS.cell 0
    have f0 := hS.frozen 0
    simp only [List.getElem?_toArray, List.getElem?_cons_zero] at c0
    by_cases hr : r = []
    · have g1 : ((nbs r).toList == ([] : List UInt8)) = true := by rw [nil_beq, hr]; rfl
      have g2 : ((nbs r).toList == (ByteArray.mk #[]).toList) = true := by rw [nil_beq2, hr]; rfl
      have HX : Hid (pre = wordsB s0) := by
        rcases HW.out with h | h
        · exact h.2.symm
        · exact absurd hr h.1
      clear HW hr
      gi_wp2_with fail
      go_end0
      exact ⟨⟨_, rfl⟩, pre, HX.out, hJ⟩
    · have g1 : ((nbs r).toList == ([] : List UInt8)) = false := by rw [nil_beq]; cases r with | nil => exact absurd rfl hr | cons b t => rfl
      have g2 : ((nbs r).toList == (ByteArray.mk #[]).toList) = false := by rw [nil_beq2]; cases r with | nil => exact absurd rfl hr | cons b t => rfl
      have HX : Hid (s0 ≠ [] ∧ splitB s0 = pre ++ splitB r) := by
        rcases HW.out with h | h
        · exact absurd h.1 hr
        · exact h.2
      have HR0 := Lib.hid hr
      clear HW hr
      gi_wp2_with fail
      clear g1 g2
      refine cin ((cut_any r (by omega) wr).mono ?_)
      rintro e w1 ⟨rfl, hk⟩
      have hS1 := hS.below hk hS.lt
      have hJ1 := hJX pre wr w1 hJ ⟨hk.os, hk.tape, hk.output, hk.size, fun k hk' _ => hk.block k hk'⟩
      have HBL : Hid (boxLen wr sb = r.length) := boxLen_bk hS
      clear hS hJ hk c0 f0
      have HLN := Lib.hid (cutB_len r)
      cases hct : (cutB r).2.2 with
      | false =>
        obtain ⟨hc1, hc2⟩ := cutB_no r hct
        rw [hc1]
        have hlen : pre.length < s0.length + 1 := by
          have h1 := congrArg List.length HX.out.2
          rw [hc2] at h1
          simp at h1
          omega
        have HY1 := hY pre r w1 hJ1 hlen
        obtain ⟨fn, tmps, assign, body, hy, hR⟩ := HY1
        have HR := Lib.hid hR
        have HC2 := Lib.hid hc2
        clear hR hc1 hc2 hct hlen HLN
        gi_wp2_with fail
        refine HR.out.mono ?_
        rintro e W3 ⟨rfl, hJ3, hK3⟩
        have hS3 : BK W3 sb 9 #[.string (nbs r)] := hS1.same hK3
        have c3 := hS3.cell 0
        have f3 := hS3.frozen 0
        simp only [List.getElem?_toArray, List.getElem?_cons_zero] at c3
        clear hy HR hJ1 hS1 hK3
        gi_wp2_with fail
        go_roundw
        case rel =>
          refine ⟨[], pre ++ [r], .inl ⟨rfl, ?_⟩, by simp, hS3.set_ 0 _, hJX _ _ _ hJ3 (gset _ _ _)⟩
          unfold wordsB
          rw [if_neg HX.out.1, HX.out.2, HC2.out]
        case measure =>
          rw [HBL.out, boxLen_bk (hS3.set_ 0 (.string (nbs [])))]
          have := HR0.out
          cases r with
          | nil => exact absurd rfl this
          | cons b t => simp
      | true =>
        obtain ⟨hc1, hc2, -⟩ := cutB_yes r hct
        have HC1 := Lib.hid (congrArg List.length hc1)
        have HC2 := Lib.hid hc2
        clear hc1 hc2 hct
        have hl0 : (pre ++ splitB r).length ≤ s0.length + 1 := by rw [← HX.out.2]; exact hSL
        rw [HC2.out] at hl0
        generalize (cutB r).1 = x at *
        generalize (cutB r).2.1 = y at *
        have hpy : 1 ≤ (splitB y).length := List.length_pos_iff.2 (splitB_ne y)
        simp only [List.length_append, List.length_cons] at hl0
        have HY1 := hY pre x w1 hJ1 (by omega)
        obtain ⟨fn, tmps, assign, body, hy, hR⟩ := HY1
        have HR := Lib.hid hR
        clear hR
        by_cases hye : y = []
        · have gy1 : ((nbs y).toList == ([] : List UInt8)) = true := by rw [nil_beq, hye]; rfl
          have gy2 : ((nbs y).toList == (ByteArray.mk #[]).toList) = true := by rw [nil_beq2, hye]; rfl
          have HYE := Lib.hid hye
          have hN2 : (pre ++ [x]).length < s0.length + 1 := by simp; omega
          clear hye
          gi_wp2_with fail
          clear gy1 gy2
          refine HR.out.mono ?_
          rintro e W3 ⟨rfl, hJ3, hK3⟩
          have HY2 := hY (pre ++ [x]) [] W3 hJ3 hN2
          clear hy HR hJ1 hS1 hK3
          obtain ⟨fn2, tmps2, assign2, body2, hy2, hR2⟩ := HY2
          have HR2 := Lib.hid hR2
          replace hy2 : (Instr.yield l #[.string (ByteArray.mk #[])]).run Tryz.prog W3 = .ok (.round l fn2 tmps2 assign2 body2) W3 := hy2
          clear hR2 hJ3
          gi_wp2_with fail
          refine HR2.out.mono ?_
          rintro e W4 ⟨rfl, hJ4, hK4⟩
          clear hy2 HR2
          gi_wp2_with fail
          refine bodyPost_ret (results_none rfl _ _ _) rfl ⟨⟨_, rfl⟩, pre ++ [x] ++ [[]], ?_, hJ4⟩
          unfold wordsB
          rw [if_neg HX.out.1, HX.out.2, HC2.out, HYE.out]
          simp [splitB]
        · have gy1 : ((nbs y).toList == ([] : List UInt8)) = false := by rw [nil_beq]; cases y with | nil => exact absurd rfl hye | cons b t => rfl
          have gy2 : ((nbs y).toList == (ByteArray.mk #[]).toList) = false := by rw [nil_beq2]; cases y with | nil => exact absurd rfl hye | cons b t => rfl
          have HYE := Lib.hid hye
          clear hye
          gi_wp2_with fail
          clear gy1 gy2
          refine HR.out.mono ?_
          rintro e W3 ⟨rfl, hJ3, hK3⟩
          have hS3 : BK W3 sb 9 #[.string (nbs r)] := hS1.same hK3
          have c3 := hS3.cell 0
          have f3 := hS3.frozen 0
          simp only [List.getElem?_toArray, List.getElem?_cons_zero] at c3
          clear hy HR hJ1 hS1 hK3
          gi_wp2_with fail
          go_roundw
          case rel =>
            refine ⟨y, pre ++ [x], .inr ⟨HYE.out, HX.out.1, ?_⟩, by have := HLN.out; omega, hS3.set_ 0 _, hJX _ _ _ hJ3 (gset _ _ _)⟩
            rw [HX.out.2, HC2.out]
            simp
          case measure =>
            rw [HBL.out, boxLen_bk (hS3.set_ 0 (.string (nbs y)))]
            have := HC1.out
            simp at this
            omega
end Go.Proofs.YtnmipejpjeakbaaGreatDoor

/- Reading notes: the deferred closure of note.all, entered while the frame panics and while it returns. -/
namespace Go.Proofs.YtnmipejpjeakbaaGreatDoor
open Go.RowKit Go.Shelf Go.Sort Go.Proofs

set_option maxRecDepth 100000 in
theorem catch_idle (n : Nat) (b0 b1 : Nat) (w : World) :
    CallsDIn Fence.wide n Tryz.prog 79 #[.pointer (some ⟨b0, 0, none⟩), .pointer (some ⟨b1, 0, none⟩)] .returning w fun e u' w' => e = .returned (.tuple #[]) ∧ u' = .returning ∧ w' = w := by
  refine callsDIn_of_wpSIn Tryz.func79 rfl trivial fun c₀ cs hu => ?_
  simp only [Tryz.ntmps79, List.size_toArray, List.length_cons, List.length_nil, Nat.reduceAdd, Nat.reduceSub, Array.replicate_succ, Array.replicate_zero, List.push_toArray, List.append_toArray, List.nil_append, List.cons_append]
  apply wpSIn_seq
  apply wpSIn_region
  simp [wpOpsSIn, go_sem, recoverD, hu, Exit.thenS]
  refine wpSIn_of_wpIn rfl ?_
  gi_wp2_with fail
  cases c₀
  simp_all [bodyPostS, results, Tryz.results79]
theorem ta_unread (v : Value) (w : World) : (Instr.typeAssert (.iface 136 v) 20 136 true).run Tryz.prog w = .ok (.tuple #[v, .bool true]) w := by kernel_rfl
set_option maxRecDepth 100000 in
set_option maxHeartbeats 4000000 in
theorem catch_unread (n : Nat) (b0 b1 : Nat) (v0 v1 : Value) (older : List PanicEntry) (w : World) (h0 : BK w b0 23 #[v0]) (h1 : BK w b1 24 #[v1]) (hne : b0 ≠ b1) :
    CallsDIn Fence.wide n Tryz.prog 79 #[.pointer (some ⟨b0, 0, none⟩), .pointer (some ⟨b1, 0, none⟩)] (.panicking ({ v := .iface 136 (.agg #[.int .i64 3]), recovered := false } :: older)) w fun e u' w' =>
      e = .returned (.tuple #[]) ∧ u' = .panicking ({ v := .iface 136 (.agg #[.int .i64 3]), recovered := true } :: older) ∧ BK w' b0 23 #[.slice none 0 0] ∧ BK w' b1 24 #[.int .i64 3] ∧
        (∀ m, m ≤ b0 → m ≤ b1 → m ≤ w.heap.size → Below m w w') ∧ (∀ k, k ≠ b0 → k ≠ b1 → k < w.heap.size → w'.heap[k]? = w.heap[k]?) := by
  refine callsDIn_of_wpSIn Tryz.func79 rfl trivial fun c₀ cs hu => ?_
  have hmo : Tryz.prog.follows .mixedOrders = true := by kernel_rfl
  simp only [Tryz.ntmps79, List.size_toArray, List.length_cons, List.length_nil, Nat.reduceAdd, Nat.reduceSub, Array.replicate_succ, Array.replicate_zero, List.push_toArray, List.append_toArray, List.nil_append, List.cons_append]
  apply wpSIn_seq
  apply wpSIn_region
  simp [wpOpsSIn, go_sem, recoverD, hu, Exit.thenS]
  have hta := ta_unread
  refine wpSIn_of_wpIn rfl ?_
  gi_wp2_with fail
  have c0 := h0.cell 0
  have f0 := h0.frozen 0
  have c1 := h1.cell 0
  have f1 := h1.frozen 0
  have hl0 := h0.lt
  have hl1 := h1.lt
  simp only [List.getElem?_toArray, List.getElem?_cons_zero] at c0 c1
  gi_region
  all_goals gi_wp2_with fail
  have hA : BK (((w.setCell ⟨b0, 0, none⟩ (.slice none 0 0)).setCell ⟨b1, 0, none⟩ (.int .i64 3)).alloc (.cells #[.int .i64 3] 136)).drew b0 23 #[.slice none 0 0] := (((h0.set_ 0 _).far (p := ⟨b1, 0, none⟩) hne _).alloc _).drew
  have hB : BK (((w.setCell ⟨b0, 0, none⟩ (.slice none 0 0)).setCell ⟨b1, 0, none⟩ (.int .i64 3)).alloc (.cells #[.int .i64 3] 136)).drew b1 24 #[.int .i64 3] := (((h1.far (p := ⟨b0, 0, none⟩) (Ne.symm hne) _).set_ 0 _).alloc _).drew
  refine ⟨rfl, _, rfl, .tuple #[], by simp [results, Tryz.results79, go_sem], rfl, rfl, hA, hB, fun m m0 m1 mw => ?_, fun k k0 k1 kw => ?_⟩
  · exact ((((Below.refl m w).setCell (p := ⟨b0, 0, none⟩) m0 _).setCell (p := ⟨b1, 0, none⟩) m1 _).alloc (by simpa using mw) _).drew
  · exact (Below.heap_alloc _ _ _ (by simpa using kw)).trans ((Below.heap_setCell _ _ _ k (by simpa using k1)).trans (Below.heap_setCell _ _ _ k (by simpa using k0)))
end Go.Proofs.YtnmipejpjeakbaaGreatDoor
