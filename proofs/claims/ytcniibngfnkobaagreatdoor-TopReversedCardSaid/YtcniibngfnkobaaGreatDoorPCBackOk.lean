/- What a round of an iterator with boxes of its own must keep. -/
import Derived.LoopNIn
import Derived.Laws.EntriesVeiled
import Derived.LoopIn
import Derived.TacticsInMore
import Derived.Test.YtcniibngfnkobaaGreatDoorPCIter
import Derived.Test.YtcniibngfnkobaaGreatDoorPCOrdM
import Derived.RangeFuncNested
import Derived.RangeFuncBound
import Derived.RangeFuncCalls
import Derived.RangeFuncLeaves
import Derived.Test.YtcniibngfnkobaaGreatDoorPCBase
import Derived.Test.YtcniibngfnkobaaGreatDoorPCRoad
import Derived.Test.YtcniibngfnkobaaGreatDoorPCLeaf
import Derived.Test.YtcniibngfnkobaaGreatDoorPCCheck
import Derived.Test.YtcniibngfnkobaaGreatDoorPCValid
import Derived.Test.YtcniibngfnkobaaGreatDoorPCReg
import Derived.Test.YtcniibngfnkobaaGreatDoorPCGrouped
import Derived.Test.YtcniibngfnkobaaGreatDoorPCAppS
import Derived.Test.YtcniibngfnkobaaGreatDoorPCCorn
import Derived.Test.YtcniibngfnkobaaGreatDoorPCOpen
import Derived.Test.YtcniibngfnkobaaGreatDoorPCReg8
import Derived.Test.YtcniibngfnkobaaGreatDoorPCRCorn
import Derived.Test.YtcniibngfnkobaaGreatDoorPCRev
import Derived.Test.YtcniibngfnkobaaGreatDoorPCRevR
namespace Go.Proofs.YtcniibngfnkobaaGreatDoor
open Go.RowKit Go.Shelf Go.Proofs

/-- What a round must keep for the iterator: what lay below n0, and every block of cells from s0 on. -/
def KM (n0 s0 : Nat) (W W' : World) : Prop := Below n0 W W' ∧ ∀ (b : Nat) (o : Obj), s0 ≤ b → W.heap[b]? = some o → o.isCells = true → W'.heap[b]? = some o
theorem KM.refl (n0 s0 : Nat) (W : World) : KM n0 s0 W W := ⟨Below.refl _ _, fun _ _ _ h _ => h⟩
theorem KM.t {n0 s0 : Nat} {A B C : World} (h : KM n0 s0 A B) (k : KM n0 s0 B C) : KM n0 s0 A C := ⟨h.1.trans k.1, fun b o h0 h1 h2 => k.2 b o h0 (h.2 b o h0 h1 h2) h2⟩
theorem KM.b {n0 s0 : Nat} {w : World} (hn : n0 ≤ w.heap.size) (W : World) (l : Nat) (o o' : Obj) (hl : w.heap.size ≤ l) (h : W.heap[l]? = some o) (h1 : o.isCells = false) (h2 : o.isWalk = false) : KM n0 s0 W (W.putObj l o') :=
  ⟨belowK_b hn W l o o' hl h h1 h2, fun b u _ hb hc => (World.putObj_heap_other (fun e => by subst e; rw [h] at hb; cases hb; rw [h1] at hc; cases hc)).trans hb⟩
theorem KM.of_below {n0 s0 : Nat} {W W' : World} (h : Below W.heap.size W W') (hn : n0 ≤ W.heap.size) : KM n0 s0 W W' :=
  ⟨h.mono hn, fun b _ _ hb _ => (h.block b (Array.getElem?_eq_some_iff.1 hb).1).trans hb⟩
theorem KM.setCell {n0 s0 : Nat} {W W' : World} (h : KM n0 s0 W W') {p : Addr} (h1 : n0 ≤ p.block) (h2 : p.block < s0 ∨ W.heap.size ≤ p.block) (u : Value) : KM n0 s0 W (W'.setCell p u) :=
  ⟨h.1.setCell h1 u, fun b o h0 hb hc => (Below.heap_setCell _ _ _ b (fun e => by have := (Array.getElem?_eq_some_iff.1 hb).1; omega)).trans (h.2 b o h0 hb hc)⟩
theorem KM.bk {n0 s0 : Nat} {W W' : World} (h : KM n0 s0 W W') {b : Nat} {t : TypeId} {cs : Array Value} (hb : BK W b t cs) (h0 : s0 ≤ b) : BK W' b t cs := h.2 b _ h0 hb rfl
end Go.Proofs.YtcniibngfnkobaaGreatDoor

/- A reversed road is as defined. Plain; no program in sight. -/
namespace Go.Proofs.YtcniibngfnkobaaGreatDoor
open Go.RowKit Go.Proofs

theorem getE_pw {α : Type} (f : α → Int) : ∀ (l : List α), (∀ i, i < l.length → ∀ c d, l[i]? = some c → 0 < i → l[i-1]? = some d → f d < f c) → l.Pairwise fun a b => f a < f b
  | [], _ => List.Pairwise.nil
  | [_], _ => List.pairwise_singleton ..
  | a :: b :: l, h => by
    have ih := getE_pw f (b :: l) (fun i hi c d hc h0 hd => h (i + 1) (by simp at hi ⊢; omega) c d (by simpa using hc) (by omega) (by
      obtain ⟨j, rfl⟩ : ∃ j, i = j + 1 := ⟨i - 1, by omega⟩
      simpa using hd))
    have hab := h 1 (by simp) b a rfl (by omega) rfl
    refine List.pairwise_cons.2 ⟨fun x hx => ?_, ih⟩
    rcases List.mem_cons.1 hx with rfl | hx
    · exact hab
    · have := (List.pairwise_cons.1 ih).1 x hx; omega
theorem pw_getE {α : Type} {f : α → Int} {l : List α} (h : l.Pairwise fun a b => f a < f b) (i : Nat) {c d : α} (hc : l[i]? = some c) (h0 : 0 < i) (hd : l[i-1]? = some d) : f d < f c := by
  obtain ⟨h1, rfl⟩ := List.getElem?_eq_some_iff.1 hc
  obtain ⟨h2, rfl⟩ := List.getElem?_eq_some_iff.1 hd
  exact List.pairwise_iff_getElem.1 h (i-1) i h2 h1 (by omega)
theorem crests_iff (n : Int) (cs : List Crest) : (∀ i, i < cs.length → cAt n cs i) ↔ (∀ c ∈ cs, inR c.pos 0 n = true ∧ inR c.siz 1 3 = true) ∧ cs.Pairwise fun a b => a.pos < b.pos := by
  constructor
  · intro h
    refine ⟨fun c hc => ?_, getE_pw Crest.pos cs (fun i hi c d hc h0 hd => (h i hi c hc).2.2 d h0 hd)⟩
    obtain ⟨i, hi, rfl⟩ := List.getElem_of_mem hc
    have := h i hi _ (List.getElem?_eq_getElem hi)
    exact ⟨this.1, this.2.1⟩
  · rintro ⟨h1, h2⟩ i hi c hc
    have hm := h1 c (List.mem_of_getElem? hc)
    exact ⟨hm.1, hm.2, fun d h0 hd => pw_getE (f := Crest.pos) h2 i hc h0 hd⟩
theorem juncs_iff (n : Int) (js : List Junc) : (∀ i, i < js.length → jAt n js i) ↔ (∀ c ∈ js, inR c.pos 0 n = true ∧ inR c.arms 2 6 = true ∧ inR c.way 1 c.arms = true) ∧ js.Pairwise fun a b => a.pos < b.pos := by
  constructor
  · intro h
    refine ⟨fun c hc => ?_, getE_pw Junc.pos js (fun i hi c d hc h0 hd => (h i hi c hc).2.2.2 d h0 hd)⟩
    obtain ⟨i, hi, rfl⟩ := List.getElem_of_mem hc
    have := h i hi _ (List.getElem?_eq_getElem hi)
    exact ⟨this.1, this.2.1, this.2.2.1⟩
  · rintro ⟨h1, h2⟩ i hi c hc
    have hm := h1 c (List.mem_of_getElem? hc)
    exact ⟨hm.1, hm.2.1, hm.2.2, fun d h0 hd => pw_getE (f := Junc.pos) h2 i hc h0 hd⟩
theorem pOk_neg (p : Piece) : pOk (neg p) = pOk p := by
  unfold pOk neg inR
  have e1 : (decide (-1 ≤ -p.turn) && decide (-p.turn ≤ 1)) = (decide (-1 ≤ p.turn) && decide (p.turn ≤ 1)) := by
    rw [Bool.eq_iff_iff]; simp; omega
  have e2 : (-p.turn = 0) = (p.turn = 0) := by rw [eq_iff_iff]; omega
  simp only [e1, e2]
theorem sumL_revR (R : Road) : sumL (revR R).ps = sumL R.ps := by rw [revR, sumL_rev, sumL_neg]
theorem revR_ok {R : Road} (h : OK R) : OK (revR R) := by
  have hC := (crests_iff _ _).1 h.ck
  have hJ := (juncs_iff _ _).1 h.jk
  refine ⟨by simpa [revR] using h.p1, by simpa [revR] using h.p2, by simpa [revR, revC] using h.c1, by simpa [revR, revJ] using h.j1, fun p hp => ?_, by rw [sumL_revR]; exact h.n1, ?_, ?_⟩
  · simp only [revR, List.mem_reverse, List.mem_map] at hp
    obtain ⟨q, hq, rfl⟩ := hp
    rw [pOk_neg]; exact h.pk q hq
  · rw [sumL_revR]
    refine (crests_iff _ _).2 ⟨fun c hc => ?_, ?_⟩
    · simp only [revR, revC, List.mem_reverse, List.mem_map] at hc
      obtain ⟨q, hq, rfl⟩ := hc
      have := hC.1 q hq
      simp only [inR, Bool.and_eq_true, decide_eq_true_eq] at this ⊢
      exact ⟨by omega, this.2⟩
    · simp only [revR, revC]
      rw [List.pairwise_reverse, List.pairwise_map]
      exact hC.2.imp (fun {a b} hab => by show _ - b.pos < _ - a.pos; omega)
  · rw [sumL_revR]
    refine (juncs_iff _ _).2 ⟨fun c hc => ?_, ?_⟩
    · simp only [revR, revJ, List.mem_reverse, List.mem_map] at hc
      obtain ⟨q, hq, rfl⟩ := hc
      have := hJ.1 q hq
      simp only [inR, Bool.and_eq_true, decide_eq_true_eq] at this ⊢
      exact ⟨by omega, this.2.1, by omega⟩
    · simp only [revR, revJ]
      rw [List.pairwise_reverse, List.pairwise_map]
      exact hJ.2.imp (fun {a b} hab => by show _ - b.pos < _ - a.pos; omega)
end Go.Proofs.YtcniibngfnkobaaGreatDoor

/- A range over a function whose iterator turns a box of its own (block X) between two rounds; the body never leaves the loop. A theorem over any program. -/
namespace Go.Proofs.YtcniibngfnkobaaGreatDoor
open Go.RowKit

section
variable {F : Fence} {n : Nat} {P : Program}
/-- What an iterator owes that turns block X alone of the elder cells: it hands its values to the rounds, one after the other, and nobody stops it. -/
def SeqBox {α : Type} (F : Fence) (n : Nat) (P : Program) (gf : Nat) (lb : Array Value) (encs : α → Array Value) (X : Nat) (Kp : World → World → Prop) (S : List α → Prop) (N : Nat) (w : World) : Prop :=
  ∀ (l : Nat) (J : List α → World → Prop) (W : World), Below w.heap.size w W → (∀ s A B, J s A → A.grownBy B (some X) → J s B) →
    (∀ pre x W1, J pre W1 → pre.length < N → YieldAt F (n - 1) P l (encs x) W1 fun e W' => e = .returned (.bool true) ∧ J (pre ++ [x]) W' ∧ Kp W1 W') → J [] W →
    CallsIn F n P gf (#[.func (.yield l) #[] #[]] ++ lb) W fun e W' => (∃ v, e = .returned v) ∧ ∃ xs, S xs ∧ J xs W'
theorem wpIn_rangeFunc_box {α : Type} {g : Operand} {ps : Array Tmp} {assign body : Code} {Q : Exit → Act → World → Prop} {a : Act} {w : World} (X : Nat) (hX : X < w.heap.size)
    (hro : F.round = none) (h1 : 1 ≤ n) {gf : Nat} {lb : Array Value} (hg : a.eval g = .func (.func gf) #[] lb) (hFg : F.fn gf) (eg : ∀ args w, (callFunc gf args).run P w = .ok (.enter gf args) w)
    {encs : α → Array Value} {Kp : World → World → Prop} {S : List α → Prop} {N : Nat} (hseq : SeqBox F (n - 1) P gf lb encs X Kp S N w)
    (hKt : ∀ {A B C : World}, Kp A B → Kp B C → Kp A C) (hKb : ∀ (W : World) (l : Nat) (o o' : Obj), w.heap.size ≤ l → W.heap[l]? = some o → o.isCells = false → o.isWalk = false → Kp W (W.putObj l o')) (hps : ∀ x, (encs x).size = ps.size)
    (I : List α → World → Prop) (hI : OwnFrom w.heap.size I) (hIg : ∀ s A B, I s A → A.grownBy B (some X) → I s B) (h0 : I [] w) (a₁ : α → Act)
    (hassign : ∀ (l : Nat) (x : α) (W : World) (K : Act → World → Prop), K (a₁ x) W → assign.wpIn (F.inRound l) (n - 1 - 1) P (Exit.then K (fun _ _ _ => False)) { tmps := (ps.zip (encs x)).foldl (fun t (p, v) => t.setIfInBounds p v) a.tmps, defers := [] } W)
    (hbody : ∀ (l : Nat) (pre : List α) (x : α) (W : World), I pre W → pre.length < N → body.wpIn (F.inRound l) (n - 1 - 1) P (fun e _ W' => e = .normal ∧ KeepsFrom w.heap.size W W' ∧ Kp W W' ∧ I (pre ++ [x]) W') (a₁ x) W)
    (hdone : ∀ (D : Nat) (xs : List α) (W : World), w.heap.size ≤ D → S xs → I xs W → W.heap[D]? = some (.deferred (some [])) → Q .normal { a with defers := { target := .collected D, args := #[] } :: a.defers } W) :
    (Code.rangeFunc g ps assign body).wpIn F n P Q a w := by
  refine wpIn_rangeFunc fun fn hfn => ?_
  rw [hro]
  obtain ⟨m, hm⟩ : ∃ m, m = w.heap.size := ⟨_, rfl⟩
  rw [← hm] at hX hKb hI hbody hdone
  -- the loop's record as it stands between two rounds, within one, and behind the last
  obtain ⟨R, hR⟩ : ∃ R : LoopState → Loop, R = fun st => { state := st, pending := none, fn, tmps := a.tmps, params := ps, assign, body, defers := m } := ⟨_, rfl⟩
  obtain ⟨V, hV⟩ : ∃ V, V = (w.alloc (.deferred (some []))).alloc (.loop (R .ready)) := ⟨_, rfl⟩
  have vD : V.heap[m]? = some (.deferred (some [])) := by rw [hV, hm]; exact (Below.heap_alloc _ _ _ (by simp)).trans (World.alloc_heap_new w _)
  have vL : V.heap[m + 1]? = some (.loop (R .ready)) := by
    have h := World.alloc_heap_new (w.alloc (.deferred (some []))) (.loop (R .ready))
    rw [World.size_alloc, ← hm] at h
    rw [hV]; exact h
  have vB : Below w.heap.size w V := by rw [hV]; exact ((Below.refl _ w).alloc (Nat.le_refl _) _).alloc (by simp) _
  have vI : I [] V := by rw [hV]; exact hI.alloc _ (hI.alloc _ h0)
  refine ⟨m + 1, [{ target := .collected m, args := #[] }], V, { target := .fn (.func gf) lb, args := #[.func (.yield (m + 1)) #[] #[]] }, V, gf, #[.func (.yield (m + 1)) #[] #[]] ++ lb, V, ?_, ?_, ?_, ?_, fun _ => h1, ?_⟩
  · rw [hV, hR, hm]; exact run_enterLoop_outer _ _ _ _ _
  · simp only [resolve, hg]; simp [go_sem]
  · intro f' hf'; simp [Target.leads] at hf'; subst hf'; exact hFg
  · simp [invoke, go_sem, eg]
  -- what the iterator is asked to carry: the caller's own, the record and the block of deferred calls
  refine (hseq (m + 1) (fun s W => I s W ∧ W.heap[m + 1]? = some (.loop (R .ready)) ∧ W.heap[m]? = some (.deferred (some []))) V vB (fun s A B hs hAB => ?_) ?_ ⟨vI, vL, vD⟩).mono ?_
  · obtain ⟨s1, s2, s3⟩ := hs
    exact ⟨hIg s A B s1 hAB, (hAB.block _ (Array.getElem?_eq_some_iff.1 s2).1 (by simp; omega)).trans s2, (hAB.block _ (Array.getElem?_eq_some_iff.1 s3).1 (by simp; omega)).trans s3⟩
  · rintro pre x W ⟨i1, i2, i3⟩ hlen
    have lt2 := (Array.getElem?_eq_some_iff.1 i2).1
    have yld := run_yield (P := P) (args := encs x) i2 (by rw [hR]; exact hps x)
    rw [hR] at yld
    refine ⟨fn, _, assign, body, yld, roundIn_of_wpIn hfn (hassign _ x W _ ?_)⟩
    obtain ⟨Z, hZ⟩ : ∃ Z, Z = W.putObj (m + 1) (.loop { R .ready with state := .busy }) := ⟨_, rfl⟩
    refine ⟨Z, by rw [hZ]; exact run_beginRound i2 (by rw [hR]), ?_⟩
    have zL : Z.heap[m + 1]? = some (.loop { R .ready with state := .busy }) := by rw [hZ]; exact World.putObj_heap_same lt2
    have zD : Z.heap[m]? = some (.deferred (some [])) := by rw [hZ]; exact (World.putObj_heap_other (by omega)).trans i3
    have zK : Kp W Z := by rw [hZ]; exact hKb _ _ _ _ (by omega) i2 rfl rfl
    have zI : I pre Z := by rw [hZ]; exact hI.putObj _ i1 (by omega) i2 rfl
    refine wpIn_mono (hbody _ pre x Z zI hlen) ?_
    rintro e a3 W3 ⟨rfl, b1, b2, b3⟩
    have wL := b1.same _ _ (by omega) zL rfl
    have wD := b1.same _ _ (Nat.le_refl _) zD rfl
    have lt3 := (Array.getElem?_eq_some_iff.1 wL).1
    have er := run_endRound (P := P) none wL
    refine ⟨_, _, er, by simp, ⟨hI.putObj _ b3 (by omega) wL rfl, ?_, (World.putObj_heap_other (by omega)).trans wD⟩, hKt zK (hKt b2 (hKb _ _ _ _ (by omega) wL rfl rfl))⟩
    refine (World.putObj_heap_same lt3).trans ?_
    rw [hR]
    rfl
  · rintro e W2 ⟨⟨v, rfl⟩, xs, hS, i1, i2, i3⟩
    have el := run_endLoop (P := P) i2 (by rw [hR]; simp)
    rw [hR] at el
    exact ⟨none, _, el, hdone m xs _ (Nat.le_refl _) hS (hI.putObj _ i1 (by omega) i2 rfl) ((World.putObj_heap_other (by omega)).trans i3)⟩
end
end Go.Proofs.YtcniibngfnkobaaGreatDoor

/- note.within. -/
namespace Go.Proofs.YtcniibngfnkobaaGreatDoor
open Go.RowKit Go.Shelf Go.Sort Go.Proofs
theorem nwithin_any (x lo hi : Int) (w : World) :
    Calls Tryz.prog 42 #[.int .i64 x, .int .i64 lo, .int .i64 hi] w fun e w' => e = .returned (.bool (decide (lo ≤ x) && decide (x ≤ hi))) ∧ w = w' := by
  by_cases h : lo ≤ x
  · have e : (decide (lo ≤ x) && decide (x ≤ hi)) = decide (x ≤ hi) := by simp [h]
    rw [e]; clear e
    go_enter Tryz.func42, Tryz.ntmps42
    go_wp2
    go_ret
    exact ⟨rfl, rfl⟩
  · have e : (decide (lo ≤ x) && decide (x ≤ hi)) = false := by simp [h]
    rw [e]; clear e
    go_enter Tryz.func42, Tryz.ntmps42
    go_wp2
    go_ret
    exact ⟨rfl, rfl⟩
end Go.Proofs.YtcniibngfnkobaaGreatDoor
