/- A region that draws its order: its first operations only read or make quiet calls, in any order; the rest comes last, in one forced order. One walk of the text's order serves every order. Plain theorems over any program, outside a fence and inside a loop's round. -/
import Derived.StillTail
import Derived.OrdersIn
import Derived.TacticsIn
import Derived.RangeFuncCalls
import Derived.RangeFuncNested
import Derived.Lib.QuietBelow
import Derived.Test.YtafclpmnpamipaaGreatQBase
namespace Go.Proofs.YtafclpmnpamipaaGreat
open Go.RowKit Go.Sort

section
variable {P : Program} {ops : Array Oper} {md : Region.Mode} {C : World → Prop}

/-- Whatever order the first n operations come up in. -/
def anyHead (P : Program) (md : Region.Mode) (ops : Array Oper) (C : World → Prop) (n : Nat) (L : Array Bool → Act → Prop) : Nat → Array Bool → Act → Prop
  | 0, listed, a => L listed a
  | f + 1, listed, a =>
    Region.ready md ops listed ≠ [] ∧ ∀ i ∈ Region.ready md ops listed, i < n ∧ qOp P ops C i (anyHead P md ops C n L f (listed.setIfInBounds i true)) a
theorem anyHead_first {n i : Nat} {oi : Oper} {v : Value} {L : Array Bool → Act → Prop} (hi : ops[i]? = some oi) (hsel : ∀ (j : Nat) (o : Oper) cs b, ops[j]? = some o → o.op ≠ .select cs b)
    (hs : Region.sinkB md ops n = true) (hc : Region.chainB md ops n = true) (hn : n < ops.size) (hin : i < n)
    (hdone : ∀ listed a, L listed a → ∀ j ∈ Region.ready md ops listed, n ≤ j) :
    ∀ (f : Nat) (listed : Array Bool) (a : Act), HeadInv md ops n listed →
      (∀ j oj, ops[j]? = some oj → j ≠ i → listed.getD j true = false → (∀ e ∈ oj.after, Region.binds md e = true → e.on ≠ i) → oi.apart ops oj = true) →
      i ∈ Region.ready md ops listed → YieldsIn P ops C oi v a →
      anyHead P md ops C n L f (listed.setIfInBounds i true) (a.put oi.dst v) → anyHead P md ops C n L (f + 1) listed a := by
  intro f
  induction f with
  | zero =>
    intro listed a inv _ hr hy H
    have hun := (mem_ready.1 hr).1
    refine ⟨fun h => (by rw [h] at hr; cases hr), fun j hj => ?_⟩
    have hjn : j < n := by
      rcases Nat.lt_or_ge j n with h | h
      · exact h
      · exact absurd hj (tail_waits hs hc hn inv _ i rfl hin hun j h)
    refine ⟨hjn, ?_⟩
    by_cases hji : j = i
    · subst hji; exact hy.qOp hi H
    · have := hdone _ _ H j (ready_mono hj hji)
      omega
  | succ f ih =>
    intro listed a inv hfree hr hy H
    have hun := (mem_ready.1 hr).1
    refine ⟨fun h => (by rw [h] at hr; cases hr), fun j hj => ?_⟩
    have hjn : j < n := by
      rcases Nat.lt_or_ge j n with h | h
      · exact h
      · exact absurd hj (tail_waits hs hc hn inv _ i rfl hin hun j h)
    refine ⟨hjn, ?_⟩
    by_cases hji : j = i
    · subst hji; exact hy.qOp hi H
    · have h1 := (H.2 j (ready_mono hj hji)).2
      obtain ⟨hjun, oj, hoj, hall⟩ := mem_ready.1 hj
      have hnot : ∀ e ∈ oj.after, Region.binds md e = true → e.on ≠ i := fun e he hb heq => by
        have h1 := hall e he hb
        rw [heq, getD_both hun] at h1
        cases h1
      have h2 := qOp_put hoj (hfree j oj hoj hji hjun hnot) (fun cs b => hsel i oi cs b hi) (fun cs b => hsel j oj cs b hoj) hy h1
      have hfree' : ∀ k ok, ops[k]? = some ok → k ≠ i → (listed.setIfInBounds j true).getD k true = false →
          (∀ e ∈ ok.after, Region.binds md e = true → e.on ≠ i) → oi.apart ops ok = true := fun k ok hk hki hun hno => by
        refine hfree k ok hk hki ?_ hno
        by_cases hjk : j = k
        · subst hjk; exact hjun
        · rw [getD_set_ne true hjk] at hun; exact hun
      refine qOp_mono (fun a' h3 => ih (listed.setIfInBounds j true) a' (inv.set hj hjn) hfree' (ready_mono hr (Ne.symm hji)) h3.1 ?_) h2
      rw [Array.setIfInBounds_comm _ _ hji]
      exact h3.2
theorem anyHead_lex {n g : Nat} {Lq : Act → Prop} (hsel : Region.noSelect ops = true) (hs : Region.sinkB md ops n = true) (hc : Region.chainB md ops n = true) (hn : n < ops.size) :
    ∀ (l : List Oper) (k : Nat) (listed : Array Bool) (a : Act), (∀ j, j < l.length → l[j]? = ops[k + j]?) → k + l.length = n → HeadInv md ops n listed →
    Region.lexHead md ops g l.length k listed = true → wpQuiet P ops C Lq l a →
    anyHead P md ops C n (fun listed' a' => Region.seqB md ops g n listed' = true ∧ Lq a') l.length listed a
  | [], k, listed, a, _, hk, _, hB, h => by
    have : k = n := by simpa using hk
    subst this
    exact ⟨by simpa [Region.lexHead] using hB, h⟩
  | o :: l, k, listed, a, hl, hk, inv, hB, h => by
    have h0 : ops[k]? = some o := by simpa using (hl 0 (by simp)).symm
    simp only [List.length_cons, Region.lexHead, Bool.and_eq_true] at hB
    obtain ⟨⟨hr, hf⟩, hB'⟩ := hB
    have hkn : k < n := by simp only [List.length_cons] at hk; omega
    have hr' : k ∈ Region.ready md ops listed := by simpa using hr
    have hst : qOp P ops C k (wpQuiet P ops C Lq l) a := by unfold qOp; simp only [h0]; exact h
    obtain ⟨v, hy, hK⟩ := yieldsIn_of_qOp h0 hst
    exact anyHead_first h0 (Region.noSelect_spec hsel) hs hc hn hkn (fun listed' a' hL => seqB_ready hL.1) l.length listed a inv (Region.free_spec h0 hf) hr' hy
      (anyHead_lex hsel hs hc hn l (k + 1) _ _ (fun j hj => by have := hl (j + 1) (by simp; omega); simpa [Nat.add_assoc, Nat.add_comm 1 j] using this) (by simp only [List.length_cons] at hk; omega) (inv.set hr' hkn) hB' hK)
theorem wpAny_of_anyHead {n g : Nat} {L : Array Bool → Act → Prop} {Q' : Exit → Act → World → Prop} (hL : ∀ listed a w, C w → L listed a → wpAny P md ops Q' g listed a w) :
    ∀ (f : Nat) (listed : Array Bool) (a : Act) (w : World), C w → anyHead P md ops C n L f listed a → wpAny P md ops Q' (f + g) listed a w
  | 0, listed, a, w, hw, h => by rw [Nat.zero_add]; exact hL _ _ _ hw h
  | f + 1, listed, a, w, hw, h => by
    rw [show f + 1 + g = (f + g) + 1 by omega]
    exact ⟨fun h0 => absurd h0 h.1, fun i hi => wpOp_of_qOp hw (fun a' w' hw' h' => wpAny_of_anyHead hL f _ a' w' hw' h') (h.2 i hi).2⟩
theorem wpQuiet_mono {Q Q' : Act → Prop} (hq : ∀ a, Q a → Q' a) : ∀ {l : List Oper} {a : Act}, wpQuiet P ops C Q l a → wpQuiet P ops C Q' l a
  | [], _, h => hq _ h
  | o :: rest, a, h => by
    unfold wpQuiet at h ⊢
    split
    · rename_i hw; rw [if_pos hw] at h; exact Oper.quiet_mono (fun _ h => wpQuiet_mono hq h) h
    · rename_i hw; rw [if_neg hw] at h; exact wpQuiet_mono hq h
/-- The law, outside a fence. -/
theorem wp_region_quiet_tail {id : Nat} {Q : Exit → Act → World → Prop} {a : Act} {w : World} {l : List Oper} (n : Nat) (hm : P.follows .mixedOrders = true) (hB : Region.lexTailB .any l.toArray n = true) (hC : C { w with drawn := w.drawn + 1 })
    (h : wpQuiet P l.toArray C (fun a' => ∀ w', C w' → wpList P l.toArray Q (l.drop n) a' w') (l.take n) a) : (Code.region id l.toArray true).wp P Q a w := by
  simp only [Region.lexTailB, Bool.and_eq_true, decide_eq_true_eq] at hB
  obtain ⟨⟨⟨⟨hsel, hn⟩, hs⟩, hc⟩, hlex⟩ := hB
  have hn' : n < l.length := by simpa using hn
  have htl : (l.take n).length = n := by simp; omega
  have hdl : (l.drop n).length = l.toArray.size - n := by simp
  have inv0 : HeadInv .any l.toArray n (Array.replicate l.toArray.size false) :=
    ⟨by simp, fun j oj _ hl => (by rw [getD_replicate_false] at hl; cases hl), fun t _ ht => getD_in (by simpa using ht) (getD_replicate_false _ _)⟩
  have H := anyHead_lex (md := .any) (g := l.toArray.size - n) hsel hs hc hn (l.take n) 0 _ a (fun j hj => by
    have hj' : j < n := by rw [htl] at hj; exact hj
    simp [hj']) (by simpa using htl) inv0 (by rw [htl]; exact hlex) h
  refine wp_region_any hm ?_
  have := wpAny_of_anyHead (Q' := Q) (g := l.toArray.size - n) (fun listed a' w' hw' hL => by
    have := wpAny_of_seq (md := .any) (Q' := Q) (l.drop n) n listed a' w' (fun j => by simp [List.getElem?_drop]) (by rw [hdl]; exact hL.1) (hL.2 w' hw')
    rwa [hdl] at this) _ _ _ _ hC H
  rw [htl, show n + (l.toArray.size - n) = l.toArray.size by omega] at this
  exact this
/-! ### Inside a round of a loop over an iterator (the wide fence) -/
variable {lp m : Nat}
theorem wpAnyIn_of_seq {F : Fence} {Q' : Exit → Act → World → Prop} : ∀ (l : List Oper) (k : Nat) (listed : Array Bool) (a : Act) (w : World), (∀ j, l[j]? = ops[k + j]?) →
    Region.seqB md ops l.length k listed = true → wpListIn F m P ops Q' l a w → wpAnyIn F m P md ops Q' l.length listed a w
  | [], _, _, _, _, _, hB, h => ⟨by simpa [Region.seqB] using hB, h⟩
  | o :: l, k, listed, a, w, hl, hB, h => by
    have h0 : ops[k]? = some o := by simpa using (hl 0).symm
    simp only [List.length_cons, Region.seqB, Bool.and_eq_true, decide_eq_true_eq] at hB
    refine ⟨fun h1 => (by rw [hB.1] at h1; cases h1), fun i hi => ?_⟩
    rw [hB.1] at hi
    have hik : i = k := by simpa using hi
    subst hik
    have hw : wpOpIn F m P ops Q' i (wpListIn F m P ops Q' l) a w := by unfold wpOpIn; simp only [h0]; exact h
    exact wpOpIn_mono (fun a' w' h' => wpAnyIn_of_seq l (i + 1) _ a' w' (fun j => by have := hl (j + 1); simpa [Nat.add_assoc, Nat.add_comm 1 j] using this) hB.2 h') hw
def noDefer (ops : Array Oper) : Bool := ops.all fun o => match o.op with | .defer _ => false | _ => true
theorem noDefer_spec (h : noDefer ops = true) : ∀ (j : Nat) (o : Oper) c, ops[j]? = some o → o.op ≠ .defer c := by
  intro j o c ho hc
  have hmem : o ∈ ops := Array.mem_of_getElem? ho
  have h1 := (Array.all_eq_true_iff_forall_mem.1 h) o hmem
  rw [hc] at h1
  cases h1
/-- The law at the class 'old memory is as it was', outside a fence. -/
theorem wp_region_qt {id : Nat} {Q : Exit → Act → World → Prop} {a : Act} {w : World} {l : List Oper} (n : Nat) (hm : P.follows .mixedOrders = true) (hB : Region.lexTailB .any l.toArray n = true)
    (h : wpQuiet P l.toArray (fun w' => ∃ p : Regrown, w' = grow (redrawn w p.d) p.os) (fun a' => ∀ w', Below w.heap.size w w' → wpList P l.toArray Q (l.drop n) a' w') (l.take n) a) : (Code.region id l.toArray true).wp P Q a w :=
  wp_region_quiet_tail (C := fun w' => ∃ p : Regrown, w' = grow (redrawn w p.d) p.os) n hm hB ⟨⟨w.drawn + 1, #[]⟩, by rw [grow_empty]; rfl⟩ (wpQuiet_mono (fun a' h w' ⟨p, hp⟩ => h w' (by rw [hp]; exact below_regrown w p.d p.os)) h)
end
section
variable {P : Program}
/-- A plain contract, met inside the wide fence. -/
theorem cin {n : Nat} {f : FuncId} {args : Array Value} {w : World} {R : Ending → World → Prop} (h : Calls P f args w R) : Fence.wide.fn f ∧ CallsIn Fence.wide n P f args w R := ⟨trivial, callsIn_wide.2 h⟩
/-- .. and inside a round of it. -/
theorem cinr {n l : Nat} {f : FuncId} {args : Array Value} {w : World} {R : Ending → World → Prop} (h : Calls P f args w R) : (Fence.wide.inRound l).fn f ∧ CallsIn (Fence.wide.inRound l) n P f args w R := ⟨trivial, CallsIn.inRound l (callsIn_wide.2 h)⟩
/-- That a block holds some cells abides the turn of what is no cells. -/
theorem bk_own {β : Type} (B g : Nat) (t : TypeId) (f : β → Array Value) : OwnFrom B (fun s W => BK W g t (f s)) := by
  intro s W W' row hs hg hr
  refine (hg.block g hs.lt (fun e => ?_)).trans hs
  obtain ⟨_, o, ho, hc⟩ := hr g e.symm
  rw [show W.heap[g]? = _ from hs] at ho
  cases ho
  cases hc
/-- Old memory is as it was, and the heap has not shrunk below N. -/
def Since (w : World) (N : Nat) (W : World) : Prop := Below w.heap.size w W ∧ N ≤ W.heap.size
theorem ownFrom_since {β : Type} {B N : Nat} {w : World} (hB : w.heap.size ≤ B) : OwnFrom B (fun (_ : β) W => Since w N W) := by
  intro s W W' row hs hg hr
  exact ⟨ownFrom_below (Nat.le_refl _) hB s W W' row hs.1 hg hr, Nat.le_trans hs.2 hg.size⟩
theorem Since.onto {w : World} {N : Nat} {W W' : World} (h : Since w N W) (k : Below W.heap.size W W') : Since w N W' := ⟨h.1.trans (k.mono h.1.size), Nat.le_trans h.2 k.size⟩
theorem Since.setCell {w : World} {N : Nat} {W : World} (h : Since w N W) {p : Addr} (hp : w.heap.size ≤ p.block) (u : Value) : Since w N (W.setCell p u) := ⟨h.1.setCell hp u, by simpa using h.2⟩
/-- A call that leaves old memory as it was keeps what is no cells. -/
theorem keeps_of_below {B : Nat} {W W' : World} (h : Below W.heap.size W W') : KeepsFrom B W W' :=
  ⟨h.size, fun k _ _ hk _ => (h.block k (Array.getElem?_eq_some_iff.1 hk).1).trans hk⟩
end
end Go.Proofs.YtafclpmnpamipaaGreat

/- A drawn region with a new block among its operations: quiet operations 0 .. n - 1, an allocation at n that may come up at any time, and a tail in one forced order. One walk serves every order. Plain theorems over any program. -/
namespace Go.Proofs.YtafclpmnpamipaaGreat
open Go.RowKit Go.Sort

section
variable {P : Program} {ops : Array Oper} {md : Region.Mode} {C : World → Prop}
def tUpon (P : Program) (w : World) (v : Value) : Result Next → Prop
  | .ok (.value u) w' => w' = w ∧ u = v
  | .ok .skip w' => w' = w ∧ v = undef
  | .ok (.enter f args) w' => w' = w ∧ Calls P f args w (fun e w'' => e = .returned v ∧ Below w.heap.size w w'')
  | _ => False
def tAt (P : Program) (o : Oper) (a : Act) (w : World) (v : Value) : Prop := tUpon P w v ((execOp a.eval o).run P w)
/-- One value in every world of the class; a call leaves old memory as it was. -/
def tame (P : Program) (o : Oper) (a : Act) (C : World → Prop) (next : Act → Prop) : Prop := ∃ v, (∀ w, C w → tAt P o a w v) ∧ next (a.put o.dst v)
def Tyields (P : Program) (ops : Array Oper) (C : World → Prop) (o : Oper) (v : Value) (a : Act) : Prop :=
  (Region.wanted o (yielded ops a.tmps) = true ∧ ∀ w, C w → tAt P o a w v) ∨
  (Region.wanted o (yielded ops a.tmps) = false ∧ v = undef)
theorem Tyields.of_same {o : Oper} {v : Value} {a a' : Act} (hy : Tyields P ops C o v a) (he : execOp a'.eval o = execOp a.eval o)
    (hw : Region.wanted o (yielded ops a'.tmps) = Region.wanted o (yielded ops a.tmps)) : Tyields P ops C o v a' := by
  unfold Tyields tAt at *
  rw [he, hw]
  exact hy
variable {n : Nat} {d : Tmp} {t : TypeId} {zs : Array Value} {B : Nat} {oa : Oper}
end
attribute [go_sem] tame tAt tUpon
end Go.Proofs.YtafclpmnpamipaaGreat

/- A drawn region whose head reads, calls (the calls in one forced chain; each may make memory) and makes at most one block: one walk of the text's order serves every order. Plain theorems over any program. -/
namespace Go.Proofs.YtafclpmnpamipaaGreat
open Go.RowKit Go.Sort

section
variable {P : Program} {ops : Array Oper} {md : Region.Mode} {C : World → Prop}
/-- An operation that only reads: its value. -/
def qUpon (w : World) (v : Value) : Result Next → Prop
  | .ok (.value u) w' => w' = w ∧ u = v
  | .ok .skip w' => w' = w ∧ v = undef
  | _ => False
def qAt (P : Program) (o : Oper) (a : Act) (w : World) (v : Value) : Prop := qUpon w v ((execOp a.eval o).run P w)
theorem qAt_uniq {o : Oper} {a : Act} {w : World} {v v' : Value} (h : qAt P o a w v) (k : qAt P o a w v') : v = v' := by
  unfold qAt at h k
  generalize (execOp a.eval o).run P w = r at h k
  cases r with
  | ok n w' =>
    cases n <;> simp only [qUpon] at h k
    · exact h.2.symm.trans k.2
    · exact h.2.trans k.2.symm
  | halt x w' => simp only [qUpon] at h
def cUpon (P : Program) (w : World) (R : Value → World → Prop) : Result Next → Prop
  | .ok (.enter f args) w' => w' = w ∧ Calls P f args w (fun e w'' => ∃ v, e = .returned v ∧ R v w'')
  | .ok (.value u) w' => R u w'
  | _ => False
def callAt (P : Program) (o : Oper) (a : Act) (w : World) (R : Value → World → Prop) : Prop := cUpon P w R ((execOp a.eval o).run P w)
theorem callAt_mono {o : Oper} {a : Act} {w : World} {R R' : Value → World → Prop} (hr : ∀ v w', R v w' → R' v w') (h : callAt P o a w R) : callAt P o a w R' := by
  unfold callAt at *
  generalize (execOp a.eval o).run P w = r at *
  cases r with
  | ok n w' =>
    cases n <;> simp only [cUpon] at h ⊢
    · exact hr _ _ h
    · exact ⟨h.1, h.2.mono fun e w'' ⟨v, e1, h1⟩ => ⟨v, e1, hr _ _ h1⟩⟩
  | halt x w' => simp only [cUpon] at h
theorem callAt_ex {o : Oper} {a : Act} {w : World} {R : Value → World → Prop} (h : callAt P o a w R) : ∃ v w', R v w' := by
  unfold callAt at h
  generalize (execOp a.eval o).run P w = r at *
  cases r with
  | ok n w' =>
    cases n <;> simp only [cUpon] at h
    · exact ⟨_, _, h⟩
    · obtain ⟨e, w'', fr, ⟨v, _, h1⟩, _⟩ := h.2 []
      exact ⟨v, w'', h1⟩
  | halt x w' => simp only [cUpon] at h
abbrev Fact := World → Prop
def stable (Φ : Fact) : Prop := ∀ x y, Φ x → Below x.heap.size x y → Φ y
/-- What a call must leave. -/
def Leaves (Φ : Fact) (w : World) (dst : Option Tmp) (a : Act) (K : Act → Fact → Prop) (v : Value) (w' : World) : Prop :=
  Below w.heap.size w w' ∧ ∃ Φ' : Fact, stable Φ' ∧ (∀ x, Φ' x → Φ x) ∧ Φ' w' ∧ K (a.put dst v) Φ'
def cOp (P : Program) (ops : Array Oper) (C : World → Prop) (ns : List Nat) (ks : List Nat) (i : Nat) (K : Act → Fact → Prop) (a : Act) (Φ : Fact) : Prop :=
  if i ∈ ns then K a Φ else
  match ops[i]? with
  | none => K a Φ
  | some o =>
    if Region.wanted o (yielded ops a.tmps) then
      if i ∈ ks then ∀ w, C w → Φ w → callAt P o a w (Leaves Φ w o.dst a K)
      else ∃ v, (∀ w, C w → qAt P o a w v) ∧ K (a.put o.dst v) Φ
    else K (a.put o.dst undef) Φ
theorem cOp_mono {ns : List Nat} {i : Nat} {ks : List Nat} (hCl : ∀ w w', C w → Below w.heap.size w w' → C w') {a : Act} {Φ : Fact} {K K' : Act → Fact → Prop} (hst : stable Φ) (hex : ∃ w, C w ∧ Φ w)
    (h : ∀ a Φ, stable Φ → (∃ w, C w ∧ Φ w) → K a Φ → K' a Φ) (hh : cOp P ops C ns ks i K a Φ) : cOp P ops C ns ks i K' a Φ := by
  unfold cOp at *
  by_cases hin : i ∈ ns
  · rw [if_pos hin] at *; exact h _ _ hst hex hh
  rw [if_neg hin] at *
  split
  · exact h _ _ hst hex (by simpa [*] using hh)
  · rename_i o ho
    simp only [ho] at hh
    by_cases hw : Region.wanted o (yielded ops a.tmps) = true
    · rw [if_pos hw] at hh ⊢
      by_cases hk : i ∈ ks
      · rw [if_pos hk] at hh ⊢
        exact fun w hc hp => callAt_mono (fun v w' ⟨h1, Φ', h2, h3, h4, h5⟩ => ⟨h1, Φ', h2, h3, h4, h _ _ h2 ⟨w', hCl _ _ hc h1, h4⟩ h5⟩) (hh w hc hp)
      · rw [if_neg hk] at hh ⊢
        obtain ⟨v, h1, h2⟩ := hh
        exact ⟨v, h1, h _ _ hst hex h2⟩
    · rw [if_neg hw] at hh ⊢
      exact h _ _ hst hex hh
/-- A value that does not hang on what another operation yields. -/
def Qyields (P : Program) (ops : Array Oper) (C : World → Prop) (o : Oper) (v : Value) (a : Act) : Prop :=
  (Region.wanted o (yielded ops a.tmps) = true ∧ ∀ w, C w → qAt P o a w v) ∨ (Region.wanted o (yielded ops a.tmps) = false ∧ v = undef)
theorem Qyields.of_same {o : Oper} {v : Value} {a a' : Act} (hy : Qyields P ops C o v a) (he : execOp a'.eval o = execOp a.eval o)
    (hw : Region.wanted o (yielded ops a'.tmps) = Region.wanted o (yielded ops a.tmps)) : Qyields P ops C o v a' := by
  unfold Qyields qAt at *
  rw [he, hw]
  exact hy
theorem Qyields.uniq {o : Oper} {v v' : Value} {a : Act} (hex : ∃ w, C w) (h : Qyields P ops C o v a) (k : Qyields P ops C o v' a) : v = v' := by
  obtain ⟨w, hw⟩ := hex
  rcases h with ⟨h1, h2⟩ | ⟨h1, h2⟩ <;> rcases k with ⟨k1, k2⟩ | ⟨k1, k2⟩
  · exact qAt_uniq (h2 w hw) (k2 w hw)
  · rw [h1] at k1; cases k1
  · rw [h1] at k1; cases k1
  · rw [h2, k2]
theorem Qyields.cOp {ns : List Nat} {i : Nat} {ks : List Nat} {o : Oper} {v : Value} {a : Act} {Φ : Fact} (hin : i ∉ ns) (hk : i ∉ ks) (hi : ops[i]? = some o) (hy : Qyields P ops C o v a) {K : Act → Fact → Prop} (h : K (a.put o.dst v) Φ) : cOp P ops C ns ks i K a Φ := by
  unfold Go.Proofs.YtafclpmnpamipaaGreat.cOp
  rw [if_neg hin]
  simp only [hi]
  rcases hy with ⟨hw, hv⟩ | ⟨hw, rfl⟩
  · rw [if_pos hw, if_neg hk]; exact ⟨v, hv, h⟩
  · rw [if_neg (by rw [hw]; simp)]; exact h
theorem qyields_of_cOp {ns : List Nat} {i : Nat} {ks : List Nat} {o : Oper} {a : Act} {Φ : Fact} {K : Act → Fact → Prop} (hin : i ∉ ns) (hk : i ∉ ks) (hi : ops[i]? = some o) (h : cOp P ops C ns ks i K a Φ) : ∃ v, Qyields P ops C o v a ∧ K (a.put o.dst v) Φ := by
  unfold cOp at h
  rw [if_neg hin] at h
  simp only [hi] at h
  by_cases hw : Region.wanted o (yielded ops a.tmps) = true
  · rw [if_pos hw, if_neg hk] at h
    obtain ⟨v, h1, h2⟩ := h
    exact ⟨v, .inl ⟨hw, h1⟩, h2⟩
  · rw [if_neg hw] at h
    exact ⟨undef, .inr ⟨by simpa using hw, rfl⟩, h⟩
/-- A quiet value is put first: what comes behind it does not mind. -/
theorem cOp_put {ns : List Nat} {j : Nat} {ks : List Nat} {oi oj : Oper} {v : Value} (hj : ops[j]? = some oj) (hap : oi.apart ops oj = true)
    (hsi : ∀ cs b, oi.op ≠ .select cs b) (hsj : ∀ cs b, oj.op ≠ .select cs b) {K : Act → Fact → Prop} {a : Act} {Φ : Fact}
    (hy : Qyields P ops C oi v a) (h : cOp P ops C ns ks j K (a.put oi.dst v) Φ) :
    cOp P ops C ns ks j (fun a' Φ' => Qyields P ops C oi v a' ∧ K (a'.put oi.dst v) Φ') a Φ := by
  obtain ⟨h1, h2, h3⟩ := Oper.apart_spec hap
  have keep : ∀ (a : Act), Qyields P ops C oi v a → ∀ u, Qyields P ops C oi v (a.put oj.dst u) := fun a hy u =>
    hy.of_same (execOp_put oi hsi a oj.dst u h3) (wanted_put oi a oj.dst u h3)
  unfold cOp at *
  by_cases hjn : j ∈ ns
  · rw [if_pos hjn] at *; exact ⟨hy, h⟩
  rw [if_neg hjn] at *
  simp only [hj] at *
  rw [wanted_put oj a oi.dst v h1] at h
  by_cases hw : Region.wanted oj (yielded ops a.tmps) = true
  · rw [if_pos hw] at h ⊢
    by_cases hk : j ∈ ks
    · rw [if_pos hk] at h ⊢
      intro w hc hp
      have := h w hc hp
      unfold callAt at *
      rw [execOp_put oj hsj a oi.dst v h1] at this
      refine callAt_mono (P := P) (o := oj) (a := a) (fun u w' ⟨k1, Φ', k2, k3, k4, k5⟩ => ⟨k1, Φ', k2, k3, k4, keep a hy u, by rw [← Act.put_comm a v u h2]; exact k5⟩) this
    · rw [if_neg hk] at h ⊢
      obtain ⟨u, hu, hn⟩ := h
      refine ⟨u, fun w hw' => ?_, keep a hy u, by rw [← Act.put_comm a v u h2]; exact hn⟩
      have := hu w hw'
      unfold qAt at *
      rwa [execOp_put oj hsj a oi.dst v h1] at this
  · rw [if_neg hw] at h ⊢
    exact ⟨keep a hy _, by rw [← Act.put_comm a v undef h2]; exact h⟩
def cHead (P : Program) (md : Region.Mode) (ops : Array Oper) (C : World → Prop) (ns : List Nat) (m : Nat) (ks : List Nat) (L : Array Bool → Act → Fact → Prop) : Nat → Array Bool → Act → Fact → Prop
  | 0, listed, a, Φ => L listed a Φ
  | f + 1, listed, a, Φ =>
    Region.ready md ops listed ≠ [] ∧ ∀ i ∈ Region.ready md ops listed, i < m ∧ cOp P ops C ns ks i (cHead P md ops C ns m ks L f (listed.setIfInBounds i true)) a Φ
/-- The calls wait one for the other. -/
def chained (md : Region.Mode) (ops : Array Oper) : List Nat → Bool
  | i :: j :: l => (match ops[j]? with | some o => o.after.any fun e => Region.binds md e && e.on == i | none => false) && chained md ops (j :: l)
  | _ => true
theorem chain_listed {m : Nat} {listed : Array Bool} (inv : HeadInv md ops m listed) : ∀ (l : List Nat), chained md ops l = true → ∀ (A B : List Nat) (i j : Nat), l = A ++ i :: B → j ∈ B →
    (listed.getD j false = true ∨ j ∈ Region.ready md ops listed) → listed.getD i false = true
  | [], _, A, B, i, j, e, hj, _ => by simp at e
  | [x], _, A, B, i, j, e, hj, _ => by
    rcases A with _ | ⟨a, A⟩
    · simp at e; obtain ⟨_, rfl⟩ := e; cases hj
    · simp at e
  | x :: y :: l, hc, A, B, i, j, e, hj, hor => by
    simp only [chained, Bool.and_eq_true] at hc
    obtain ⟨h1, h2⟩ := hc
    rcases A with _ | ⟨a, A⟩
    · simp at e
      obtain ⟨rfl, rfl⟩ := e
      have hy : listed.getD y false = true ∨ y ∈ Region.ready md ops listed := by
        rcases List.mem_cons.1 hj with rfl | hj
        · exact hor
        · exact .inl (chain_listed inv (y :: l) h2 [] l y j rfl hj hor)
      cases ho : ops[y]? with
      | none => simp [ho] at h1
      | some o =>
        simp only [ho] at h1
        obtain ⟨ed, he, hb⟩ := Array.any_eq_true'.1 h1
        simp only [Bool.and_eq_true, beq_iff_eq] at hb
        rw [← hb.2]
        rcases hy with hy | hy
        · exact inv.closed y o ho hy ed he hb.1
        · obtain ⟨_, o', ho', hall⟩ := mem_ready.1 hy
          rw [ho] at ho'
          cases ho'
          exact hall ed he hb.1
    · simp at e
      obtain ⟨_, e⟩ := e
      exact chain_listed inv (y :: l) h2 A B i j e hj hor
/-- An operation that stands first in the text may be taken first. -/
theorem cHead_first {ns : List Nat} {m i : Nat} {ks : List Nat} {oi : Oper} {L : Array Bool → Act → Fact → Prop} (hCl : ∀ w w', C w → Below w.heap.size w w' → C w') (hi : ops[i]? = some oi) (hsel : ∀ (j : Nat) (o : Oper) cs b, ops[j]? = some o → o.op ≠ .select cs b)
    (hs : Region.sinkB md ops m = true) (hc : Region.chainB md ops m = true) (hn : m < ops.size) (hin : i < m)
    (hdone : ∀ listed a Φ, L listed a Φ → ∀ j ∈ Region.ready md ops listed, m ≤ j) :
    ∀ (f : Nat) (listed : Array Bool) (a : Act) (Φ : Fact), HeadInv md ops m listed → stable Φ → (∃ w, C w ∧ Φ w) →
      (∀ j oj, ops[j]? = some oj → j ≠ i → listed.getD j true = false → (∀ e ∈ oj.after, Region.binds md e = true → e.on ≠ i) → oi.apart ops oj = true) →
      i ∈ Region.ready md ops listed → (i ∈ ks → ∀ j ∈ ks, j ≠ i → j ∉ Region.ready md ops listed) →
      (∀ (L2 : Array Bool), (∀ q, listed.getD q false = true → L2.getD q false = true) → L2.getD i true = false → HeadInv md ops m L2 → i ∈ ks → ∀ j ∈ ks, j ≠ i → j ∉ Region.ready md ops L2) →
      cOp P ops C ns ks i (cHead P md ops C ns m ks L f (listed.setIfInBounds i true)) a Φ → cHead P md ops C ns m ks L (f + 1) listed a Φ := by
  intro f
  induction f with
  | zero =>
    intro listed a Φ inv hst hex hfree hr hkr hch H
    have hun := (mem_ready.1 hr).1
    refine ⟨fun h => (by rw [h] at hr; cases hr), fun j hj => ?_⟩
    have hjn : j < m := by
      rcases Nat.lt_or_ge j m with h | h
      · exact h
      · exact absurd hj (tail_waits hs hc hn inv _ i rfl hin hun j h)
    refine ⟨hjn, ?_⟩
    by_cases hji : j = i
    · subst hji; exact H
    · exfalso
      have bad : ∀ a' Φ', cHead P md ops C ns m ks L 0 (listed.setIfInBounds i true) a' Φ' → False := fun a' Φ' h => by
        have := hdone _ _ _ h j (ready_mono hj hji)
        omega
      unfold cOp at H
      by_cases hin' : i ∈ ns
      · rw [if_pos hin'] at H; exact bad _ _ H
      rw [if_neg hin'] at H
      simp only [hi] at H
      split at H
      · split at H
        · obtain ⟨w, hw1, hw2⟩ := hex
          obtain ⟨v, w', _, Φ', _, _, _, h⟩ := callAt_ex (H w hw1 hw2)
          exact bad _ _ h
        · obtain ⟨v, _, h⟩ := H
          exact bad _ _ h
      · exact bad _ _ H
  | succ f ih =>
    intro listed a Φ inv hst hex hfree hr hkr hch H
    have hun := (mem_ready.1 hr).1
    refine ⟨fun h => (by rw [h] at hr; cases hr), fun j hj => ?_⟩
    have hjn : j < m := by
      rcases Nat.lt_or_ge j m with h | h
      · exact h
      · exact absurd hj (tail_waits hs hc hn inv _ i rfl hin hun j h)
    refine ⟨hjn, ?_⟩
    by_cases hji : j = i
    · subst hji; exact H
    · obtain ⟨hjun, oj, hoj, hall⟩ := mem_ready.1 hj
      have hnot : ∀ e ∈ oj.after, Region.binds md e = true → e.on ≠ i := fun e he hb heq => by
        have h1 := hall e he hb
        rw [heq, getD_both hun] at h1
        cases h1
      have hap := hfree j oj hoj hji hjun hnot
      have inv' := inv.set hj hjn
      have hr' := ready_mono hr (Ne.symm hji)
      have hfree' : ∀ k ok, ops[k]? = some ok → k ≠ i → (listed.setIfInBounds j true).getD k true = false →
          (∀ e ∈ ok.after, Region.binds md e = true → e.on ≠ i) → oi.apart ops ok = true := fun k ok hk hki hun' hno => by
        refine hfree k ok hk hki ?_ hno
        by_cases hjk : j = k
        · subst hjk; exact hjun
        · rw [getD_set_ne true hjk] at hun'; exact hun'
      have hun2 : (listed.setIfInBounds j true).getD i true = false := by rw [getD_set_ne true hji]; exact hun
      have hch' : ∀ (L2 : Array Bool), (∀ q, (listed.setIfInBounds j true).getD q false = true → L2.getD q false = true) → L2.getD i true = false → HeadInv md ops m L2 → i ∈ ks → ∀ j ∈ ks, j ≠ i → j ∉ Region.ready md ops L2 :=
        fun L2 hsub => hch L2 (fun q hq => hsub q (getD_set_true hq))
      have hkr' : i ∈ ks → ∀ j' ∈ ks, j' ≠ i → j' ∉ Region.ready md ops (listed.setIfInBounds j true) := hch' _ (fun q hq => hq) hun2 inv'
      have use := fun (a' : Act) (Φ' : Fact) (h1 : stable Φ') (h2 : ∃ w, C w ∧ Φ' w) (h3 : cOp P ops C ns ks i (cHead P md ops C ns m ks L f ((listed.setIfInBounds j true).setIfInBounds i true)) a' Φ') =>
        ih (listed.setIfInBounds j true) a' Φ' inv' h1 h2 hfree' hr' hkr' hch' h3
      rw [Array.setIfInBounds_comm _ _ hji] at use
      have hcomp : ∀ a' Φ', cHead P md ops C ns m ks L (f + 1) (listed.setIfInBounds i true) a' Φ' → cOp P ops C ns ks j (cHead P md ops C ns m ks L f ((listed.setIfInBounds i true).setIfInBounds j true)) a' Φ' := fun a' Φ' h => (h.2 j (ready_mono hj hji)).2
      obtain ⟨p1, p2, p3⟩ := Oper.apart_spec hap
      by_cases hin' : i ∈ ns
      · -- the block that floats
        unfold cOp at H
        rw [if_pos hin'] at H
        refine cOp_mono hCl hst hex (fun a' Φ' h1 h2 h3 => use a' Φ' h1 h2 ?_) (hcomp _ _ H)
        unfold cOp
        rw [if_pos hin']
        exact h3
      · by_cases hik : i ∈ ks
        · -- a call
          have hjk : j ∉ ks := fun h => hkr hik j h hji hj
          by_cases hwi : Region.wanted oi (yielded ops a.tmps) = true
          case neg =>
            unfold cOp at H
            rw [if_neg hin'] at H
            simp only [hi] at H
            rw [if_neg hwi] at H
            by_cases hjn' : j ∈ ns
            · unfold cOp
              rw [if_pos hjn']
              refine use a Φ hst hex ?_
              unfold cOp
              rw [if_neg hin']
              simp only [hi]
              rw [if_neg hwi]
              have := hcomp _ _ H
              unfold cOp at this
              rw [if_pos hjn'] at this
              exact this
            · obtain ⟨vj, hyj, hk⟩ := qyields_of_cOp hjn' hjk hoj (hcomp _ _ H)
              have hyj' : Qyields P ops C oj vj a := hyj.of_same (execOp_put oj (fun cs b => hsel j oj cs b hoj) a oi.dst undef p1).symm (wanted_put oj a oi.dst undef p1).symm
              refine hyj'.cOp hjn' hjk hoj (use _ Φ hst hex ?_)
              unfold cOp
              rw [if_neg hin']
              simp only [hi]
              rw [if_neg (by rw [wanted_put oi a oj.dst vj p3]; exact hwi)]
              rw [← Act.put_comm a undef vj p2]
              exact hk
          unfold cOp at H
          rw [if_neg hin'] at H
          simp only [hi] at H
          rw [if_pos hwi, if_pos hik] at H
          by_cases hjn' : j ∈ ns
          · unfold cOp
            rw [if_pos hjn']
            refine use a Φ hst hex ?_
            unfold cOp
            rw [if_neg hin']
            simp only [hi]
            rw [if_pos hwi, if_pos hik]
            intro w hw1 hw2
            refine callAt_mono (fun v w' ⟨k1, Φ', k2, k3, k4, k5⟩ => ⟨k1, Φ', k2, k3, k4, ?_⟩) (H w hw1 hw2)
            have := hcomp _ _ k5
            unfold cOp at this
            rw [if_pos hjn'] at this
            exact this
          · obtain ⟨w0, hw1, hw2⟩ := hex
            obtain ⟨v0, w0', k1, Φ0, k2, k3, k4, k5⟩ := callAt_ex (H w0 hw1 hw2)
            obtain ⟨vj, hyj, _⟩ := qyields_of_cOp hjn' hjk hoj (hcomp _ _ k5)
            have hyj' : Qyields P ops C oj vj a := hyj.of_same (execOp_put oj (fun cs b => hsel j oj cs b hoj) a oi.dst v0 p1).symm (wanted_put oj a oi.dst v0 p1).symm
            refine hyj'.cOp hjn' hjk hoj (use _ Φ hst ⟨w0, hw1, hw2⟩ ?_)
            unfold cOp
            rw [if_neg hin']
            simp only [hi]
            rw [if_pos (by rw [wanted_put oi a oj.dst vj p3]; exact hwi), if_pos hik]
            intro w hc1 hc2
            have := H w hc1 hc2
            unfold callAt
            rw [execOp_put oi (fun cs b => hsel i oi cs b hi) a oj.dst vj p3]
            refine callAt_mono (P := P) (o := oi) (a := a) (fun v w' ⟨q1, Φ', q2, q3, q4, q5⟩ => ⟨q1, Φ', q2, q3, q4, ?_⟩) this
            obtain ⟨vj', hz, hk⟩ := qyields_of_cOp hjn' hjk hoj (hcomp _ _ q5)
            have hz' : Qyields P ops C oj vj' a := hz.of_same (execOp_put oj (fun cs b => hsel j oj cs b hoj) a oi.dst v p1).symm (wanted_put oj a oi.dst v p1).symm
            obtain rfl := hz'.uniq ⟨w, hc1⟩ hyj'
            rw [← Act.put_comm a v vj' p2]
            exact hk
        · obtain ⟨v, hy, hK⟩ := qyields_of_cOp hin' hik hi H
          have h2 := cOp_put hoj hap (fun cs b => hsel i oi cs b hi) (fun cs b => hsel j oj cs b hoj) hy (hcomp _ _ hK)
          exact cOp_mono hCl hst hex (fun a' Φ' q1 q2 q3 => use a' Φ' q1 q2 (q3.1.cOp hin' hik hi q3.2)) h2
/-- One walk, in the text's order. -/
def wpC (P : Program) (ops : Array Oper) (C : World → Prop) (ns : List Nat) (ks : List Nat) (Lq : Act → Fact → Prop) : Nat → List Oper → Act → Fact → Prop
  | _, [], a, Φ => Lq a Φ
  | k, o :: rest, a, Φ =>
    if k ∈ ns then wpC P ops C ns ks Lq (k + 1) rest a Φ else
    if Region.wanted o (yielded ops a.tmps) then
      if k ∈ ks then ∀ w, C w → Φ w → callAt P o a w (Leaves Φ w o.dst a (wpC P ops C ns ks Lq (k + 1) rest))
      else ∃ v, (∀ w, C w → qAt P o a w v) ∧ wpC P ops C ns ks Lq (k + 1) rest (a.put o.dst v) Φ
    else wpC P ops C ns ks Lq (k + 1) rest (a.put o.dst undef) Φ
theorem cHead_lex {ns : List Nat} {m g : Nat} {ks : List Nat} {Lq : Act → Fact → Prop} (hCl : ∀ w w', C w → Below w.heap.size w w' → C w') (hsel : Region.noSelect ops = true) (hs : Region.sinkB md ops m = true) (hc : Region.chainB md ops m = true) (hn : m < ops.size)
    (hch : chained md ops ks = true) (hnd : ks.Nodup) (hsort : ∀ A B i j, ks = A ++ i :: B → j ∈ A → j < i) :
    ∀ (l : List Oper) (k : Nat) (listed : Array Bool) (a : Act) (Φ : Fact), (∀ j, j < l.length → l[j]? = ops[k + j]?) → k + l.length = m → HeadInv md ops m listed → stable Φ → (∃ w, C w ∧ Φ w) → (∀ j, j < k → listed.getD j false = true) →
    Region.lexHead md ops g l.length k listed = true → wpC P ops C ns ks Lq k l a Φ →
    cHead P md ops C ns m ks (fun listed' a' Φ' => Region.seqB md ops g m listed' = true ∧ Lq a' Φ') l.length listed a Φ
  | [], k, listed, a, Φ, _, hk, _, _, _, _, hB, h => by
    have : k = m := by simpa using hk
    subst this
    exact ⟨by simpa [Region.lexHead] using hB, h⟩
  | o :: l, k, listed, a, Φ, hl, hk, inv, hst, hex, hpre, hB, h => by
    have h0 : ops[k]? = some o := by simpa using (hl 0 (by simp)).symm
    rw [List.length_cons, Region.lexHead] at hB
    simp only [Bool.and_eq_true] at hB
    obtain ⟨⟨hr, hf⟩, hB'⟩ := hB
    have hkm : k < m := by simp only [List.length_cons] at hk; omega
    have hr' : k ∈ Region.ready md ops listed := by simpa using hr
    have hun := (mem_ready.1 hr').1
    have late : ∀ (L2 : Array Bool), (∀ q, listed.getD q false = true → L2.getD q false = true) → L2.getD k true = false → HeadInv md ops m L2 → k ∈ ks → ∀ j ∈ ks, j ≠ k → j ∉ Region.ready md ops L2 := by
      intro L2 hsub hk2 inv2 hkk j hj hjk hjr
      obtain ⟨A, B, e⟩ := List.append_of_mem hkk
      rw [e] at hj
      rcases List.mem_append.1 hj with hjA | hjB
      · have hlt := hsort A B k j e hjA
        have h1 := hsub j (hpre j hlt)
        have h2 := (mem_ready.1 hjr).1
        rw [getD_both h2] at h1
        cases h1
      · rcases List.mem_cons.1 hjB with rfl | hjB
        · exact hjk rfl
        · have := chain_listed inv2 ks hch A B k j e hjB (.inr hjr)
          rw [getD_both hk2] at this
          cases this
    have step : ∀ a' Φ', stable Φ' → (∃ w, C w ∧ Φ' w) → wpC P ops C ns ks Lq (k + 1) l a' Φ' → cHead P md ops C ns m ks (fun listed' a' Φ' => Region.seqB md ops g m listed' = true ∧ Lq a' Φ') l.length (listed.setIfInBounds k true) a' Φ' := fun a' Φ' h1 h2 h3 =>
      cHead_lex hCl hsel hs hc hn hch hnd hsort l (k + 1) _ a' Φ' (fun j hj => by have := hl (j + 1) (by simp; omega); simpa [Nat.add_assoc, Nat.add_comm 1 j] using this) (by simp only [List.length_cons] at hk; omega) (inv.set hr' hkm) h1 h2 (fun j hj => by
        by_cases hjk : k = j
        · subst hjk
          have : k < listed.size := by rw [inv.size]; omega
          simp [this]
        · rw [getD_set_ne false hjk]; exact hpre j (by omega)) hB' h3
    refine cHead_first hCl h0 (Region.noSelect_spec hsel) hs hc hn hkm (fun listed' a' Φ' hL => seqB_ready hL.1) l.length listed a Φ inv hst hex (Region.free_spec h0 hf) hr' (late listed (fun q hq => hq) hun inv) late ?_
    unfold wpC at h
    unfold cOp
    by_cases hkn : k ∈ ns
    · rw [if_pos hkn] at h ⊢
      exact step a Φ hst hex h
    rw [if_neg hkn] at h ⊢
    simp only [h0]
    by_cases hw : Region.wanted o (yielded ops a.tmps) = true
    · rw [if_pos hw] at h ⊢
      by_cases hkk : k ∈ ks
      · rw [if_pos hkk] at h ⊢
        exact fun w h1 h2 => callAt_mono (fun v w' ⟨q1, Φ', q2, q3, q4, q5⟩ => ⟨q1, Φ', q2, q3, q4, step _ _ q2 ⟨w', hCl _ _ h1 q1, q4⟩ q5⟩) (h w h1 h2)
      · rw [if_neg hkk] at h ⊢
        obtain ⟨v, h1, h2⟩ := h
        exact ⟨v, h1, step _ _ hst hex h2⟩
    · rw [if_neg hw] at h ⊢
      exact step _ _ hst hex h
theorem wp_of_q {o : Oper} {a : Act} {v : Value} {K' : Act → World → Prop} {Q' : Exit → Act → World → Prop} {w : World} (h1 : qAt P o a w v) (h : K' (a.put o.dst v) w) : o.wp P a w K' Q' := by
  unfold qAt at h1
  unfold Oper.wp
  generalize (execOp a.eval o).run P w = r at *
  cases r with
  | ok n w' =>
    cases n <;> simp only [qUpon] at h1 <;> simp only [Oper.upon]
    · rw [h1.1, h1.2]; exact h
    · rw [h1.1, ← h1.2]; exact h
  | halt x w' => simp only [qUpon] at h1
theorem wp_of_call {o : Oper} {a : Act} {R : Value → World → Prop} {K' : Act → World → Prop} {Q' : Exit → Act → World → Prop} {w : World} (h1 : callAt P o a w R) (h : ∀ v w', R v w' → K' (a.put o.dst v) w') : o.wp P a w K' Q' := by
  unfold callAt at h1
  unfold Oper.wp
  generalize (execOp a.eval o).run P w = r at *
  cases r with
  | ok n w' =>
    cases n <;> simp only [cUpon] at h1 <;> simp only [Oper.upon]
    · exact h _ _ h1
    · obtain ⟨e1, hc⟩ := h1
      rw [e1]
      exact hc.mono fun e w'' ⟨v, he, hr⟩ => by subst he; exact h _ _ hr
  | halt x w' => simp only [cUpon] at h1
/-- A block that floats: where it is made, its name, its cells. -/
structure FS where
  n : Nat
  d : Tmp
  t : TypeId
  zs : Array Value
/-- What is known of it. -/
def Floats (P : Program) (ops : Array Oper) (m : Nat) (f : FS) : Prop :=
  f.n < m ∧ ∃ oa, ops[f.n]? = some oa ∧ oa.dst = some f.d ∧ oa.guard = none ∧ (∀ (a : Act) (w : World), (execOp a.eval oa).run P w = .ok (.value (.pointer (some ⟨w.heap.size, 0, none⟩))) (w.alloc (.cells f.zs f.t))) ∧
    ∀ j oj, ops[j]? = some oj → j < m → j ≠ f.n → oa.apart ops oj = true
def puts : List (FS × Nat) → Act → Act
  | [], a => a
  | (f, b) :: l, a => (puts l a).put (some f.d) (.pointer (some ⟨b, 0, none⟩))
theorem puts_put {dst : Option Tmp} {v : Value} : ∀ (bs : List (FS × Nat)) (a : Act), (∀ p ∈ bs, dst ≠ some p.1.d) → puts bs (a.put dst v) = (puts bs a).put dst v
  | [], _, _ => rfl
  | (f, b) :: l, a, h => by
    show (puts l (a.put dst v)).put _ _ = _
    rw [puts_put l a (fun p hp => h p (List.mem_cons_of_mem _ hp))]
    exact (Act.put_comm (puts l a) _ v (fun d hd => by cases hd; exact h (f, b) (List.mem_cons_self ..))).symm
theorem puts_exec {o : Oper} (hs : ∀ cs b, o.op ≠ .select cs b) : ∀ (bs : List (FS × Nat)) (a : Act), (∀ p ∈ bs, p.1.d ∉ o.looksAt ops) → execOp (puts bs a).eval o = execOp a.eval o
  | [], _, _ => rfl
  | (f, b) :: l, a, h => by
    show execOp ((puts l a).put _ _).eval o = _
    rw [execOp_put o hs (puts l a) (some f.d) _ (fun d hd => by cases hd; exact h (f, b) (List.mem_cons_self ..)), puts_exec hs l a (fun p hp => h p (List.mem_cons_of_mem _ hp))]
theorem puts_wanted {o : Oper} : ∀ (bs : List (FS × Nat)) (a : Act), (∀ p ∈ bs, p.1.d ∉ o.looksAt ops) → Region.wanted o (yielded ops (puts bs a).tmps) = Region.wanted o (yielded ops a.tmps)
  | [], _, _ => rfl
  | (f, b) :: l, a, h => by
    show Region.wanted o (yielded ops ((puts l a).put _ _).tmps) = _
    rw [wanted_put o (puts l a) (some f.d) _ (fun d hd => by cases hd; exact h (f, b) (List.mem_cons_self ..)), puts_wanted l a (fun p hp => h p (List.mem_cons_of_mem _ hp))]
/-- The blocks that are made, each with its own number. -/
def made (fs : List FS) (B : Nat) (w : World) (bs : List (FS × Nat)) : Prop :=
  (∀ p ∈ bs, p.1 ∈ fs ∧ B ≤ p.2 ∧ BK w p.2 p.1.t p.1.zs) ∧ (bs.map (·.1.n)).Nodup ∧ (bs.map (·.2)).Nodup
def tRelS (fs : List FS) (B : Nat) (listed : Array Bool) (a ac : Act) (w : World) : Prop :=
  ∃ bs, made fs B w bs ∧ (∀ p ∈ bs, listed.getD p.1.n false = true) ∧ (∀ f ∈ fs, listed.getD f.n false = true → f.n ∈ bs.map (·.1.n)) ∧ ac = puts bs a
theorem wpAny_of_cHead {m g B : Nat} {fs : List FS} {ks : List Nat} {L : Array Bool → Act → Fact → Prop} {Q' : Exit → Act → World → Prop} (hm : m < ops.size) (hsel : ∀ (j : Nat) (o : Oper) cs b, ops[j]? = some o → o.op ≠ .select cs b)
    (hfl : ∀ f ∈ fs, Floats P ops m f) (hCl : ∀ w w', C w → Below w.heap.size w w' → C w') (hCB : ∀ w, C w → B ≤ w.heap.size)
    (hL : ∀ listed a ac w Φ, HeadInv md ops m listed → C w → Φ w → L listed a Φ → tRelS fs B listed a ac w → wpAny P md ops Q' g listed ac w) :
    ∀ (f : Nat) (listed : Array Bool) (a ac : Act) (w : World) (Φ : Fact), HeadInv md ops m listed → C w → stable Φ → Φ w → tRelS fs B listed a ac w → cHead P md ops C (fs.map (·.n)) m ks L f listed a Φ → wpAny P md ops Q' (f + g) listed ac w := by
  intro f
  induction f with
  | zero => intro listed a ac w Φ inv hw hst hp hr h; rw [Nat.zero_add]; exact hL _ _ _ _ _ inv hw hp h hr
  | succ f ih =>
    intro listed a ac w Φ inv hw hst hp hr h
    rw [show f + 1 + g = (f + g) + 1 by omega]
    refine ⟨fun h0 => absurd h0 h.1, fun i hi => ?_⟩
    obtain ⟨him, h1⟩ := h.2 i hi
    have hun := (mem_ready.1 hi).1
    obtain ⟨bs, ⟨hbs, hnd1, hnd2⟩, hlst, hall, rfl⟩ := hr
    by_cases hin : i ∈ fs.map (·.n)
    · unfold cOp at h1
      rw [if_pos hin] at h1
      obtain ⟨F, hF, rfl⟩ := List.mem_map.1 hin
      obtain ⟨_, oa, ho, hd, hgd, hrun, _⟩ := hfl F hF
      unfold wpOp
      simp only [ho]
      rw [if_pos (by simp [Region.wanted, hgd])]
      refine .inl ?_
      unfold Oper.wp
      rw [hrun]
      show wpAny P md ops Q' (f + g) (listed.setIfInBounds F.n true) ((puts bs a).put oa.dst (.pointer (some ⟨w.heap.size, 0, none⟩))) (w.alloc (.cells F.zs F.t))
      rw [hd]
      have hba : Below w.heap.size w (w.alloc (.cells F.zs F.t)) := (Below.refl _ _).alloc (Nat.le_refl _) _
      refine ih _ a _ _ Φ (inv.set hi him) (hCl _ _ hw hba) hst (hst _ _ hp hba) ⟨(F, w.heap.size) :: bs, ⟨fun p hp' => ?_, ?_, ?_⟩, fun p hp' => ?_, fun f' hf' hl' => ?_, rfl⟩ h1
      · rcases List.mem_cons.1 hp' with rfl | hp'
        · exact ⟨hF, hCB _ hw, BK.new w _ _⟩
        · obtain ⟨q1, q2, q3⟩ := hbs p hp'
          exact ⟨q1, q2, q3.alloc _⟩
      · rw [List.map_cons]
        refine List.nodup_cons.2 ⟨fun hmem => ?_, hnd1⟩
        obtain ⟨p, hp', hpe⟩ := List.mem_map.1 hmem
        have := hlst p hp'
        rw [hpe, getD_both hun] at this
        cases this
      · rw [List.map_cons]
        refine List.nodup_cons.2 ⟨fun hmem => ?_, hnd2⟩
        obtain ⟨p, hp', hpe⟩ := List.mem_map.1 hmem
        have := (hbs p hp').2.2.lt
        simp only at hpe
        omega
      · rcases List.mem_cons.1 hp' with rfl | hp'
        · simp [inv.size]; omega
        · exact getD_set_true (hlst p hp')
      · rw [List.map_cons]
        by_cases he : F.n = f'.n
        · rw [he]; exact List.mem_cons_self ..
        · rw [getD_set_ne false he] at hl'
          exact List.mem_cons_of_mem _ (hall f' hf' hl')
    · have key : ∀ a' w' Φ', C w' → stable Φ' → Φ' w' → Below w.heap.size w w' → cHead P md ops C (fs.map (·.n)) m ks L f (listed.setIfInBounds i true) a' Φ' → wpAny P md ops Q' (f + g) (listed.setIfInBounds i true) (puts bs a') w' := by
        intro a' w' Φ' hw' hst' hp' hb h2
        refine ih _ a' _ w' Φ' (inv.set hi him) hw' hst' hp' ⟨bs, ⟨fun p hp => ?_, hnd1, hnd2⟩, fun p hp => getD_set_true (hlst p hp), fun f' hf' hl' => ?_, rfl⟩ h2
        · obtain ⟨q1, q2, q3⟩ := hbs p hp
          exact ⟨q1, q2, q3.below hb q3.lt⟩
        · rw [getD_set_ne false (fun e : i = f'.n => hin (List.mem_map.2 ⟨f', hf', e.symm⟩))] at hl'
          exact hall f' hf' hl'
      unfold cOp at h1
      rw [if_neg hin] at h1
      unfold wpOp
      cases ho : ops[i]? with
      | none =>
        simp only [ho] at h1 ⊢
        exact key a w Φ hw hst hp (Below.refl _ _) h1
      | some o =>
        simp only [ho] at h1 ⊢
        have hapart : ∀ p ∈ bs, p.1.d ∉ o.looksAt ops ∧ o.dst ≠ some p.1.d := fun p hp => by
          obtain ⟨q1, _, _⟩ := hbs p hp
          obtain ⟨_, oa, _, hd, _, _, hap⟩ := hfl p.1 q1
          obtain ⟨p1, p2, _⟩ := Oper.apart_spec (hap i o ho him (fun e => hin (List.mem_map.2 ⟨p.1, q1, e.symm⟩)))
          exact ⟨p1 _ hd, p2 _ hd⟩
        have hpe : execOp (puts bs a).eval o = execOp a.eval o := puts_exec (fun cs q => hsel i o cs q ho) bs a (fun p hp => (hapart p hp).1)
        have hpw : Region.wanted o (yielded ops (puts bs a).tmps) = Region.wanted o (yielded ops a.tmps) := puts_wanted bs a (fun p hp => (hapart p hp).1)
        have hpp : ∀ v, puts bs (a.put o.dst v) = (puts bs a).put o.dst v := fun v => puts_put bs a (fun p hp => (hapart p hp).2)
        rw [hpw]
        by_cases hw' : Region.wanted o (yielded ops a.tmps) = true
        · rw [if_pos hw'] at h1 ⊢
          refine .inl ?_
          by_cases hik : i ∈ ks
          · rw [if_pos hik] at h1
            have h2 := h1 w hw hp
            unfold callAt at h2
            rw [← hpe] at h2
            refine wp_of_call (P := P) (o := o) (a := puts bs a) h2 (fun v w' ⟨q1, Φ', q2, q3, q4, q5⟩ => ?_)
            rw [← hpp v]
            exact key _ w' Φ' (hCl _ _ hw q1) q2 q4 q1 q5
          · rw [if_neg hik] at h1
            obtain ⟨v, h2, h3⟩ := h1
            have h4 := h2 w hw
            unfold qAt at h4
            rw [← hpe] at h4
            refine wp_of_q (P := P) (o := o) (a := puts bs a) h4 ?_
            rw [← hpp v]
            exact key _ w Φ hw hst hp (Below.refl _ _) h3
        · rw [if_neg hw'] at h1 ⊢
          rw [← hpp undef]
          exact key _ w Φ hw hst hp (Below.refl _ _) h1
def incr : List Nat → Bool
  | i :: j :: l => decide (i < j) && incr (j :: l)
  | _ => true
theorem incr_lt : ∀ (l : List Nat) (i : Nat), incr (i :: l) = true → ∀ j ∈ l, i < j
  | [], _, _, j, hj => by cases hj
  | x :: l, i, h, j, hj => by
    simp only [incr, Bool.and_eq_true, decide_eq_true_eq] at h
    rcases List.mem_cons.1 hj with rfl | hj
    · exact h.1
    · have := incr_lt l x h.2 j hj; omega
theorem incr_tail (i : Nat) (l : List Nat) (h : incr (i :: l) = true) : incr l = true := by
  cases l with
  | nil => rfl
  | cons j l => simp only [incr, Bool.and_eq_true] at h; exact h.2
theorem incr_sort : ∀ (ks : List Nat), incr ks = true → ∀ A B i j, ks = A ++ i :: B → j ∈ A → j < i
  | [], _, A, B, i, j, e, hj => by simp at e
  | x :: ks, h, A, B, i, j, e, hj => by
    rcases A with _ | ⟨y, A⟩
    · cases hj
    · simp at e
      obtain ⟨rfl, e⟩ := e
      rcases List.mem_cons.1 hj with rfl | hj
      · exact incr_lt ks j h i (by rw [e]; simp)
      · exact incr_sort ks (incr_tail x ks h) A B i j e hj
theorem incr_nodup : ∀ (ks : List Nat), incr ks = true → ks.Nodup
  | [], _ => List.nodup_nil
  | x :: ks, h => List.nodup_cons.2 ⟨fun hm => by have := incr_lt ks x h x hm; omega, incr_nodup ks (incr_tail x ks h)⟩
def okB (md : Region.Mode) (ops : Array Oper) (m : Nat) (ks : List Nat) : Bool := Region.lexTailB md ops m && (chained md ops ks && incr ks)
theorem wpC_end {ns : List Nat} {ks : List Nat} {L L' : Act → Fact → Prop} (h : ∀ a Φ, L a Φ → L' a Φ) : ∀ (l : List Oper) (k : Nat) (a : Act) (Φ : Fact), wpC P ops C ns ks L k l a Φ → wpC P ops C ns ks L' k l a Φ
  | [], _, a, Φ, hh => h a Φ hh
  | o :: l, k, a, Φ, hh => by
    unfold wpC at hh ⊢
    split
    · rename_i h1; rw [if_pos h1] at hh; exact wpC_end h l _ a Φ hh
    · rename_i h1
      rw [if_neg h1] at hh
      split
      · rename_i h2
        rw [if_pos h2] at hh
        split
        · rename_i h3
          rw [if_pos h3] at hh
          exact fun w q1 q2 => callAt_mono (fun v w' ⟨p1, Φ', p2, p3, p4, p5⟩ => ⟨p1, Φ', p2, p3, p4, wpC_end h l _ _ _ p5⟩) (hh w q1 q2)
        · rename_i h3
          rw [if_neg h3] at hh
          obtain ⟨v, p1, p2⟩ := hh
          exact ⟨v, p1, wpC_end h l _ _ _ p2⟩
      · rename_i h2
        rw [if_neg h2] at hh
        exact wpC_end h l _ _ _ hh
theorem wp_region_ch0 {id : Nat} {Q : Exit → Act → World → Prop} {a : Act} {w : World} {l : List Oper} (m : Nat) (fs : List FS) (ks : List Nat) (hm : P.follows .mixedOrders = true)
    (hB : okB .any l.toArray m ks = true) (hfl : ∀ f ∈ fs, Floats P l.toArray m f)
    (h : wpC P l.toArray (fun w' => ∃ p : Regrown, w' = grow (redrawn w p.d) p.os) (fs.map (·.n)) ks (fun a' Φ => ∀ w', Below w.heap.size w w' → Φ w' → ∀ bs, made fs w.heap.size w' bs → (∀ f ∈ fs, f.n ∈ bs.map (·.1.n)) → wpList P l.toArray Q (l.drop m) (puts bs a') w') 0 (l.take m) a (fun _ => True)) :
    (Code.region id l.toArray true).wp P Q a w := by
  simp only [okB, Region.lexTailB, Bool.and_eq_true, decide_eq_true_eq] at hB
  obtain ⟨⟨⟨⟨⟨hsel, hn⟩, hs⟩, hc⟩, hlex⟩, hch, hin⟩ := hB
  have hn' : m < l.length := by simpa using hn
  have htl : (l.take m).length = m := by simp; omega
  have hdl : (l.drop m).length = l.toArray.size - m := by simp
  have hCl : ∀ w1 w2 : World, (∃ p : Regrown, w1 = grow (redrawn w p.d) p.os) → Below w1.heap.size w1 w2 → ∃ p : Regrown, w2 = grow (redrawn w p.d) p.os :=
    fun w1 w2 ⟨p, hp⟩ hb => by subst hp; exact regrown_of_below ((below_regrown w p.d p.os).trans (hb.mono (below_regrown w p.d p.os).size))
  have inv0 : HeadInv .any l.toArray m (Array.replicate l.toArray.size false) :=
    ⟨by simp, fun j oj _ hl => (by rw [getD_replicate_false] at hl; cases hl), fun t _ ht => getD_in (by simpa using ht) (getD_replicate_false _ _)⟩
  have H := cHead_lex (md := .any) (g := l.toArray.size - m) hCl hsel hs hc hn hch (incr_nodup ks hin) (incr_sort ks hin) (l.take m) 0 _ a (fun _ => True) (fun j hj => by
    have hj' : j < m := by rw [htl] at hj; exact hj
    simp [hj']) (by simpa using htl) inv0 (fun _ _ _ _ => trivial) ⟨w, ⟨⟨w.drawn, #[]⟩, by rw [grow_empty]; rfl⟩, trivial⟩ (fun j hj => by omega) (by rw [htl]; exact hlex) h
  refine wp_region_any hm ?_
  have := wpAny_of_cHead (Q' := Q) (g := l.toArray.size - m) (B := w.heap.size) hn (Region.noSelect_spec hsel) hfl hCl
    (fun w1 ⟨p, hp⟩ => by subst hp; exact (below_regrown w p.d p.os).size)
    (fun listed a' ac w' Φ inv hw' hp hL hr => by
      obtain ⟨hL1, hL2⟩ := hL
      obtain ⟨p, hp'⟩ := hw'
      obtain ⟨bs, hmade, _, hall, rfl⟩ := hr
      have hin : ∀ f ∈ fs, f.n ∈ bs.map (·.1.n) := fun f hf => by
        cases e : listed.getD f.n false with
        | true => exact hall f hf e
        | false =>
          exfalso
          have hnm := (hfl f hf).1
          have hun : listed.getD f.n true = false := getD_in (by have := inv.size; omega) e
          have hB1 := hL1
          have hsz : l.toArray.size - m = (l.toArray.size - (m + 1)) + 1 := by omega
          rw [hsz] at hB1
          simp only [Region.seqB, Bool.and_eq_true, decide_eq_true_eq] at hB1
          exact tail_waits hs hc hn inv _ f.n rfl hnm hun m (Nat.le_refl _) (by rw [hB1.1]; simp)
      have := wpAny_of_seq (md := .any) (Q' := Q) (l.drop m) m listed (puts bs a') w' (fun j => by simp [List.getElem?_drop]) (by rw [hdl]; exact hL1) (hL2 w' (by rw [hp']; exact below_regrown w p.d p.os) hp bs hmade hin)
      rwa [hdl] at this) _ _ _ _ _ (fun _ => True) inv0 ⟨⟨w.drawn + 1, #[]⟩, by rw [grow_empty]⟩ (fun _ _ _ _ => trivial) trivial ⟨[], ⟨fun p hp => (by cases hp), List.nodup_nil, List.nodup_nil⟩, fun p hp => (by cases hp), fun f _ hl => (by rw [getD_replicate_false] at hl; cases hl), rfl⟩ H
  rw [htl, show m + (l.toArray.size - m) = l.toArray.size by omega] at this
  exact this
/-- The law: m operations (those of ks calls), then a tail in order. -/
theorem wp_region_ch {id : Nat} {Q : Exit → Act → World → Prop} {a : Act} {w : World} {l : List Oper} (m : Nat) (ks : List Nat) (hm : P.follows .mixedOrders = true) (hB : okB .any l.toArray m ks = true)
    (h : wpC P l.toArray (fun w' => ∃ p : Regrown, w' = grow (redrawn w p.d) p.os) [] ks (fun a' Φ => ∀ w', Below w.heap.size w w' → Φ w' → wpList P l.toArray Q (l.drop m) a' w') 0 (l.take m) a (fun _ => True)) :
    (Code.region id l.toArray true).wp P Q a w := by
  refine wp_region_ch0 m [] ks hm hB (fun f hf => (by cases hf)) ?_
  refine wpC_end (fun a' Φ h w' h1 h2 bs h3 _ => ?_) _ _ _ _ h
  have : bs = [] := by
    cases bs with
    | nil => rfl
    | cons p bs => exact absurd (h3.1 p (List.mem_cons_self ..)).1 (by simp)
  subst this
  exact h w' h1 h2
def floatB (ops : Array Oper) (m n : Nat) (oa : Oper) : Bool := (List.range m).all fun j => j == n || (match ops[j]? with | some o => oa.apart ops o | none => true)
theorem floatB_spec {m n : Nat} {oa : Oper} (h : floatB ops m n oa = true) : ∀ j oj, ops[j]? = some oj → j < m → j ≠ n → oa.apart ops oj = true := fun j oj hj hjm hjn => by
  have := (List.all_eq_true.1 h) j (List.mem_range.2 hjm)
  simpa [hjn, hj] using this
/-- The law, with one block made at n. -/
theorem wp_region_cha {id : Nat} {Q : Exit → Act → World → Prop} {a : Act} {w : World} {l : List Oper} (m n : Nat) (ks : List Nat) (t : TypeId) (zs : Array Value) (d : Tmp) (oa : Oper) (hm : P.follows .mixedOrders = true) (hnm : n < m)
    (hoa : l.toArray[n]? = some oa) (hda : oa.dst = some d) (hga : oa.guard = none) (hrun : ∀ (a : Act) (w : World), (execOp a.eval oa).run P w = .ok (.value (.pointer (some ⟨w.heap.size, 0, none⟩))) (w.alloc (.cells zs t)))
    (hB : (okB .any l.toArray m ks && floatB l.toArray m n oa) = true)
    (h : wpC P l.toArray (fun w' => ∃ p : Regrown, w' = grow (redrawn w p.d) p.os) [n] ks (fun a' Φ => ∀ b w', Below w.heap.size w w' → Φ w' → w.heap.size ≤ b → BK w' b t zs → wpList P l.toArray Q (l.drop m) (a'.put (some d) (.pointer (some ⟨b, 0, none⟩))) w') 0 (l.take m) a (fun _ => True)) :
    (Code.region id l.toArray true).wp P Q a w := by
  simp only [Bool.and_eq_true] at hB
  refine wp_region_ch0 m [⟨n, d, t, zs⟩] ks hm hB.1 (fun f hf => ?_) ?_
  · simp only [List.mem_singleton] at hf
    subst hf
    exact ⟨hnm, oa, hoa, hda, hga, hrun, floatB_spec hB.2⟩
  · refine wpC_end (fun a' Φ h w' h1 h2 bs h3 h4 => ?_) _ _ _ _ h
    obtain ⟨h5, h6, h7⟩ := h3
    match bs, h4, h5, h6, h7 with
    | [], h4, _, _, _ => exact absurd (h4 _ (List.mem_cons_self ..)) (by simp)
    | [(f, b)], _, h5, _, _ =>
      obtain ⟨q1, q2, q3⟩ := h5 _ (List.mem_cons_self ..)
      simp only [List.mem_singleton] at q1
      subst q1
      exact h b w' h1 h2 q2 q3
    | p :: q :: bs, _, h5, h6, _ =>
      exfalso
      have e1 := (h5 p (by simp)).1
      have e2 := (h5 q (by simp)).1
      simp only [List.mem_singleton] at e1 e2
      simp [e1, e2] at h6
/-! ### Steps -/
variable {k : Nat} {ns ks : List Nat} {Lq : Act → Fact → Prop} {o : Oper} {rest : List Oper} {a : Act} {Φ : Fact}
theorem wpC_nil (h : Lq a Φ) : wpC P ops C ns ks Lq k [] a Φ := h
theorem wpC_q (h1 : k ∉ ns) (h2 : k ∉ ks) (h : ∀ K : Act → Prop, (∀ a, wpC P ops C ns ks Lq (k + 1) rest a Φ → K a) → if Region.wanted o (yielded ops a.tmps) then (∃ v, (∀ w, C w → qAt P o a w v) ∧ K (a.put o.dst v)) else K (a.put o.dst undef)) :
    wpC P ops C ns ks Lq k (o :: rest) a Φ := by
  unfold wpC
  rw [if_neg h1]
  have := h _ (fun _ h => h)
  by_cases hw : Region.wanted o (yielded ops a.tmps) = true
  · rw [if_pos hw] at this
    rw [if_pos hw, if_neg h2]
    exact this
  · rw [if_neg hw] at this
    rw [if_neg hw]
    exact this
theorem wpC_a (h1 : k ∈ ns) (h : wpC P ops C ns ks Lq (k + 1) rest a Φ) : wpC P ops C ns ks Lq k (o :: rest) a Φ := by
  unfold wpC
  rw [if_pos h1]
  exact h
/-- The same with a guard that holds. -/
theorem wpC_cg {ι : Type} (f : FuncId) (args : Array Value) (v : ι → Value) (G : ι → Fact) (h1 : k ∉ ns) (h2 : k ∈ ks) (hg : Region.wanted o (yielded ops a.tmps) = true) (hx : ∀ w, (execOp a.eval o).run P w = .ok (.enter f args) w) (hst : stable Φ) (hG : ∀ i, stable (G i))
    (hc : ∀ w, C w → Φ w → Calls P f args w (fun e w' => ∃ i, e = .returned (v i) ∧ G i w' ∧ Below w.heap.size w w')) (h : ∀ i, stable (fun x => Φ x ∧ G i x) → wpC P ops C ns ks Lq (k + 1) rest (a.put o.dst (v i)) (fun x => Φ x ∧ G i x)) :
    wpC P ops C ns ks Lq k (o :: rest) a Φ := by
  unfold wpC
  rw [if_neg h1, if_pos hg, if_pos h2]
  intro w hw hp
  unfold callAt
  rw [hx]
  refine ⟨rfl, (hc w hw hp).mono ?_⟩
  rintro e w' ⟨i, rfl, h3, h4⟩
  have hs : stable (fun x => Φ x ∧ G i x) := fun x y hxy hb => ⟨hst x y hxy.1 hb, hG i x y hxy.2 hb⟩
  exact ⟨_, rfl, h4, _, hs, fun x hx => hx.1, ⟨hst w w' hp h4, h3⟩, h i hs⟩
/-- An operation of the chain that is not a call of a function: an append. -/
theorem wpC_v {ι : Type} (v : ι → Value) (G : ι → Fact) (h1 : k ∉ ns) (h2 : k ∈ ks) (hg : o.guard = none) (hst : stable Φ) (hG : ∀ i, stable (G i))
    (hc : ∀ w, C w → Φ w → ∃ i w', (execOp a.eval o).run P w = .ok (.value (v i)) w' ∧ G i w' ∧ Below w.heap.size w w') (h : ∀ i, stable (fun x => Φ x ∧ G i x) → wpC P ops C ns ks Lq (k + 1) rest (a.put o.dst (v i)) (fun x => Φ x ∧ G i x)) :
    wpC P ops C ns ks Lq k (o :: rest) a Φ := by
  unfold wpC
  rw [if_neg h1, if_pos (by simp [Region.wanted, hg]), if_pos h2]
  intro w hw hp
  unfold callAt
  obtain ⟨i, w', hx, h3, h4⟩ := hc w hw hp
  rw [hx]
  have hs : stable (fun x => Φ x ∧ G i x) := fun x y hxy hb => ⟨hst x y hxy.1 hb, hG i x y hxy.2 hb⟩
  exact ⟨h4, _, hs, fun x hx => hx.1, ⟨hst w w' hp h4, h3⟩, h i hs⟩
theorem stable_true : stable (fun _ => True) := fun _ _ _ _ => trivial
theorem stable_ow {α : Type} (f : α → List Value) (sz : Nat) (e : TypeId) (base : Nat) (A : Option Addr) (n c : Nat) (xs : List α) : stable (fun w => OW f sz e base w A n c xs) := fun _ _ h hb => h.call hb
end
attribute [go_sem] qAt qUpon
end Go.Proofs.YtafclpmnpamipaaGreat

/- The laws of Reg3 for a region inside a loop's round. Plain theorems over any program. -/
namespace Go.Proofs.YtafclpmnpamipaaGreat
open Go.RowKit Go.Sort

section
variable {P : Program} {ops : Array Oper} {md : Region.Mode} {C : World → Prop} {lp mr : Nat}
theorem wpIn_of_q {o : Oper} {a : Act} {v : Value} {K' : Act → World → Prop} {Q' : Exit → Act → World → Prop} {w : World} (hd : ∀ c, o.op ≠ .defer c) (h1 : qAt P o a w v) (h : K' (a.put o.dst v) w) : o.wpIn (Fence.wide.inRound lp) mr P a w K' Q' := by
  refine ⟨fun _ _ => trivial, ?_⟩
  rw [Oper.semAt_eq _ _ _ hd]
  unfold qAt at h1
  generalize (execOp a.eval o).run P w = r at *
  cases r with
  | ok n w' =>
    cases n <;> simp only [qUpon] at h1 <;> simp only [Oper.uponIn]
    · rw [h1.1, h1.2]; exact h
    · rw [h1.1, ← h1.2]; exact h
  | halt x w' => simp only [qUpon] at h1
end
/-! ### Under the wide fence, outside a round -/
section
variable {P : Program} {ops : Array Oper} {md : Region.Mode} {C : World → Prop} {m : Nat}
end
theorem grownBy_of_below {w w' : World} (h : Below w.heap.size w w') : w.grownBy w' none := ⟨h.os, h.tape, h.output, h.size, fun i hi _ => h.block i hi⟩
end Go.Proofs.YtafclpmnpamipaaGreat

/- The laws of Reg3, with blocks that float and are filled by a store of their own, which floats too. Printed by genreg5.py. Plain theorems over any program. -/
namespace Go.Proofs.YtafclpmnpamipaaGreat
open Go.RowKit Go.Sort

section
variable {P : Program} {ops : Array Oper} {md : Region.Mode} {C : World → Prop} {st : Fact → Prop} {G : Nat → Act → Prop}
theorem put_size (a : Act) (d : Option Tmp) (v : Value) : (a.put d v).tmps.size = a.tmps.size := by cases d <;> simp [Act.put]
section
variable {lp mr : Nat}
end

/-! ### Steps -/
variable {k : Nat} {ns ks : List Nat} {Lq : Act → Fact → Prop} {o : Oper} {rest : List Oper} {a : Act} {Φ : Fact}
end
end Go.Proofs.YtafclpmnpamipaaGreat
