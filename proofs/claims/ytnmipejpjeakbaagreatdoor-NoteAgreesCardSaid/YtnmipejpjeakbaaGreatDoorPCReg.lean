/- A region that draws its order: its first operations only read or make quiet calls, in any order; the rest comes last, in one forced order. One walk of the text's order serves every order. Plain theorems over any program, outside a fence and inside a loop's round. -/
import Derived.StillTail
import Derived.OrdersIn
import Derived.TacticsIn
import Derived.RangeFuncCalls
import Derived.RangeFuncNested
import Derived.Lib.QuietBelow
import Derived.Test.YtnmipejpjeakbaaGreatDoorPCBase
namespace Go.Proofs.YtnmipejpjeakbaaGreatDoor
open Go.RowKit Go.Sort

section
variable {P : Program} {ops : Array Oper} {md : Region.Mode} {C : World → Prop}

/-- Whatever order the first n operations come up in. -/
def anyHead (P : Program) (md : Region.Mode) (ops : Array Oper) (C : World → Prop) (n : Nat) (L : Array Bool → Act → Prop) : Nat → Array Bool → Act → Prop
  | 0, listed, a => L listed a
  | f + 1, listed, a =>
    Region.ready md ops listed ≠ [] ∧ ∀ i ∈ Region.ready md ops listed, i < n ∧ qOp P ops C i (anyHead P md ops C n L f (listed.setIfInBounds i true)) a
theorem anyHead_first {n i : Nat} {oi : Oper} {v : Value} {L : Array Bool → Act → Prop} (hi : ops[i]? = some oi) (hsel : ∀ (j : Nat) (o : Oper) cs b, ops[j]? = some o → o.op ≠ .select cs b)
    (hs : Region.sinkB md ops n = true) (hc : Region.chainB md ops n = true) (hn : n < ops.size) (hin : i < n)
    (hdone : ∀ listed a, L listed a → ∀ j ∈ Region.ready md ops listed, n ≤ j) :
    ∀ (f : Nat) (listed : Array Bool) (a : Act), HeadInv md ops n listed →
      (∀ j oj, ops[j]? = some oj → j ≠ i → listed.getD j true = false → (∀ e ∈ oj.after, Region.binds md e = true → e.on ≠ i) → oi.apart ops oj = true) →
      i ∈ Region.ready md ops listed → YieldsIn P ops C oi v a →
      anyHead P md ops C n L f (listed.setIfInBounds i true) (a.put oi.dst v) → anyHead P md ops C n L (f + 1) listed a := by
  intro f
  induction f with
  | zero =>
    intro listed a inv _ hr hy H
    have hun := (mem_ready.1 hr).1
    refine ⟨fun h => (by rw [h] at hr; cases hr), fun j hj => ?_⟩
    have hjn : j < n := by
      rcases Nat.lt_or_ge j n with h | h
      · exact h
      · exact absurd hj (tail_waits hs hc hn inv _ i rfl hin hun j h)
    refine ⟨hjn, ?_⟩
    by_cases hji : j = i
    · subst hji; exact hy.qOp hi H
    · have := hdone _ _ H j (ready_mono hj hji)
      omega
  | succ f ih =>
    intro listed a inv hfree hr hy H
    have hun := (mem_ready.1 hr).1
    refine ⟨fun h => (by rw [h] at hr; cases hr), fun j hj => ?_⟩
    have hjn : j < n := by
      rcases Nat.lt_or_ge j n with h | h
      · exact h
      · exact absurd hj (tail_waits hs hc hn inv _ i rfl hin hun j h)
    refine ⟨hjn, ?_⟩
    by_cases hji : j = i
    · subst hji; exact hy.qOp hi H
    · have h1 := (H.2 j (ready_mono hj hji)).2
      obtain ⟨hjun, oj, hoj, hall⟩ := mem_ready.1 hj
      have hnot : ∀ e ∈ oj.after, Region.binds md e = true → e.on ≠ i := fun e he hb heq => by
        have h1 := hall e he hb
        rw [heq, getD_both hun] at h1
        cases h1
      have h2 := qOp_put hoj (hfree j oj hoj hji hjun hnot) (fun cs b => hsel i oi cs b hi) (fun cs b => hsel j oj cs b hoj) hy h1
      have hfree' : ∀ k ok, ops[k]? = some ok → k ≠ i → (listed.setIfInBounds j true).getD k true = false →
          (∀ e ∈ ok.after, Region.binds md e = true → e.on ≠ i) → oi.apart ops ok = true := fun k ok hk hki hun hno => by
        refine hfree k ok hk hki ?_ hno
        by_cases hjk : j = k
        · subst hjk; exact hjun
        · rw [getD_set_ne true hjk] at hun; exact hun
      refine qOp_mono (fun a' h3 => ih (listed.setIfInBounds j true) a' (inv.set hj hjn) hfree' (ready_mono hr (Ne.symm hji)) h3.1 ?_) h2
      rw [Array.setIfInBounds_comm _ _ hji]
      exact h3.2
theorem anyHead_lex {n g : Nat} {Lq : Act → Prop} (hsel : Region.noSelect ops = true) (hs : Region.sinkB md ops n = true) (hc : Region.chainB md ops n = true) (hn : n < ops.size) :
    ∀ (l : List Oper) (k : Nat) (listed : Array Bool) (a : Act), (∀ j, j < l.length → l[j]? = ops[k + j]?) → k + l.length = n → HeadInv md ops n listed →
    Region.lexHead md ops g l.length k listed = true → wpQuiet P ops C Lq l a →
    anyHead P md ops C n (fun listed' a' => Region.seqB md ops g n listed' = true ∧ Lq a') l.length listed a
  | [], k, listed, a, _, hk, _, hB, h => by
    have : k = n := by simpa using hk
    subst this
    exact ⟨by simpa [Region.lexHead] using hB, h⟩
  | o :: l, k, listed, a, hl, hk, inv, hB, h => by
    have h0 : ops[k]? = some o := by simpa using (hl 0 (by simp)).symm
    simp only [List.length_cons, Region.lexHead, Bool.and_eq_true] at hB
    obtain ⟨⟨hr, hf⟩, hB'⟩ := hB
    have hkn : k < n := by simp only [List.length_cons] at hk; omega
    have hr' : k ∈ Region.ready md ops listed := by simpa using hr
    have hst : qOp P ops C k (wpQuiet P ops C Lq l) a := by unfold qOp; simp only [h0]; exact h
    obtain ⟨v, hy, hK⟩ := yieldsIn_of_qOp h0 hst
    exact anyHead_first h0 (Region.noSelect_spec hsel) hs hc hn hkn (fun listed' a' hL => seqB_ready hL.1) l.length listed a inv (Region.free_spec h0 hf) hr' hy
      (anyHead_lex hsel hs hc hn l (k + 1) _ _ (fun j hj => by have := hl (j + 1) (by simp; omega); simpa [Nat.add_assoc, Nat.add_comm 1 j] using this) (by simp only [List.length_cons] at hk; omega) (inv.set hr' hkn) hB' hK)
theorem wpAny_of_anyHead {n g : Nat} {L : Array Bool → Act → Prop} {Q' : Exit → Act → World → Prop} (hL : ∀ listed a w, C w → L listed a → wpAny P md ops Q' g listed a w) :
    ∀ (f : Nat) (listed : Array Bool) (a : Act) (w : World), C w → anyHead P md ops C n L f listed a → wpAny P md ops Q' (f + g) listed a w
  | 0, listed, a, w, hw, h => by rw [Nat.zero_add]; exact hL _ _ _ hw h
  | f + 1, listed, a, w, hw, h => by
    rw [show f + 1 + g = (f + g) + 1 by omega]
    exact ⟨fun h0 => absurd h0 h.1, fun i hi => wpOp_of_qOp hw (fun a' w' hw' h' => wpAny_of_anyHead hL f _ a' w' hw' h') (h.2 i hi).2⟩
theorem wpQuiet_mono {Q Q' : Act → Prop} (hq : ∀ a, Q a → Q' a) : ∀ {l : List Oper} {a : Act}, wpQuiet P ops C Q l a → wpQuiet P ops C Q' l a
  | [], _, h => hq _ h
  | o :: rest, a, h => by
    unfold wpQuiet at h ⊢
    split
    · rename_i hw; rw [if_pos hw] at h; exact Oper.quiet_mono (fun _ h => wpQuiet_mono hq h) h
    · rename_i hw; rw [if_neg hw] at h; exact wpQuiet_mono hq h
/-- The law, outside a fence. -/
theorem wp_region_quiet_tail {id : Nat} {Q : Exit → Act → World → Prop} {a : Act} {w : World} {l : List Oper} (n : Nat) (hm : P.follows .mixedOrders = true) (hB : Region.lexTailB .any l.toArray n = true) (hC : C { w with drawn := w.drawn + 1 })
    (h : wpQuiet P l.toArray C (fun a' => ∀ w', C w' → wpList P l.toArray Q (l.drop n) a' w') (l.take n) a) : (Code.region id l.toArray true).wp P Q a w := by
  simp only [Region.lexTailB, Bool.and_eq_true, decide_eq_true_eq] at hB
  obtain ⟨⟨⟨⟨hsel, hn⟩, hs⟩, hc⟩, hlex⟩ := hB
  have hn' : n < l.length := by simpa using hn
  have htl : (l.take n).length = n := by simp; omega
  have hdl : (l.drop n).length = l.toArray.size - n := by simp
  have inv0 : HeadInv .any l.toArray n (Array.replicate l.toArray.size false) :=
    ⟨by simp, fun j oj _ hl => (by rw [getD_replicate_false] at hl; cases hl), fun t _ ht => getD_in (by simpa using ht) (getD_replicate_false _ _)⟩
  have H := anyHead_lex (md := .any) (g := l.toArray.size - n) hsel hs hc hn (l.take n) 0 _ a (fun j hj => by
    have hj' : j < n := by rw [htl] at hj; exact hj
    simp [hj']) (by simpa using htl) inv0 (by rw [htl]; exact hlex) h
  refine wp_region_any hm ?_
  have := wpAny_of_anyHead (Q' := Q) (g := l.toArray.size - n) (fun listed a' w' hw' hL => by
    have := wpAny_of_seq (md := .any) (Q' := Q) (l.drop n) n listed a' w' (fun j => by simp [List.getElem?_drop]) (by rw [hdl]; exact hL.1) (hL.2 w' hw')
    rwa [hdl] at this) _ _ _ _ hC H
  rw [htl, show n + (l.toArray.size - n) = l.toArray.size by omega] at this
  exact this
/-! ### Inside a round of a loop over an iterator (the wide fence) -/
variable {lp m : Nat}
theorem wpAnyIn_of_seq {F : Fence} {Q' : Exit → Act → World → Prop} : ∀ (l : List Oper) (k : Nat) (listed : Array Bool) (a : Act) (w : World), (∀ j, l[j]? = ops[k + j]?) →
    Region.seqB md ops l.length k listed = true → wpListIn F m P ops Q' l a w → wpAnyIn F m P md ops Q' l.length listed a w
  | [], _, _, _, _, _, hB, h => ⟨by simpa [Region.seqB] using hB, h⟩
  | o :: l, k, listed, a, w, hl, hB, h => by
    have h0 : ops[k]? = some o := by simpa using (hl 0).symm
    simp only [List.length_cons, Region.seqB, Bool.and_eq_true, decide_eq_true_eq] at hB
    refine ⟨fun h1 => (by rw [hB.1] at h1; cases h1), fun i hi => ?_⟩
    rw [hB.1] at hi
    have hik : i = k := by simpa using hi
    subst hik
    have hw : wpOpIn F m P ops Q' i (wpListIn F m P ops Q' l) a w := by unfold wpOpIn; simp only [h0]; exact h
    exact wpOpIn_mono (fun a' w' h' => wpAnyIn_of_seq l (i + 1) _ a' w' (fun j => by have := hl (j + 1); simpa [Nat.add_assoc, Nat.add_comm 1 j] using this) hB.2 h') hw
def noDefer (ops : Array Oper) : Bool := ops.all fun o => match o.op with | .defer _ => false | _ => true
theorem noDefer_spec (h : noDefer ops = true) : ∀ (j : Nat) (o : Oper) c, ops[j]? = some o → o.op ≠ .defer c := by
  intro j o c ho hc
  have hmem : o ∈ ops := Array.mem_of_getElem? ho
  have h1 := (Array.all_eq_true_iff_forall_mem.1 h) o hmem
  rw [hc] at h1
  cases h1
/-- The law at the class 'old memory is as it was', outside a fence. -/
theorem wp_region_qt {id : Nat} {Q : Exit → Act → World → Prop} {a : Act} {w : World} {l : List Oper} (n : Nat) (hm : P.follows .mixedOrders = true) (hB : Region.lexTailB .any l.toArray n = true)
    (h : wpQuiet P l.toArray (fun w' => ∃ p : Regrown, w' = grow (redrawn w p.d) p.os) (fun a' => ∀ w', Below w.heap.size w w' → wpList P l.toArray Q (l.drop n) a' w') (l.take n) a) : (Code.region id l.toArray true).wp P Q a w :=
  wp_region_quiet_tail (C := fun w' => ∃ p : Regrown, w' = grow (redrawn w p.d) p.os) n hm hB ⟨⟨w.drawn + 1, #[]⟩, by rw [grow_empty]; rfl⟩ (wpQuiet_mono (fun a' h w' ⟨p, hp⟩ => h w' (by rw [hp]; exact below_regrown w p.d p.os)) h)
end
section
variable {P : Program}
/-- That a block holds some cells abides the turn of what is no cells. -/
theorem bk_own {β : Type} (B g : Nat) (t : TypeId) (f : β → Array Value) : OwnFrom B (fun s W => BK W g t (f s)) := by
  intro s W W' row hs hg hr
  refine (hg.block g hs.lt (fun e => ?_)).trans hs
  obtain ⟨_, o, ho, hc⟩ := hr g e.symm
  rw [show W.heap[g]? = _ from hs] at ho
  cases ho
  cases hc
/-- Old memory is as it was, and the heap has not shrunk below N. -/
def Since (w : World) (N : Nat) (W : World) : Prop := Below w.heap.size w W ∧ N ≤ W.heap.size
theorem ownFrom_since {β : Type} {B N : Nat} {w : World} (hB : w.heap.size ≤ B) : OwnFrom B (fun (_ : β) W => Since w N W) := by
  intro s W W' row hs hg hr
  exact ⟨ownFrom_below (Nat.le_refl _) hB s W W' row hs.1 hg hr, Nat.le_trans hs.2 hg.size⟩
theorem Since.onto {w : World} {N : Nat} {W W' : World} (h : Since w N W) (k : Below W.heap.size W W') : Since w N W' := ⟨h.1.trans (k.mono h.1.size), Nat.le_trans h.2 k.size⟩
theorem Since.setCell {w : World} {N : Nat} {W : World} (h : Since w N W) {p : Addr} (hp : w.heap.size ≤ p.block) (u : Value) : Since w N (W.setCell p u) := ⟨h.1.setCell hp u, by simpa using h.2⟩
end
end Go.Proofs.YtnmipejpjeakbaaGreatDoor

/- A drawn region with a new block among its operations: quiet operations 0 .. n - 1, an allocation at n that may come up at any time, and a tail in one forced order. One walk serves every order. Plain theorems over any program. -/
namespace Go.Proofs.YtnmipejpjeakbaaGreatDoor
open Go.RowKit Go.Sort

section
variable {P : Program} {ops : Array Oper} {md : Region.Mode} {C : World → Prop}
def tUpon (P : Program) (w : World) (v : Value) : Result Next → Prop
  | .ok (.value u) w' => w' = w ∧ u = v
  | .ok .skip w' => w' = w ∧ v = undef
  | .ok (.enter f args) w' => w' = w ∧ Calls P f args w (fun e w'' => e = .returned v ∧ Below w.heap.size w w'')
  | _ => False
def tAt (P : Program) (o : Oper) (a : Act) (w : World) (v : Value) : Prop := tUpon P w v ((execOp a.eval o).run P w)
/-- One value in every world of the class; a call leaves old memory as it was. -/
def tame (P : Program) (o : Oper) (a : Act) (C : World → Prop) (next : Act → Prop) : Prop := ∃ v, (∀ w, C w → tAt P o a w v) ∧ next (a.put o.dst v)
def wpTame (P : Program) (ops : Array Oper) (C : World → Prop) (Q : Act → Prop) : List Oper → Act → Prop
  | [], a => Q a
  | o :: rest, a => if Region.wanted o (yielded ops a.tmps) then tame P o a C (wpTame P ops C Q rest) else wpTame P ops C Q rest (a.put o.dst undef)
theorem wpTame_nil {Q : Act → Prop} {a : Act} (h : Q a) : wpTame P ops C Q [] a := h
theorem wpTame_step {Q : Act → Prop} {a : Act} {o : Oper} {rest : List Oper}
    (h : ∀ K : Act → Prop, (∀ a, wpTame P ops C Q rest a → K a) → if Region.wanted o (yielded ops a.tmps) then tame P o a C K else K (a.put o.dst undef)) : wpTame P ops C Q (o :: rest) a :=
  h _ (fun _ h => h)
/-- Operation i comes up; the one at n is passed over. -/
def tOp (P : Program) (ops : Array Oper) (C : World → Prop) (n i : Nat) (K : Act → Prop) (a : Act) : Prop :=
  if i = n then K a else
  match ops[i]? with
  | none => K a
  | some o => if Region.wanted o (yielded ops a.tmps) then tame P o a C K else K (a.put o.dst undef)
theorem tame_mono {o : Oper} {a : Act} {K K' : Act → Prop} (h : ∀ a, K a → K' a) (hh : tame P o a C K) : tame P o a C K' :=
  let ⟨v, h1, h2⟩ := hh
  ⟨v, h1, h _ h2⟩
theorem tOp_mono {n i : Nat} {a : Act} {K K' : Act → Prop} (h : ∀ a, K a → K' a) (hh : tOp P ops C n i K a) : tOp P ops C n i K' a := by
  unfold tOp at *
  by_cases hin : i = n
  · rw [if_pos hin] at *; exact h _ hh
  rw [if_neg hin] at *
  split
  · exact h _ (by simpa [*] using hh)
  · rename_i o ho
    simp only [ho] at hh
    split
    · rename_i hw; simp only [hw, if_true] at hh; exact tame_mono h hh
    · rename_i hw; simp only [hw] at hh; exact h _ hh
def Tyields (P : Program) (ops : Array Oper) (C : World → Prop) (o : Oper) (v : Value) (a : Act) : Prop :=
  (Region.wanted o (yielded ops a.tmps) = true ∧ ∀ w, C w → tAt P o a w v) ∨
  (Region.wanted o (yielded ops a.tmps) = false ∧ v = undef)
theorem Tyields.tOp {n i : Nat} {o : Oper} {v : Value} {a : Act} (hin : i ≠ n) (hi : ops[i]? = some o) (hy : Tyields P ops C o v a) {K : Act → Prop} (h : K (a.put o.dst v)) : tOp P ops C n i K a := by
  unfold Go.Proofs.YtnmipejpjeakbaaGreatDoor.tOp
  rw [if_neg hin]
  simp only [hi]
  rcases hy with ⟨hw, hv⟩ | ⟨hw, rfl⟩
  · simp only [hw, if_true]; exact ⟨v, hv, h⟩
  · simp only [hw, Bool.false_eq_true, if_false]; exact h
theorem Tyields.of_same {o : Oper} {v : Value} {a a' : Act} (hy : Tyields P ops C o v a) (he : execOp a'.eval o = execOp a.eval o)
    (hw : Region.wanted o (yielded ops a'.tmps) = Region.wanted o (yielded ops a.tmps)) : Tyields P ops C o v a' := by
  unfold Tyields tAt at *
  rw [he, hw]
  exact hy
theorem tyields_of_tOp {n i : Nat} {o : Oper} {a : Act} {K : Act → Prop} (hin : i ≠ n) (hi : ops[i]? = some o) (h : tOp P ops C n i K a) : ∃ v, Tyields P ops C o v a ∧ K (a.put o.dst v) := by
  unfold tOp at h
  rw [if_neg hin] at h
  simp only [hi] at h
  by_cases hw : Region.wanted o (yielded ops a.tmps) = true
  · simp only [hw, if_true] at h
    obtain ⟨v, h1, h2⟩ := h
    exact ⟨v, .inl ⟨hw, h1⟩, h2⟩
  · simp only [hw] at h
    exact ⟨undef, .inr ⟨by simpa using hw, rfl⟩, h⟩
theorem tOp_put {n j : Nat} {oi oj : Oper} {v : Value} (hj : ops[j]? = some oj) (hap : oi.apart ops oj = true)
    (hsi : ∀ cs b, oi.op ≠ .select cs b) (hsj : ∀ cs b, oj.op ≠ .select cs b) {K : Act → Prop} {a : Act}
    (hy : Tyields P ops C oi v a) (h : tOp P ops C n j K (a.put oi.dst v)) :
    tOp P ops C n j (fun a' => Tyields P ops C oi v a' ∧ K (a'.put oi.dst v)) a := by
  obtain ⟨h1, h2, h3⟩ := Oper.apart_spec hap
  have keep : ∀ (a : Act), Tyields P ops C oi v a → ∀ u, Tyields P ops C oi v (a.put oj.dst u) := fun a hy u =>
    hy.of_same (execOp_put oi hsi a oj.dst u h3) (wanted_put oi a oj.dst u h3)
  unfold tOp at *
  by_cases hjn : j = n
  · rw [if_pos hjn] at *; exact ⟨hy, h⟩
  rw [if_neg hjn] at *
  simp only [hj] at *
  rw [wanted_put oj a oi.dst v h1] at h
  split
  · rename_i hw
    simp only [hw, if_true] at h
    obtain ⟨u, hu, hn⟩ := h
    refine ⟨u, fun w hw' => ?_, keep a hy u, by rw [← Act.put_comm a v u h2]; exact hn⟩
    have := hu w hw'
    unfold tAt at *
    rwa [execOp_put oj hsj a oi.dst v h1] at this
  · rename_i hw
    simp only [hw] at h
    exact ⟨keep a hy _, by rw [← Act.put_comm a v undef h2]; exact h⟩
def tHead (P : Program) (md : Region.Mode) (ops : Array Oper) (C : World → Prop) (n : Nat) (L : Array Bool → Act → Prop) : Nat → Array Bool → Act → Prop
  | 0, listed, a => L listed a
  | f + 1, listed, a =>
    Region.ready md ops listed ≠ [] ∧ ∀ i ∈ Region.ready md ops listed, i < n + 1 ∧ tOp P ops C n i (tHead P md ops C n L f (listed.setIfInBounds i true)) a
/-- An operation that may be taken first. -/
theorem tHead_first {n i : Nat} {oi : Oper} {L : Array Bool → Act → Prop} (hi : ops[i]? = some oi) (hsel : ∀ (j : Nat) (o : Oper) cs b, ops[j]? = some o → o.op ≠ .select cs b)
    (hs : Region.sinkB md ops (n + 1) = true) (hc : Region.chainB md ops (n + 1) = true) (hn : n + 1 < ops.size) (hin : i < n + 1)
    (hdone : ∀ listed a, L listed a → ∀ j ∈ Region.ready md ops listed, n + 1 ≤ j) :
    ∀ (f : Nat) (listed : Array Bool) (a : Act), HeadInv md ops (n + 1) listed →
      (∀ j oj, ops[j]? = some oj → j ≠ i → listed.getD j true = false → (∀ e ∈ oj.after, Region.binds md e = true → e.on ≠ i) → oi.apart ops oj = true) →
      i ∈ Region.ready md ops listed →
      ((i = n ∧ tHead P md ops C n L f (listed.setIfInBounds i true) a) ∨ (i ≠ n ∧ ∃ v, Tyields P ops C oi v a ∧ tHead P md ops C n L f (listed.setIfInBounds i true) (a.put oi.dst v))) → tHead P md ops C n L (f + 1) listed a := by
  intro f
  induction f with
  | zero =>
    intro listed a inv _ hr H
    have hun := (mem_ready.1 hr).1
    refine ⟨fun h => (by rw [h] at hr; cases hr), fun j hj => ?_⟩
    have hjn : j < n + 1 := by
      rcases Nat.lt_or_ge j (n + 1) with h | h
      · exact h
      · exact absurd hj (tail_waits hs hc hn inv _ i rfl hin hun j h)
    refine ⟨hjn, ?_⟩
    by_cases hji : j = i
    · subst hji
      rcases H with ⟨hn', H⟩ | ⟨hn', v, hy, H⟩
      · unfold tOp; rw [if_pos hn']; exact H
      · exact hy.tOp hn' hi H
    · rcases H with ⟨hn', H⟩ | ⟨hn', v, hy, H⟩
      · have := hdone _ _ H j (ready_mono hj hji)
        omega
      · have := hdone _ _ H j (ready_mono hj hji)
        omega
  | succ f ih =>
    intro listed a inv hfree hr H
    have hun := (mem_ready.1 hr).1
    refine ⟨fun h => (by rw [h] at hr; cases hr), fun j hj => ?_⟩
    have hjn : j < n + 1 := by
      rcases Nat.lt_or_ge j (n + 1) with h | h
      · exact h
      · exact absurd hj (tail_waits hs hc hn inv _ i rfl hin hun j h)
    refine ⟨hjn, ?_⟩
    by_cases hji : j = i
    · subst hji
      rcases H with ⟨hn', H⟩ | ⟨hn', v, hy, H⟩
      · unfold tOp; rw [if_pos hn']; exact H
      · exact hy.tOp hn' hi H
    · obtain ⟨hjun, oj, hoj, hall⟩ := mem_ready.1 hj
      have hnot : ∀ e ∈ oj.after, Region.binds md e = true → e.on ≠ i := fun e he hb heq => by
        have h1 := hall e he hb
        rw [heq, getD_both hun] at h1
        cases h1
      have hfree' : ∀ k ok, ops[k]? = some ok → k ≠ i → (listed.setIfInBounds j true).getD k true = false →
          (∀ e ∈ ok.after, Region.binds md e = true → e.on ≠ i) → oi.apart ops ok = true := fun k ok hk hki hun hno => by
        refine hfree k ok hk hki ?_ hno
        by_cases hjk : j = k
        · subst hjk; exact hjun
        · rw [getD_set_ne true hjk] at hun; exact hun
      rcases H with ⟨hn', H⟩ | ⟨hn', v, hy, H⟩
      · have h1 := (H.2 j (ready_mono hj hji)).2
        refine tOp_mono (fun a' h3 => ih (listed.setIfInBounds j true) a' (inv.set hj hjn) hfree' (ready_mono hr (Ne.symm hji)) (.inl ⟨hn', ?_⟩)) h1
        rw [Array.setIfInBounds_comm _ _ hji]
        exact h3
      · have h1 := (H.2 j (ready_mono hj hji)).2
        have h2 := tOp_put hoj (hfree j oj hoj hji hjun hnot) (fun cs b => hsel i oi cs b hi) (fun cs b => hsel j oj cs b hoj) hy h1
        refine tOp_mono (fun a' h3 => ih (listed.setIfInBounds j true) a' (inv.set hj hjn) hfree' (ready_mono hr (Ne.symm hji)) (.inr ⟨hn', v, h3.1, ?_⟩)) h2
        rw [Array.setIfInBounds_comm _ _ hji]
        exact h3.2
theorem tHead_lex {n g : Nat} {Lq : Act → Prop} (hsel : Region.noSelect ops = true) (hs : Region.sinkB md ops (n + 1) = true) (hc : Region.chainB md ops (n + 1) = true) (hn : n + 1 < ops.size) :
    ∀ (l : List Oper) (k : Nat) (listed : Array Bool) (a : Act), (∀ j, j < l.length → l[j]? = ops[k + j]?) → k + l.length = n → HeadInv md ops (n + 1) listed →
    Region.lexHead md ops g (l.length + 1) k listed = true → wpTame P ops C Lq l a →
    tHead P md ops C n (fun listed' a' => Region.seqB md ops g (n + 1) listed' = true ∧ Lq a') (l.length + 1) listed a
  | [], k, listed, a, _, hk, inv, hB, h => by
    have hk' : k = n := by simpa using hk
    subst hk'
    simp only [List.length_nil, Region.lexHead, Bool.and_eq_true] at hB
    obtain ⟨⟨hr, hf⟩, hB'⟩ := hB
    have hr' : k ∈ Region.ready md ops listed := by simpa using hr
    obtain ⟨o, h0⟩ : ∃ o, ops[k]? = some o := ⟨ops[k]'(by omega), Array.getElem?_eq_getElem _⟩
    exact tHead_first h0 (Region.noSelect_spec hsel) hs hc hn (by omega) (fun listed' a' hL => seqB_ready hL.1) 0 listed a inv (Region.free_spec h0 hf) hr' (.inl ⟨rfl, hB', h⟩)
  | o :: l, k, listed, a, hl, hk, inv, hB, h => by
    have h0 : ops[k]? = some o := by simpa using (hl 0 (by simp)).symm
    rw [List.length_cons, Region.lexHead] at hB
    simp only [Bool.and_eq_true] at hB
    obtain ⟨⟨hr, hf⟩, hB'⟩ := hB
    have hkn : k < n := by simp only [List.length_cons] at hk; omega
    have hr' : k ∈ Region.ready md ops listed := by simpa using hr
    have hst : tOp P ops C n k (wpTame P ops C Lq l) a := by unfold tOp; rw [if_neg (by omega)]; simp only [h0]; exact h
    obtain ⟨v, hy, hK⟩ := tyields_of_tOp (by omega) h0 hst
    exact tHead_first h0 (Region.noSelect_spec hsel) hs hc hn (by omega) (fun listed' a' hL => seqB_ready hL.1) (l.length + 1) listed a inv (Region.free_spec h0 hf) hr' (.inr ⟨by omega, v, hy,
      tHead_lex hsel hs hc hn l (k + 1) _ _ (fun j hj => by have := hl (j + 1) (by simp; omega); simpa [Nat.add_assoc, Nat.add_comm 1 j] using this) (by simp only [List.length_cons] at hk; omega) (inv.set hr' (by omega)) hB' hK⟩)
/-- How the run's frame stands to the walk's: the new block's pointer may lie in it already. -/
def tRel (n : Nat) (d : Tmp) (t : TypeId) (zs : Array Value) (B : Nat) (listed : Array Bool) (a ac : Act) (wc : World) : Prop :=
  (listed.getD n false = false ∧ ac = a) ∨ (listed.getD n false = true ∧ ∃ b, B ≤ b ∧ BK wc b t zs ∧ ac = a.put (some d) (.pointer (some ⟨b, 0, none⟩)))
theorem wp_of_tame {o : Oper} {a : Act} {K : Act → Prop} {K' : Act → World → Prop} {Q' : Exit → Act → World → Prop} {w : World} (hw : C w) (h : ∀ a w', Below w.heap.size w w' → K a → K' a w') (hh : tame P o a C K) : o.wp P a w K' Q' := by
  obtain ⟨v, h1, h2⟩ := hh
  have h3 := h1 w hw
  unfold tAt at h3
  unfold Oper.wp
  generalize (execOp a.eval o).run P w = r at *
  cases r with
  | ok n w' =>
    cases n <;> simp only [tUpon] at h3 <;> simp only [Oper.upon]
    case value u =>
      obtain ⟨e1, e2⟩ := h3
      rw [e1, e2]
      exact h _ _ (Below.refl _ _) h2
    case skip =>
      obtain ⟨e1, e2⟩ := h3
      rw [e1, ← e2]
      exact h _ _ (Below.refl _ _) h2
    case enter f args =>
      obtain ⟨e1, hc⟩ := h3
      rw [e1]
      exact hc.mono fun e w'' ⟨he, hw''⟩ => by subst he; exact h _ _ hw'' h2
  | halt x w' => simp only [tUpon] at h3
theorem tame_put {o oa : Oper} {d : Tmp} {u : Value} {a : Act} {K K' : Act → Prop} (hd : oa.dst = some d) (hap : oa.apart ops o = true) (hso : ∀ cs b, o.op ≠ .select cs b) (hK : ∀ a, K a → K' (a.put (some d) u)) (h : tame P o a C K) : tame P o (a.put (some d) u) C K' := by
  obtain ⟨h1, h2, h3⟩ := Oper.apart_spec hap
  rw [hd] at h1 h2
  obtain ⟨v, hv, hn⟩ := h
  refine ⟨v, fun w hw => ?_, ?_⟩
  · have := hv w hw
    unfold tAt at *
    rw [execOp_put o hso a (some d) u h1]
    exact this
  · rw [Act.put_comm a u v h2]
    exact hK _ hn
variable {n : Nat} {d : Tmp} {t : TypeId} {zs : Array Value} {B : Nat} {oa : Oper}
theorem wpAny_of_tHead {g : Nat} {L : Array Bool → Act → Prop} {Q' : Exit → Act → World → Prop} (hsel : ∀ (j : Nat) (o : Oper) cs b, ops[j]? = some o → o.op ≠ .select cs b)
    (hoa : ops[n]? = some oa) (hda : oa.dst = some d) (hga : oa.guard = none) (hrun : ∀ (a : Act) (w : World), (execOp a.eval oa).run P w = .ok (.value (.pointer (some ⟨w.heap.size, 0, none⟩))) (w.alloc (.cells zs t)))
    (hap : ∀ j oj, ops[j]? = some oj → j < n → oa.apart ops oj = true)
    (hCl : ∀ w w', C w → Below w.heap.size w w' → C w') (hCB : ∀ w, C w → B ≤ w.heap.size)
    (hL : ∀ listed a ac w, HeadInv md ops (n + 1) listed → C w → L listed a → tRel n d t zs B listed a ac w → wpAny P md ops Q' g listed ac w) :
    ∀ (f : Nat) (listed : Array Bool) (a ac : Act) (w : World), HeadInv md ops (n + 1) listed → C w → tRel n d t zs B listed a ac w → tHead P md ops C n L f listed a → wpAny P md ops Q' (f + g) listed ac w := by
  intro f
  induction f with
  | zero => intro listed a ac w hsz hw hr h; rw [Nat.zero_add]; exact hL _ _ _ _ hsz hw h hr
  | succ f ih =>
    intro listed a ac w hsz hw hr h
    rw [show f + 1 + g = (f + g) + 1 by omega]
    refine ⟨fun h0 => absurd h0 h.1, fun i hi => ?_⟩
    obtain ⟨hin, h1⟩ := h.2 i hi
    have hn' : n < ops.size := (Array.getElem?_eq_some_iff.1 hoa).1
    by_cases hi' : i = n
    · subst hi'
      unfold tOp at h1
      rw [if_pos rfl] at h1
      have hun := (mem_ready.1 hi).1
      have hac : ac = a := by
        rcases hr with ⟨_, e⟩ | ⟨e, _⟩
        · exact e
        · rw [getD_both hun] at e; cases e
      subst hac
      unfold wpOp
      simp only [hoa]
      rw [if_pos (by simp [Region.wanted, hga])]
      refine .inl ?_
      unfold Oper.wp
      rw [hrun]
      show wpAny P md ops Q' (f + g) (listed.setIfInBounds i true) (ac.put oa.dst (.pointer (some ⟨w.heap.size, 0, none⟩))) (w.alloc (.cells zs t))
      rw [hda]
      exact ih _ ac _ _ (hsz.set hi hin) (hCl _ _ hw ((Below.refl _ _).alloc (Nat.le_refl _) _)) (.inr ⟨by simp [hsz.size, hn'], w.heap.size, hCB _ hw, BK.new w t zs, rfl⟩) h1
    · unfold tOp at h1
      rw [if_neg hi'] at h1
      have hgd : (listed.setIfInBounds i true).getD n false = listed.getD n false := getD_set_ne false hi'
      have key : ∀ a' w', Below w.heap.size w w' → ∀ ac', ((listed.getD n false = false ∧ ac' = a') ∨ (listed.getD n false = true ∧ ∃ b, B ≤ b ∧ BK w b t zs ∧ ac' = a'.put (some d) (.pointer (some ⟨b, 0, none⟩)))) → tHead P md ops C n L f (listed.setIfInBounds i true) a' → wpAny P md ops Q' (f + g) (listed.setIfInBounds i true) ac' w' := by
        intro a' w' hb ac' hr' h2
        refine ih _ a' ac' w' (hsz.set hi hin) (hCl _ _ hw hb) ?_ h2
        unfold tRel
        rw [hgd]
        rcases hr' with ⟨e, e'⟩ | ⟨e, b, hb1, hb2, e'⟩
        · exact .inl ⟨e, e'⟩
        · exact .inr ⟨e, b, hb1, hb2.below hb hb2.lt, e'⟩
      unfold wpOp
      cases ho : ops[i]? with
      | none =>
        simp only [ho] at h1 ⊢
        exact key a w (Below.refl _ _) ac hr h1
      | some o =>
        simp only [ho] at h1 ⊢
        have hapo := hap i o ho (by omega)
        rcases hr with ⟨e, rfl⟩ | ⟨e, b, hb1, hb2, rfl⟩
        · split
          · rename_i hw'; rw [if_pos hw'] at h1
            exact .inl (wp_of_tame hw (fun a' w' hb h2 => key a' w' hb a' (.inl ⟨e, rfl⟩) h2) h1)
          · rename_i hw'; rw [if_neg hw'] at h1
            exact key _ w (Below.refl _ _) _ (.inl ⟨e, rfl⟩) h1
        · obtain ⟨p1, p2, p3⟩ := Oper.apart_spec hapo
          rw [hda] at p1 p2
          rw [wanted_put o a (some d) _ p1]
          split
          · rename_i hw'; rw [if_pos hw'] at h1
            refine .inl (wp_of_tame hw (K := fun a'' => ∃ a', a'' = a'.put (some d) (.pointer (some ⟨b, 0, none⟩)) ∧ tHead P md ops C n L f (listed.setIfInBounds i true) a') (fun a'' w' hb h2 => ?_) (tame_put hda hapo (fun cs q => hsel i o cs q ho) (fun a' ha' => ⟨a', rfl, ha'⟩) h1))
            obtain ⟨a', rfl, h3⟩ := h2
            exact key a' w' hb _ (.inr ⟨e, b, hb1, hb2, rfl⟩) h3
          · rename_i hw'; rw [if_neg hw'] at h1
            rw [Act.put_comm a _ undef p2]
            exact key _ w (Below.refl _ _) _ (.inr ⟨e, b, hb1, hb2, rfl⟩) h1
theorem wpTame_mono {Q Q' : Act → Prop} (hq : ∀ a, Q a → Q' a) : ∀ {l : List Oper} {a : Act}, wpTame P ops C Q l a → wpTame P ops C Q' l a
  | [], _, h => hq _ h
  | o :: rest, a, h => by
    unfold wpTame at h ⊢
    split
    · rename_i hw; rw [if_pos hw] at h; exact tame_mono (fun _ h => wpTame_mono hq h) h
    · rename_i hw; rw [if_neg hw] at h; exact wpTame_mono hq h
def apartB (ops : Array Oper) (oa : Oper) (n : Nat) : Bool := (List.range n).all fun j => match ops[j]? with | some o => oa.apart ops o | none => true
theorem apartB_spec (h : apartB ops oa n = true) : ∀ j oj, ops[j]? = some oj → j < n → oa.apart ops oj = true := by
  intro j oj hj hjn
  have h1 := (List.all_eq_true.1 h) j (List.mem_range.2 hjn)
  simpa only [hj] using h1
/-- The law, outside a fence: n operations, an allocation that floats, then a tail in order. -/
theorem wp_region_qat {id : Nat} {Q : Exit → Act → World → Prop} {a : Act} {w : World} {l : List Oper} (n : Nat) (t : TypeId) (zs : Array Value) (d : Tmp) (oa : Oper) (hm : P.follows .mixedOrders = true)
    (hoa : l.toArray[n]? = some oa) (hda : oa.dst = some d) (hga : oa.guard = none) (hrun : ∀ (a : Act) (w : World), (execOp a.eval oa).run P w = .ok (.value (.pointer (some ⟨w.heap.size, 0, none⟩))) (w.alloc (.cells zs t)))
    (hB : (Region.lexTailB .any l.toArray (n + 1) && apartB l.toArray oa n) = true)
    (h : wpTame P l.toArray (fun w' => ∃ p : Regrown, w' = grow (redrawn w p.d) p.os) (fun a' => ∀ b w', Below w.heap.size w w' → w.heap.size ≤ b → BK w' b t zs → wpList P l.toArray Q (l.drop (n + 1)) (a'.put (some d) (.pointer (some ⟨b, 0, none⟩))) w') (l.take n) a) :
    (Code.region id l.toArray true).wp P Q a w := by
  simp only [Region.lexTailB, Bool.and_eq_true, decide_eq_true_eq] at hB
  obtain ⟨⟨⟨⟨⟨hsel, hn⟩, hs⟩, hc⟩, hlex⟩, hap⟩ := hB
  have hn' : n + 1 < l.length := by simpa using hn
  have htl : (l.take n).length = n := by simp; omega
  have hdl : (l.drop (n + 1)).length = l.toArray.size - (n + 1) := by simp
  have inv0 : HeadInv .any l.toArray (n + 1) (Array.replicate l.toArray.size false) :=
    ⟨by simp, fun j oj _ hl => (by rw [getD_replicate_false] at hl; cases hl), fun t _ ht => getD_in (by simpa using ht) (getD_replicate_false _ _)⟩
  have H := tHead_lex (md := .any) (g := l.toArray.size - (n + 1)) hsel hs hc hn (l.take n) 0 _ a (fun j hj => by
    have hj' : j < n := by rw [htl] at hj; exact hj
    simp [hj']) (by simpa using htl) inv0 (by rw [htl]; exact hlex) (wpTame_mono (Q' := fun a' => (fun w' => ∃ p : Regrown, w' = grow (redrawn w p.d) p.os) w ∧ ∀ b w', Below w.heap.size w w' → w.heap.size ≤ b → BK w' b t zs → wpList P l.toArray Q (l.drop (n + 1)) (a'.put (some d) (.pointer (some ⟨b, 0, none⟩))) w') (fun a' h => ⟨⟨⟨w.drawn, #[]⟩, by rw [grow_empty]; rfl⟩, h⟩) h)
  refine wp_region_any hm ?_
  have := wpAny_of_tHead (Q' := Q) (g := l.toArray.size - (n + 1)) (B := w.heap.size) (Region.noSelect_spec hsel) hoa hda hga hrun (apartB_spec hap)
    (fun w1 w2 ⟨p, hp⟩ hb => by subst hp; exact regrown_of_below ((below_regrown w p.d p.os).trans (hb.mono (below_regrown w p.d p.os).size)))
    (fun w1 ⟨p, hp⟩ => by subst hp; exact (below_regrown w p.d p.os).size)
    (fun listed a' ac w' inv hw' hL hr => by
      obtain ⟨hL1, _, hL2⟩ := hL
      obtain ⟨p, hp⟩ := hw'
      rcases hr with ⟨e, _⟩ | ⟨_, b, hb1, hb2, rfl⟩
      · exfalso
        have hun : listed.getD n true = false := getD_in (by have := inv.size; omega) e
        have hB1 := hL1
        have hsz : l.toArray.size - (n + 1) = (l.toArray.size - (n + 2)) + 1 := by omega
        rw [hsz] at hB1
        simp only [Region.seqB, Bool.and_eq_true, decide_eq_true_eq] at hB1
        exact tail_waits hs hc hn inv _ n rfl (by omega) hun (n + 1) (Nat.le_refl _) (by rw [hB1.1]; simp)
      have := wpAny_of_seq (md := .any) (Q' := Q) (l.drop (n + 1)) (n + 1) listed (a'.put (some d) (.pointer (some ⟨b, 0, none⟩))) w' (fun j => by simp [List.getElem?_drop]) (by rw [hdl]; exact hL1) (hL2 b w' (by rw [hp]; exact below_regrown w p.d p.os) hb1 hb2)
      rwa [hdl] at this) _ _ _ _ _ inv0 ⟨⟨w.drawn + 1, #[]⟩, by rw [grow_empty]⟩ (.inl ⟨getD_replicate_false _ _, rfl⟩) H
  rw [htl, show n + 1 + (l.toArray.size - (n + 1)) = l.toArray.size by omega] at this
  exact this
end
attribute [go_sem] tame tAt tUpon
end Go.Proofs.YtnmipejpjeakbaaGreatDoor

/- A drawn region whose head reads, calls (the calls in one forced chain; each may make memory) and makes at most one block: one walk of the text's order serves every order. Plain theorems over any program. -/
namespace Go.Proofs.YtnmipejpjeakbaaGreatDoor
open Go.RowKit Go.Sort

section
variable {P : Program} {ops : Array Oper} {md : Region.Mode} {C : World → Prop}
/-- An operation that only reads: its value. -/
def qUpon (w : World) (v : Value) : Result Next → Prop
  | .ok (.value u) w' => w' = w ∧ u = v
  | .ok .skip w' => w' = w ∧ v = undef
  | _ => False
def qAt (P : Program) (o : Oper) (a : Act) (w : World) (v : Value) : Prop := qUpon w v ((execOp a.eval o).run P w)
theorem qAt_uniq {o : Oper} {a : Act} {w : World} {v v' : Value} (h : qAt P o a w v) (k : qAt P o a w v') : v = v' := by
  unfold qAt at h k
  generalize (execOp a.eval o).run P w = r at h k
  cases r with
  | ok n w' =>
    cases n <;> simp only [qUpon] at h k
    · exact h.2.symm.trans k.2
    · exact h.2.trans k.2.symm
  | halt x w' => simp only [qUpon] at h
abbrev Fact := World → Prop
/-- A value that does not hang on what another operation yields. -/
def Qyields (P : Program) (ops : Array Oper) (C : World → Prop) (o : Oper) (v : Value) (a : Act) : Prop :=
  (Region.wanted o (yielded ops a.tmps) = true ∧ ∀ w, C w → qAt P o a w v) ∨ (Region.wanted o (yielded ops a.tmps) = false ∧ v = undef)
theorem Qyields.of_same {o : Oper} {v : Value} {a a' : Act} (hy : Qyields P ops C o v a) (he : execOp a'.eval o = execOp a.eval o)
    (hw : Region.wanted o (yielded ops a'.tmps) = Region.wanted o (yielded ops a.tmps)) : Qyields P ops C o v a' := by
  unfold Qyields qAt at *
  rw [he, hw]
  exact hy
theorem Qyields.uniq {o : Oper} {v v' : Value} {a : Act} (hex : ∃ w, C w) (h : Qyields P ops C o v a) (k : Qyields P ops C o v' a) : v = v' := by
  obtain ⟨w, hw⟩ := hex
  rcases h with ⟨h1, h2⟩ | ⟨h1, h2⟩ <;> rcases k with ⟨k1, k2⟩ | ⟨k1, k2⟩
  · exact qAt_uniq (h2 w hw) (k2 w hw)
  · rw [h1] at k1; cases k1
  · rw [h1] at k1; cases k1
  · rw [h2, k2]
/-- The calls wait one for the other. -/
def chained (md : Region.Mode) (ops : Array Oper) : List Nat → Bool
  | i :: j :: l => (match ops[j]? with | some o => o.after.any fun e => Region.binds md e && e.on == i | none => false) && chained md ops (j :: l)
  | _ => true
theorem chain_listed {m : Nat} {listed : Array Bool} (inv : HeadInv md ops m listed) : ∀ (l : List Nat), chained md ops l = true → ∀ (A B : List Nat) (i j : Nat), l = A ++ i :: B → j ∈ B →
    (listed.getD j false = true ∨ j ∈ Region.ready md ops listed) → listed.getD i false = true
  | [], _, A, B, i, j, e, hj, _ => by simp at e
  | [x], _, A, B, i, j, e, hj, _ => by
    rcases A with _ | ⟨a, A⟩
    · simp at e; obtain ⟨_, rfl⟩ := e; cases hj
    · simp at e
  | x :: y :: l, hc, A, B, i, j, e, hj, hor => by
    simp only [chained, Bool.and_eq_true] at hc
    obtain ⟨h1, h2⟩ := hc
    rcases A with _ | ⟨a, A⟩
    · simp at e
      obtain ⟨rfl, rfl⟩ := e
      have hy : listed.getD y false = true ∨ y ∈ Region.ready md ops listed := by
        rcases List.mem_cons.1 hj with rfl | hj
        · exact hor
        · exact .inl (chain_listed inv (y :: l) h2 [] l y j rfl hj hor)
      cases ho : ops[y]? with
      | none => simp [ho] at h1
      | some o =>
        simp only [ho] at h1
        obtain ⟨ed, he, hb⟩ := Array.any_eq_true'.1 h1
        simp only [Bool.and_eq_true, beq_iff_eq] at hb
        rw [← hb.2]
        rcases hy with hy | hy
        · exact inv.closed y o ho hy ed he hb.1
        · obtain ⟨_, o', ho', hall⟩ := mem_ready.1 hy
          rw [ho] at ho'
          cases ho'
          exact hall ed he hb.1
    · simp at e
      obtain ⟨_, e⟩ := e
      exact chain_listed inv (y :: l) h2 A B i j e hj hor
def incr : List Nat → Bool
  | i :: j :: l => decide (i < j) && incr (j :: l)
  | _ => true
theorem incr_lt : ∀ (l : List Nat) (i : Nat), incr (i :: l) = true → ∀ j ∈ l, i < j
  | [], _, _, j, hj => by cases hj
  | x :: l, i, h, j, hj => by
    simp only [incr, Bool.and_eq_true, decide_eq_true_eq] at h
    rcases List.mem_cons.1 hj with rfl | hj
    · exact h.1
    · have := incr_lt l x h.2 j hj; omega
theorem incr_tail (i : Nat) (l : List Nat) (h : incr (i :: l) = true) : incr l = true := by
  cases l with
  | nil => rfl
  | cons j l => simp only [incr, Bool.and_eq_true] at h; exact h.2
theorem incr_sort : ∀ (ks : List Nat), incr ks = true → ∀ A B i j, ks = A ++ i :: B → j ∈ A → j < i
  | [], _, A, B, i, j, e, hj => by simp at e
  | x :: ks, h, A, B, i, j, e, hj => by
    rcases A with _ | ⟨y, A⟩
    · cases hj
    · simp at e
      obtain ⟨rfl, e⟩ := e
      rcases List.mem_cons.1 hj with rfl | hj
      · exact incr_lt ks j h i (by rw [e]; simp)
      · exact incr_sort ks (incr_tail x ks h) A B i j e hj
theorem incr_nodup : ∀ (ks : List Nat), incr ks = true → ks.Nodup
  | [], _ => List.nodup_nil
  | x :: ks, h => List.nodup_cons.2 ⟨fun hm => by have := incr_lt ks x h x hm; omega, incr_nodup ks (incr_tail x ks h)⟩
def okB (md : Region.Mode) (ops : Array Oper) (m : Nat) (ks : List Nat) : Bool := Region.lexTailB md ops m && (chained md ops ks && incr ks)
/-! ### Steps -/
variable {k : Nat} {ns ks : List Nat} {Lq : Act → Fact → Prop} {o : Oper} {rest : List Oper} {a : Act} {Φ : Fact}
end
attribute [go_sem] qAt qUpon
end Go.Proofs.YtnmipejpjeakbaaGreatDoor

/- The laws of Reg3 for a region inside a loop's round. Plain theorems over any program. -/
namespace Go.Proofs.YtnmipejpjeakbaaGreatDoor
open Go.RowKit Go.Sort

section
variable {P : Program} {ops : Array Oper} {md : Region.Mode} {C : World → Prop} {lp mr : Nat}
theorem wpIn_of_q {o : Oper} {a : Act} {v : Value} {K' : Act → World → Prop} {Q' : Exit → Act → World → Prop} {w : World} (hd : ∀ c, o.op ≠ .defer c) (h1 : qAt P o a w v) (h : K' (a.put o.dst v) w) : o.wpIn (Fence.wide.inRound lp) mr P a w K' Q' := by
  refine ⟨fun _ _ => trivial, ?_⟩
  rw [Oper.semAt_eq _ _ _ hd]
  unfold qAt at h1
  generalize (execOp a.eval o).run P w = r at *
  cases r with
  | ok n w' =>
    cases n <;> simp only [qUpon] at h1 <;> simp only [Oper.uponIn]
    · rw [h1.1, h1.2]; exact h
    · rw [h1.1, ← h1.2]; exact h
  | halt x w' => simp only [qUpon] at h1
end
/-! ### Under the wide fence, outside a round -/
section
variable {P : Program} {ops : Array Oper} {md : Region.Mode} {C : World → Prop} {m : Nat}
end
end Go.Proofs.YtnmipejpjeakbaaGreatDoor

/- The laws of Reg3, with blocks that float and are filled by a store of their own, which floats too. Printed by genreg5.py. Plain theorems over any program. -/
namespace Go.Proofs.YtnmipejpjeakbaaGreatDoor
open Go.RowKit Go.Sort

section
variable {P : Program} {ops : Array Oper} {md : Region.Mode} {C : World → Prop} {st : Fact → Prop} {G : Nat → Act → Prop}
section
variable {lp mr : Nat}
end

/-! ### Steps -/
variable {k : Nat} {ns ks : List Nat} {Lq : Act → Fact → Prop} {o : Oper} {rest : List Oper} {a : Act} {Φ : Fact}
end
end Go.Proofs.YtnmipejpjeakbaaGreatDoor
