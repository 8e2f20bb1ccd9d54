/- The law of a drawn region whose chained operations may write (an append with room): as XReg8's, outside of a round. Plain theorems over any program. -/
import Derived.Test.YtafclpmnpamipaaGreatQReg8
namespace Go.Proofs.YtafclpmnpamipaaGreat
open Go.RowKit Go.Sort

section
variable {P : Program} {ops : Array Oper} {md : Region.Mode} {C : World → Prop}
theorem wp_of_callF {o : Oper} {a : Act} {R : Value → World → Prop} {K' : Act → World → Prop} {Q' : Exit → Act → World → Prop} {w : World} (h1 : callAtF P o a w R) (h : ∀ v w', R v w' → K' (a.put o.dst v) w') : o.wp P a w K' Q' := by
  unfold callAtF at h1
  unfold Oper.wp
  generalize (execOp a.eval o).run P w = r at *
  cases r with
  | ok n w' =>
    cases n <;> simp only [cUponF] at h1 <;> simp only [Oper.upon]
    case value => exact h _ _ h1
    case skip => exact h _ _ h1
    case enter f args =>
      obtain ⟨e1, hc⟩ := h1
      rw [e1]
      exact hc.mono fun e w'' ⟨v, he, hr⟩ => by subst he; exact h _ _ hr
  | halt x w' => simp only [cUponF] at h1
theorem wpAny_of_cHeadF {m g : Nat} {ks : List Nat} {L : Array Bool → Act → Fact → Prop} {Q' : Exit → Act → World → Prop}
    (hL : ∀ listed a w Φ, HeadInv md ops m listed → C w → Φ w → L listed a Φ → wpAny P md ops Q' g listed a w) :
    ∀ (f : Nat) (listed : Array Bool) (a : Act) (w : World) (Φ : Fact), HeadInv md ops m listed → C w → Φ w → cHeadF P md ops C [] m ks L f listed a Φ → wpAny P md ops Q' (f + g) listed a w := by
  intro f
  induction f with
  | zero => intro listed a w Φ inv hw hp h; rw [Nat.zero_add]; exact hL _ _ _ _ inv hw hp h
  | succ f ih =>
    intro listed a w Φ inv hw hp h
    rw [show f + 1 + g = (f + g) + 1 by omega]
    refine ⟨fun h0 => absurd h0 h.1, fun i hi => ?_⟩
    obtain ⟨him, h1⟩ := h.2 i hi
    have key : ∀ a' w' Φ', C w' → Φ' w' → cHeadF P md ops C [] m ks L f (listed.setIfInBounds i true) a' Φ' → wpAny P md ops Q' (f + g) (listed.setIfInBounds i true) a' w' :=
      fun a' w' Φ' hw' hp' h2 => ih _ a' w' Φ' (inv.set hi him) hw' hp' h2
    unfold cOpF at h1
    rw [if_neg (by simp)] at h1
    unfold wpOp
    cases ho : ops[i]? with
    | none =>
      simp only [ho] at h1 ⊢
      exact key a w Φ hw hp h1
    | some o =>
      simp only [ho] at h1 ⊢
      by_cases hw' : Region.wanted o (yielded ops a.tmps) = true
      · rw [if_pos hw'] at h1 ⊢
        by_cases hik : i ∈ ks
        · rw [if_pos hik] at h1
          exact .inl (wp_of_callF (P := P) (o := o) (a := a) (h1 w hw hp) (fun v w2 ⟨q1, Φ2, _, _, q4, q5⟩ => key _ w2 Φ2 q1 q4 q5))
        · rw [if_neg hik] at h1
          obtain ⟨v, h2, h3⟩ := h1
          exact .inl (wp_of_q (P := P) (o := o) (a := a) (h2 w hw) (key _ w Φ hw hp h3))
      · rw [if_neg hw'] at h1 ⊢
        exact key _ w Φ hw hp h1
/-- The law: m operations (those of ks chained; they may write, as long as the world stays in C), then a tail in order. -/
theorem wp_region_chF {id : Nat} {Q : Exit → Act → World → Prop} {a : Act} {w : World} {l : List Oper} (C : World → Prop) (m : Nat) (ks : List Nat) (Φ0 : Fact) (hC : C w.drew) (h0 : Φ0 w.drew) (hm : P.follows .mixedOrders = true)
    (hB : okB .any l.toArray m ks = true)
    (h : wpCF P l.toArray C [] ks (fun a' Φ => ∀ w', C w' → Φ w' → wpList P l.toArray Q (l.drop m) a' w') 0 (l.take m) a Φ0) :
    (Code.region id l.toArray true).wp P Q a w := by
  simp only [okB, Region.lexTailB, Bool.and_eq_true, decide_eq_true_eq] at hB
  obtain ⟨⟨⟨⟨⟨hsel, hn⟩, hs⟩, hc⟩, hlex⟩, hch, hin⟩ := hB
  have hn' : m < l.length := by simpa using hn
  have htl : (l.take m).length = m := by simp; omega
  have hdl : (l.drop m).length = l.toArray.size - m := by simp
  have inv0 : HeadInv .any l.toArray m (Array.replicate l.toArray.size false) :=
    ⟨by simp, fun j oj _ hl => (by rw [getD_replicate_false] at hl; cases hl), fun t _ ht => getD_in (by simpa using ht) (getD_replicate_false _ _)⟩
  have H := cHead_lexF (md := .any) (g := l.toArray.size - m) (fun _ _ _ h => h) hsel hs hc hn hch (incr_nodup ks hin) (incr_sort ks hin) (l.take m) 0 _ a Φ0 (fun j hj => by
    have hj' : j < m := by rw [htl] at hj; exact hj
    simp [hj']) (by simpa using htl) inv0 trivial ⟨w.drew, hC, h0⟩ (fun j hj => by omega) (by rw [htl]; exact hlex) h
  refine wp_region_any hm ?_
  have := wpAny_of_cHeadF (Q' := Q) (g := l.toArray.size - m)
    (fun listed a' w' Φ inv hw' hp hL => by
      obtain ⟨hL1, hL2⟩ := hL
      have := wpAny_of_seq (md := .any) (Q' := Q) (l.drop m) m listed a' w' (fun j => by simp [List.getElem?_drop]) (by rw [hdl]; exact hL1) (hL2 w' hw' hp)
      rwa [hdl] at this) _ _ _ _ Φ0 inv0 hC h0 H
  rw [htl, show m + (l.toArray.size - m) = l.toArray.size by omega] at this
  exact this
end
section
variable {P : Program} {ops : Array Oper} {C : World → Prop} {k : Nat} {ns ks : List Nat} {Lq : Act → Fact → Prop} {o : Oper} {rest : List Oper} {a : Act} {Φ : Fact}
/-- A call of the chain. -/
theorem wpCF_c {ι : Type} (f : FuncId) (args : Array Value) (v : ι → Value) (G : ι → Fact) (h1 : k ∉ ns) (h2 : k ∈ ks) (hg : o.guard = none) (hx : ∀ w, (execOp a.eval o).run P w = .ok (.enter f args) w)
    (hc : ∀ w, C w → Φ w → Calls P f args w fun e w' => ∃ i, e = .returned (v i) ∧ G i w' ∧ C w') (h : ∀ i, wpCF P ops C ns ks Lq (k + 1) rest (a.put o.dst (v i)) (G i)) :
    wpCF P ops C ns ks Lq k (o :: rest) a Φ := by
  unfold wpCF
  rw [if_neg h1, if_pos (by simp [Region.wanted, hg]), if_pos h2]
  intro w hw hp
  unfold callAtF
  rw [hx]
  refine ⟨rfl, (hc w hw hp).mono ?_⟩
  rintro e w' ⟨i, rfl, h3, h4⟩
  exact ⟨_, rfl, h4, _, trivial, trivial, h3, h i⟩
/-- An operation that reads: whatever world the class bears. -/
theorem wpCF_r (v : Value) (h1 : k ∉ ns) (h2 : k ∉ ks) (hg : o.guard = none) (hq : ∀ w, C w → qAt P o a w v) (h : wpCF P ops C ns ks Lq (k + 1) rest (a.put o.dst v) Φ) : wpCF P ops C ns ks Lq k (o :: rest) a Φ := by
  refine wpCF_q h1 h2 (fun K hK => ?_)
  rw [if_pos (by simp [Region.wanted, hg])]
  exact ⟨v, hq, hK _ h⟩
end
/-- append of one element onto a row of the call's own, as a run. -/
theorem run_app1 {α : Type} {P : Program} {f : α → List Value} {sz base n c : Nat} {e : TypeId} {W : World} {A : Option Addr} {xs : List α} (t ty : TypeId) (z : Value) (bytes : Nat) (ht : P.underlying t = some (.slice e)) (hi : (P.info? e).map (fun i => (i.zero, i.size, i.bytes)) = some (some z, sz, bytes))
    (hzs : z.cells.size = sz) (hsz : 0 < sz) (hown : OW f sz e base W A n c xs) (y : α) (X m : Nat) (hX : ∀ j u, (f y)[j]? = some u → W.cell? ⟨X, j, none⟩ = some u) (hcl : (f y).length = sz) (h1 : ∀ u ∈ f y, u.oneCell' = true)
    (hbytes : (n + 1) * bytes ≤ 140737488355328) (hby : 1 ≤ bytes) (hbase : base ≤ W.heap.size) :
    ∃ g c' W', (Builtin.append_ #[t, t] ty #[.slice A n c, .slice (some ⟨X, 0, none⟩) 1 m]).run P W = .ok (.slice (some ⟨g, 0, none⟩) (n + 1) c') W' ∧ OW f sz e base W' (some ⟨g, 0, none⟩) (n + 1) c' (xs ++ [y]) ∧ W.grownBy W' (A.map (·.block)) ∧
      (A.map (·.block) = some g ∨ g = W.heap.size) := by
  obtain ⟨i, hi', hz, hsize, hbytes'⟩ := info_parts hi
  obtain ⟨v', w', hr, h2, h3, h4, h5⟩ := run_append_own_at (P := P) (w := W) base t ty e i z sz bytes ht hi' hz hsize hbytes' hzs hsz _ n _ hown.1 ⟨X, 0, none⟩ 1 m (f y) (by rw [hcl, Nat.one_mul]) (by
      intro j u hj
      have e0 : ((⟨X, 0, none⟩ : Addr).add j) = ⟨X, j, none⟩ := by unfold Addr.add; split <;> simp_all
      rw [e0]
      exact hX j u hj) h1 (by
        unfold maxLen
        have : n + 1 ≤ (n + 1) * bytes := Nat.le_mul_of_pos_right _ (by omega)
        omega) hbytes hbase
  rcases h2.2 with ⟨_, h6⟩ | ⟨g, cap, cur, rfl, hr2⟩
  · omega
  · refine ⟨g, cap, w', hr, ⟨by rw [List.flatMap_append, List.flatMap_cons, List.flatMap_nil, List.append_nil]; exact ⟨h2.1, .inr ⟨g, cap, cur, rfl, hr2⟩⟩, by simp [hown.2]⟩, ?_, ?_⟩
    · cases A with
      | none => exact h3
      | some q => exact h3
    · cases A with
      | none =>
        rcases h5 with h5 | h5
        · simp [Value.ownBlock] at h5
        · simp [Value.ownBlock] at h5
          exact .inr h5
      | some q =>
        rcases h5 with h5 | h5
        · simp [Value.ownBlock] at h5
          exact .inl (by simp [h5])
        · simp [Value.ownBlock] at h5
          exact .inr h5
end Go.Proofs.YtafclpmnpamipaaGreat
