/- The law of a drawn region inside a loop's round whose chained operations may write (an append with room): the worlds stay in C, the facts need not last. Printed by genreg8.py out of Reg3's text. Plain theorems over any program. -/
import Derived.Test.YtafclpmnpamipaaGreatQReg
import Derived.Test.YtafclpmnpamipaaGreatQReg7
namespace Go.Proofs.YtafclpmnpamipaaGreat
open Go.RowKit Go.Sort

section
variable {P : Program} {ops : Array Oper} {md : Region.Mode} {C : World → Prop}
def cUponF (P : Program) (w : World) (R : Value → World → Prop) : Result Next → Prop
  | .ok (.enter f args) w' => w' = w ∧ Calls P f args w (fun e w'' => ∃ v, e = .returned v ∧ R v w'')
  | .ok (.value u) w' => R u w'
  | .ok .skip w' => R undef w'
  | _ => False
def callAtF (P : Program) (o : Oper) (a : Act) (w : World) (R : Value → World → Prop) : Prop := cUponF P w R ((execOp a.eval o).run P w)
theorem callAt_monoF {o : Oper} {a : Act} {w : World} {R R' : Value → World → Prop} (hr : ∀ v w', R v w' → R' v w') (h : callAtF P o a w R) : callAtF P o a w R' := by
  unfold callAtF at *
  generalize (execOp a.eval o).run P w = r at *
  cases r with
  | ok n w' =>
    cases n <;> simp only [cUponF] at h ⊢
    · exact hr _ _ h
    · exact hr _ _ h
    · exact ⟨h.1, h.2.mono fun e w'' ⟨v, e1, h1⟩ => ⟨v, e1, hr _ _ h1⟩⟩
  | halt x w' => simp only [cUponF] at h
theorem callAt_exF {o : Oper} {a : Act} {w : World} {R : Value → World → Prop} (h : callAtF P o a w R) : ∃ v w', R v w' := by
  unfold callAtF at h
  generalize (execOp a.eval o).run P w = r at *
  cases r with
  | ok n w' =>
    cases n <;> simp only [cUponF] at h
    · exact ⟨_, _, h⟩
    · exact ⟨_, _, h⟩
    · obtain ⟨e, w'', fr, ⟨v, _, h1⟩, _⟩ := h.2 []
      exact ⟨v, w'', h1⟩
  | halt x w' => simp only [cUponF] at h
def stableF (_ : Fact) : Prop := True
/-- What a call must leave. -/
def LeavesF (C : World → Prop) (_ : Fact) (_ : World) (dst : Option Tmp) (a : Act) (K : Act → Fact → Prop) (v : Value) (w' : World) : Prop :=
  C w' ∧ ∃ Φ' : Fact, stableF Φ' ∧ True ∧ Φ' w' ∧ K (a.put dst v) Φ'
def cOpF (P : Program) (ops : Array Oper) (C : World → Prop) (ns : List Nat) (ks : List Nat) (i : Nat) (K : Act → Fact → Prop) (a : Act) (Φ : Fact) : Prop :=
  if i ∈ ns then K a Φ else
  match ops[i]? with
  | none => K a Φ
  | some o =>
    if Region.wanted o (yielded ops a.tmps) then
      if i ∈ ks then ∀ w, C w → Φ w → callAtF P o a w (LeavesF C Φ w o.dst a K)
      else ∃ v, (∀ w, C w → qAt P o a w v) ∧ K (a.put o.dst v) Φ
    else K (a.put o.dst undef) Φ
theorem cOp_monoF {ns : List Nat} {i : Nat} {ks : List Nat} (hCl : ∀ w w', C w → C w' → C w') {a : Act} {Φ : Fact} {K K' : Act → Fact → Prop} (hst : stableF Φ) (hex : ∃ w, C w ∧ Φ w)
    (h : ∀ a Φ, stableF Φ → (∃ w, C w ∧ Φ w) → K a Φ → K' a Φ) (hh : cOpF P ops C ns ks i K a Φ) : cOpF P ops C ns ks i K' a Φ := by
  unfold cOpF at *
  by_cases hin : i ∈ ns
  · rw [if_pos hin] at *; exact h _ _ hst hex hh
  rw [if_neg hin] at *
  split
  · exact h _ _ hst hex (by simpa [*] using hh)
  · rename_i o ho
    simp only [ho] at hh
    by_cases hw : Region.wanted o (yielded ops a.tmps) = true
    · rw [if_pos hw] at hh ⊢
      by_cases hk : i ∈ ks
      · rw [if_pos hk] at hh ⊢
        exact fun w hc hp => callAt_monoF (fun v w' ⟨h1, Φ', h2, h3, h4, h5⟩ => ⟨h1, Φ', h2, h3, h4, h _ _ h2 ⟨w', hCl _ _ hc h1, h4⟩ h5⟩) (hh w hc hp)
      · rw [if_neg hk] at hh ⊢
        obtain ⟨v, h1, h2⟩ := hh
        exact ⟨v, h1, h _ _ hst hex h2⟩
    · rw [if_neg hw] at hh ⊢
      exact h _ _ hst hex hh
theorem Qyields.cOpF {ns : List Nat} {i : Nat} {ks : List Nat} {o : Oper} {v : Value} {a : Act} {Φ : Fact} (hin : i ∉ ns) (hk : i ∉ ks) (hi : ops[i]? = some o) (hy : Qyields P ops C o v a) {K : Act → Fact → Prop} (h : K (a.put o.dst v) Φ) : cOpF P ops C ns ks i K a Φ := by
  unfold Go.Proofs.YtafclpmnpamipaaGreat.cOpF
  rw [if_neg hin]
  simp only [hi]
  rcases hy with ⟨hw, hv⟩ | ⟨hw, rfl⟩
  · rw [if_pos hw, if_neg hk]; exact ⟨v, hv, h⟩
  · rw [if_neg (by rw [hw]; simp)]; exact h
theorem qyields_of_cOpF {ns : List Nat} {i : Nat} {ks : List Nat} {o : Oper} {a : Act} {Φ : Fact} {K : Act → Fact → Prop} (hin : i ∉ ns) (hk : i ∉ ks) (hi : ops[i]? = some o) (h : cOpF P ops C ns ks i K a Φ) : ∃ v, Qyields P ops C o v a ∧ K (a.put o.dst v) Φ := by
  unfold cOpF at h
  rw [if_neg hin] at h
  simp only [hi] at h
  by_cases hw : Region.wanted o (yielded ops a.tmps) = true
  · rw [if_pos hw, if_neg hk] at h
    obtain ⟨v, h1, h2⟩ := h
    exact ⟨v, .inl ⟨hw, h1⟩, h2⟩
  · rw [if_neg hw] at h
    exact ⟨undef, .inr ⟨by simpa using hw, rfl⟩, h⟩
/-- A quiet value is put first: what comes behind it does not mind. -/
theorem cOp_putF {ns : List Nat} {j : Nat} {ks : List Nat} {oi oj : Oper} {v : Value} (hj : ops[j]? = some oj) (hap : oi.apart ops oj = true)
    (hsi : ∀ cs b, oi.op ≠ .select cs b) (hsj : ∀ cs b, oj.op ≠ .select cs b) {K : Act → Fact → Prop} {a : Act} {Φ : Fact}
    (hy : Qyields P ops C oi v a) (h : cOpF P ops C ns ks j K (a.put oi.dst v) Φ) :
    cOpF P ops C ns ks j (fun a' Φ' => Qyields P ops C oi v a' ∧ K (a'.put oi.dst v) Φ') a Φ := by
  obtain ⟨h1, h2, h3⟩ := Oper.apart_spec hap
  have keep : ∀ (a : Act), Qyields P ops C oi v a → ∀ u, Qyields P ops C oi v (a.put oj.dst u) := fun a hy u =>
    hy.of_same (execOp_put oi hsi a oj.dst u h3) (wanted_put oi a oj.dst u h3)
  unfold cOpF at *
  by_cases hjn : j ∈ ns
  · rw [if_pos hjn] at *; exact ⟨hy, h⟩
  rw [if_neg hjn] at *
  simp only [hj] at *
  rw [wanted_put oj a oi.dst v h1] at h
  by_cases hw : Region.wanted oj (yielded ops a.tmps) = true
  · rw [if_pos hw] at h ⊢
    by_cases hk : j ∈ ks
    · rw [if_pos hk] at h ⊢
      intro w hc hp
      have := h w hc hp
      unfold callAtF at *
      rw [execOp_put oj hsj a oi.dst v h1] at this
      refine callAt_monoF (P := P) (o := oj) (a := a) (fun u w' ⟨k1, Φ', k2, k3, k4, k5⟩ => ⟨k1, Φ', k2, k3, k4, keep a hy u, by rw [← Act.put_comm a v u h2]; exact k5⟩) this
    · rw [if_neg hk] at h ⊢
      obtain ⟨u, hu, hn⟩ := h
      refine ⟨u, fun w hw' => ?_, keep a hy u, by rw [← Act.put_comm a v u h2]; exact hn⟩
      have := hu w hw'
      unfold qAt at *
      rwa [execOp_put oj hsj a oi.dst v h1] at this
  · rw [if_neg hw] at h ⊢
    exact ⟨keep a hy _, by rw [← Act.put_comm a v undef h2]; exact h⟩
def cHeadF (P : Program) (md : Region.Mode) (ops : Array Oper) (C : World → Prop) (ns : List Nat) (m : Nat) (ks : List Nat) (L : Array Bool → Act → Fact → Prop) : Nat → Array Bool → Act → Fact → Prop
  | 0, listed, a, Φ => L listed a Φ
  | f + 1, listed, a, Φ =>
    Region.ready md ops listed ≠ [] ∧ ∀ i ∈ Region.ready md ops listed, i < m ∧ cOpF P ops C ns ks i (cHeadF P md ops C ns m ks L f (listed.setIfInBounds i true)) a Φ
/-- An operation that stands first in the text may be taken first. -/
theorem cHead_firstF {ns : List Nat} {m i : Nat} {ks : List Nat} {oi : Oper} {L : Array Bool → Act → Fact → Prop} (hCl : ∀ w w', C w → C w' → C w') (hi : ops[i]? = some oi) (hsel : ∀ (j : Nat) (o : Oper) cs b, ops[j]? = some o → o.op ≠ .select cs b)
    (hs : Region.sinkB md ops m = true) (hc : Region.chainB md ops m = true) (hn : m < ops.size) (hin : i < m)
    (hdone : ∀ listed a Φ, L listed a Φ → ∀ j ∈ Region.ready md ops listed, m ≤ j) :
    ∀ (f : Nat) (listed : Array Bool) (a : Act) (Φ : Fact), HeadInv md ops m listed → stableF Φ → (∃ w, C w ∧ Φ w) →
      (∀ j oj, ops[j]? = some oj → j ≠ i → listed.getD j true = false → (∀ e ∈ oj.after, Region.binds md e = true → e.on ≠ i) → oi.apart ops oj = true) →
      i ∈ Region.ready md ops listed → (i ∈ ks → ∀ j ∈ ks, j ≠ i → j ∉ Region.ready md ops listed) →
      (∀ (L2 : Array Bool), (∀ q, listed.getD q false = true → L2.getD q false = true) → L2.getD i true = false → HeadInv md ops m L2 → i ∈ ks → ∀ j ∈ ks, j ≠ i → j ∉ Region.ready md ops L2) →
      cOpF P ops C ns ks i (cHeadF P md ops C ns m ks L f (listed.setIfInBounds i true)) a Φ → cHeadF P md ops C ns m ks L (f + 1) listed a Φ := by
  intro f
  induction f with
  | zero =>
    intro listed a Φ inv hst hex hfree hr hkr hch H
    have hun := (mem_ready.1 hr).1
    refine ⟨fun h => (by rw [h] at hr; cases hr), fun j hj => ?_⟩
    have hjn : j < m := by
      rcases Nat.lt_or_ge j m with h | h
      · exact h
      · exact absurd hj (tail_waits hs hc hn inv _ i rfl hin hun j h)
    refine ⟨hjn, ?_⟩
    by_cases hji : j = i
    · subst hji; exact H
    · exfalso
      have bad : ∀ a' Φ', cHeadF P md ops C ns m ks L 0 (listed.setIfInBounds i true) a' Φ' → False := fun a' Φ' h => by
        have := hdone _ _ _ h j (ready_mono hj hji)
        omega
      unfold cOpF at H
      by_cases hin' : i ∈ ns
      · rw [if_pos hin'] at H; exact bad _ _ H
      rw [if_neg hin'] at H
      simp only [hi] at H
      split at H
      · split at H
        · obtain ⟨w, hw1, hw2⟩ := hex
          obtain ⟨v, w', _, Φ', _, _, _, h⟩ := callAt_exF (H w hw1 hw2)
          exact bad _ _ h
        · obtain ⟨v, _, h⟩ := H
          exact bad _ _ h
      · exact bad _ _ H
  | succ f ih =>
    intro listed a Φ inv hst hex hfree hr hkr hch H
    have hun := (mem_ready.1 hr).1
    refine ⟨fun h => (by rw [h] at hr; cases hr), fun j hj => ?_⟩
    have hjn : j < m := by
      rcases Nat.lt_or_ge j m with h | h
      · exact h
      · exact absurd hj (tail_waits hs hc hn inv _ i rfl hin hun j h)
    refine ⟨hjn, ?_⟩
    by_cases hji : j = i
    · subst hji; exact H
    · obtain ⟨hjun, oj, hoj, hall⟩ := mem_ready.1 hj
      have hnot : ∀ e ∈ oj.after, Region.binds md e = true → e.on ≠ i := fun e he hb heq => by
        have h1 := hall e he hb
        rw [heq, getD_both hun] at h1
        cases h1
      have hap := hfree j oj hoj hji hjun hnot
      have inv' := inv.set hj hjn
      have hr' := ready_mono hr (Ne.symm hji)
      have hfree' : ∀ k ok, ops[k]? = some ok → k ≠ i → (listed.setIfInBounds j true).getD k true = false →
          (∀ e ∈ ok.after, Region.binds md e = true → e.on ≠ i) → oi.apart ops ok = true := fun k ok hk hki hun' hno => by
        refine hfree k ok hk hki ?_ hno
        by_cases hjk : j = k
        · subst hjk; exact hjun
        · rw [getD_set_ne true hjk] at hun'; exact hun'
      have hun2 : (listed.setIfInBounds j true).getD i true = false := by rw [getD_set_ne true hji]; exact hun
      have hch' : ∀ (L2 : Array Bool), (∀ q, (listed.setIfInBounds j true).getD q false = true → L2.getD q false = true) → L2.getD i true = false → HeadInv md ops m L2 → i ∈ ks → ∀ j ∈ ks, j ≠ i → j ∉ Region.ready md ops L2 :=
        fun L2 hsub => hch L2 (fun q hq => hsub q (getD_set_true hq))
      have hkr' : i ∈ ks → ∀ j' ∈ ks, j' ≠ i → j' ∉ Region.ready md ops (listed.setIfInBounds j true) := hch' _ (fun q hq => hq) hun2 inv'
      have use := fun (a' : Act) (Φ' : Fact) (h1 : stableF Φ') (h2 : ∃ w, C w ∧ Φ' w) (h3 : cOpF P ops C ns ks i (cHeadF P md ops C ns m ks L f ((listed.setIfInBounds j true).setIfInBounds i true)) a' Φ') =>
        ih (listed.setIfInBounds j true) a' Φ' inv' h1 h2 hfree' hr' hkr' hch' h3
      rw [Array.setIfInBounds_comm _ _ hji] at use
      have hcomp : ∀ a' Φ', cHeadF P md ops C ns m ks L (f + 1) (listed.setIfInBounds i true) a' Φ' → cOpF P ops C ns ks j (cHeadF P md ops C ns m ks L f ((listed.setIfInBounds i true).setIfInBounds j true)) a' Φ' := fun a' Φ' h => (h.2 j (ready_mono hj hji)).2
      obtain ⟨p1, p2, p3⟩ := Oper.apart_spec hap
      by_cases hin' : i ∈ ns
      · -- the block that floats
        unfold cOpF at H
        rw [if_pos hin'] at H
        refine cOp_monoF hCl hst hex (fun a' Φ' h1 h2 h3 => use a' Φ' h1 h2 ?_) (hcomp _ _ H)
        unfold cOpF
        rw [if_pos hin']
        exact h3
      · by_cases hik : i ∈ ks
        · -- a call
          have hjk : j ∉ ks := fun h => hkr hik j h hji hj
          by_cases hwi : Region.wanted oi (yielded ops a.tmps) = true
          case neg =>
            unfold cOpF at H
            rw [if_neg hin'] at H
            simp only [hi] at H
            rw [if_neg hwi] at H
            by_cases hjn' : j ∈ ns
            · unfold cOpF
              rw [if_pos hjn']
              refine use a Φ hst hex ?_
              unfold cOpF
              rw [if_neg hin']
              simp only [hi]
              rw [if_neg hwi]
              have := hcomp _ _ H
              unfold cOpF at this
              rw [if_pos hjn'] at this
              exact this
            · obtain ⟨vj, hyj, hk⟩ := qyields_of_cOpF hjn' hjk hoj (hcomp _ _ H)
              have hyj' : Qyields P ops C oj vj a := hyj.of_same (execOp_put oj (fun cs b => hsel j oj cs b hoj) a oi.dst undef p1).symm (wanted_put oj a oi.dst undef p1).symm
              refine hyj'.cOpF hjn' hjk hoj (use _ Φ hst hex ?_)
              unfold cOpF
              rw [if_neg hin']
              simp only [hi]
              rw [if_neg (by rw [wanted_put oi a oj.dst vj p3]; exact hwi)]
              rw [← Act.put_comm a undef vj p2]
              exact hk
          unfold cOpF at H
          rw [if_neg hin'] at H
          simp only [hi] at H
          rw [if_pos hwi, if_pos hik] at H
          by_cases hjn' : j ∈ ns
          · unfold cOpF
            rw [if_pos hjn']
            refine use a Φ hst hex ?_
            unfold cOpF
            rw [if_neg hin']
            simp only [hi]
            rw [if_pos hwi, if_pos hik]
            intro w hw1 hw2
            refine callAt_monoF (fun v w' ⟨k1, Φ', k2, k3, k4, k5⟩ => ⟨k1, Φ', k2, k3, k4, ?_⟩) (H w hw1 hw2)
            have := hcomp _ _ k5
            unfold cOpF at this
            rw [if_pos hjn'] at this
            exact this
          · obtain ⟨w0, hw1, hw2⟩ := hex
            obtain ⟨v0, w0', k1, Φ0, k2, k3, k4, k5⟩ := callAt_exF (H w0 hw1 hw2)
            obtain ⟨vj, hyj, _⟩ := qyields_of_cOpF hjn' hjk hoj (hcomp _ _ k5)
            have hyj' : Qyields P ops C oj vj a := hyj.of_same (execOp_put oj (fun cs b => hsel j oj cs b hoj) a oi.dst v0 p1).symm (wanted_put oj a oi.dst v0 p1).symm
            refine hyj'.cOpF hjn' hjk hoj (use _ Φ hst ⟨w0, hw1, hw2⟩ ?_)
            unfold cOpF
            rw [if_neg hin']
            simp only [hi]
            rw [if_pos (by rw [wanted_put oi a oj.dst vj p3]; exact hwi), if_pos hik]
            intro w hc1 hc2
            have := H w hc1 hc2
            unfold callAtF
            rw [execOp_put oi (fun cs b => hsel i oi cs b hi) a oj.dst vj p3]
            refine callAt_monoF (P := P) (o := oi) (a := a) (fun v w' ⟨q1, Φ', q2, q3, q4, q5⟩ => ⟨q1, Φ', q2, q3, q4, ?_⟩) this
            obtain ⟨vj', hz, hk⟩ := qyields_of_cOpF hjn' hjk hoj (hcomp _ _ q5)
            have hz' : Qyields P ops C oj vj' a := hz.of_same (execOp_put oj (fun cs b => hsel j oj cs b hoj) a oi.dst v p1).symm (wanted_put oj a oi.dst v p1).symm
            obtain rfl := hz'.uniq ⟨w, hc1⟩ hyj'
            rw [← Act.put_comm a v vj' p2]
            exact hk
        · obtain ⟨v, hy, hK⟩ := qyields_of_cOpF hin' hik hi H
          have h2 := cOp_putF hoj hap (fun cs b => hsel i oi cs b hi) (fun cs b => hsel j oj cs b hoj) hy (hcomp _ _ hK)
          exact cOp_monoF hCl hst hex (fun a' Φ' q1 q2 q3 => use a' Φ' q1 q2 (q3.1.cOpF hin' hik hi q3.2)) h2
/-- One walk, in the text's order. -/
def wpCF (P : Program) (ops : Array Oper) (C : World → Prop) (ns : List Nat) (ks : List Nat) (Lq : Act → Fact → Prop) : Nat → List Oper → Act → Fact → Prop
  | _, [], a, Φ => Lq a Φ
  | k, o :: rest, a, Φ =>
    if k ∈ ns then wpCF P ops C ns ks Lq (k + 1) rest a Φ else
    if Region.wanted o (yielded ops a.tmps) then
      if k ∈ ks then ∀ w, C w → Φ w → callAtF P o a w (LeavesF C Φ w o.dst a (wpCF P ops C ns ks Lq (k + 1) rest))
      else ∃ v, (∀ w, C w → qAt P o a w v) ∧ wpCF P ops C ns ks Lq (k + 1) rest (a.put o.dst v) Φ
    else wpCF P ops C ns ks Lq (k + 1) rest (a.put o.dst undef) Φ
theorem cHead_lexF {ns : List Nat} {m g : Nat} {ks : List Nat} {Lq : Act → Fact → Prop} (hCl : ∀ w w', C w → C w' → C w') (hsel : Region.noSelect ops = true) (hs : Region.sinkB md ops m = true) (hc : Region.chainB md ops m = true) (hn : m < ops.size)
    (hch : chained md ops ks = true) (hnd : ks.Nodup) (hsort : ∀ A B i j, ks = A ++ i :: B → j ∈ A → j < i) :
    ∀ (l : List Oper) (k : Nat) (listed : Array Bool) (a : Act) (Φ : Fact), (∀ j, j < l.length → l[j]? = ops[k + j]?) → k + l.length = m → HeadInv md ops m listed → stableF Φ → (∃ w, C w ∧ Φ w) → (∀ j, j < k → listed.getD j false = true) →
    Region.lexHead md ops g l.length k listed = true → wpCF P ops C ns ks Lq k l a Φ →
    cHeadF P md ops C ns m ks (fun listed' a' Φ' => Region.seqB md ops g m listed' = true ∧ Lq a' Φ') l.length listed a Φ
  | [], k, listed, a, Φ, _, hk, _, _, _, _, hB, h => by
    have : k = m := by simpa using hk
    subst this
    exact ⟨by simpa [Region.lexHead] using hB, h⟩
  | o :: l, k, listed, a, Φ, hl, hk, inv, hst, hex, hpre, hB, h => by
    have h0 : ops[k]? = some o := by simpa using (hl 0 (by simp)).symm
    rw [List.length_cons, Region.lexHead] at hB
    simp only [Bool.and_eq_true] at hB
    obtain ⟨⟨hr, hf⟩, hB'⟩ := hB
    have hkm : k < m := by simp only [List.length_cons] at hk; omega
    have hr' : k ∈ Region.ready md ops listed := by simpa using hr
    have hun := (mem_ready.1 hr').1
    have late : ∀ (L2 : Array Bool), (∀ q, listed.getD q false = true → L2.getD q false = true) → L2.getD k true = false → HeadInv md ops m L2 → k ∈ ks → ∀ j ∈ ks, j ≠ k → j ∉ Region.ready md ops L2 := by
      intro L2 hsub hk2 inv2 hkk j hj hjk hjr
      obtain ⟨A, B, e⟩ := List.append_of_mem hkk
      rw [e] at hj
      rcases List.mem_append.1 hj with hjA | hjB
      · have hlt := hsort A B k j e hjA
        have h1 := hsub j (hpre j hlt)
        have h2 := (mem_ready.1 hjr).1
        rw [getD_both h2] at h1
        cases h1
      · rcases List.mem_cons.1 hjB with rfl | hjB
        · exact hjk rfl
        · have := chain_listed inv2 ks hch A B k j e hjB (.inr hjr)
          rw [getD_both hk2] at this
          cases this
    have step : ∀ a' Φ', stableF Φ' → (∃ w, C w ∧ Φ' w) → wpCF P ops C ns ks Lq (k + 1) l a' Φ' → cHeadF P md ops C ns m ks (fun listed' a' Φ' => Region.seqB md ops g m listed' = true ∧ Lq a' Φ') l.length (listed.setIfInBounds k true) a' Φ' := fun a' Φ' h1 h2 h3 =>
      cHead_lexF hCl hsel hs hc hn hch hnd hsort l (k + 1) _ a' Φ' (fun j hj => by have := hl (j + 1) (by simp; omega); simpa [Nat.add_assoc, Nat.add_comm 1 j] using this) (by simp only [List.length_cons] at hk; omega) (inv.set hr' hkm) h1 h2 (fun j hj => by
        by_cases hjk : k = j
        · subst hjk
          have : k < listed.size := by rw [inv.size]; omega
          simp [this]
        · rw [getD_set_ne false hjk]; exact hpre j (by omega)) hB' h3
    refine cHead_firstF hCl h0 (Region.noSelect_spec hsel) hs hc hn hkm (fun listed' a' Φ' hL => seqB_ready hL.1) l.length listed a Φ inv hst hex (Region.free_spec h0 hf) hr' (late listed (fun q hq => hq) hun inv) late ?_
    unfold wpCF at h
    unfold cOpF
    by_cases hkn : k ∈ ns
    · rw [if_pos hkn] at h ⊢
      exact step a Φ hst hex h
    rw [if_neg hkn] at h ⊢
    simp only [h0]
    by_cases hw : Region.wanted o (yielded ops a.tmps) = true
    · rw [if_pos hw] at h ⊢
      by_cases hkk : k ∈ ks
      · rw [if_pos hkk] at h ⊢
        exact fun w h1 h2 => callAt_monoF (fun v w' ⟨q1, Φ', q2, q3, q4, q5⟩ => ⟨q1, Φ', q2, q3, q4, step _ _ q2 ⟨w', hCl _ _ h1 q1, q4⟩ q5⟩) (h w h1 h2)
      · rw [if_neg hkk] at h ⊢
        obtain ⟨v, h1, h2⟩ := h
        exact ⟨v, h1, step _ _ hst hex h2⟩
    · rw [if_neg hw] at h ⊢
      exact step _ _ hst hex h
end
section
variable {P : Program} {ops : Array Oper} {md : Region.Mode} {C : World → Prop} {lp mr : Nat}
theorem wpIn_of_callF {o : Oper} {a : Act} {R : Value → World → Prop} {K' : Act → World → Prop} {Q' : Exit → Act → World → Prop} {w : World} (hd : ∀ c, o.op ≠ .defer c) (h1 : callAtF P o a w R) (h : ∀ v w', R v w' → K' (a.put o.dst v) w') : o.wpIn (Fence.wide.inRound lp) mr P a w K' Q' := by
  refine ⟨fun _ _ => trivial, ?_⟩
  rw [Oper.semAt_eq _ _ _ hd]
  unfold callAtF at h1
  generalize (execOp a.eval o).run P w = r at *
  cases r with
  | ok n w' =>
    cases n <;> simp only [cUponF] at h1 <;> simp only [Oper.uponIn]
    case value => exact h _ _ h1
    case skip => exact h _ _ h1
    case enter f args =>
      obtain ⟨e1, hc⟩ := h1
      rw [e1]
      refine ⟨(fun q => by cases q), CallsIn.inRound lp (callsIn_wide.2 (hc.mono ?_))⟩
      rintro e w'' ⟨v, he, hr⟩
      subst he
      exact h _ _ hr
  | halt x w' => simp only [cUponF] at h1
theorem wpAnyIn_of_cHeadF {m g : Nat} {ks : List Nat} {L : Array Bool → Act → Fact → Prop} {Q' : Exit → Act → World → Prop}
    (hdf : ∀ (j : Nat) (o : Oper) c, ops[j]? = some o → o.op ≠ .defer c) (hL : ∀ listed a w Φ, HeadInv md ops m listed → C w → Φ w → L listed a Φ → wpAnyIn (Fence.wide.inRound lp) mr P md ops Q' g listed a w) :
    ∀ (f : Nat) (listed : Array Bool) (a : Act) (w : World) (Φ : Fact), HeadInv md ops m listed → C w → Φ w → cHeadF P md ops C [] m ks L f listed a Φ → wpAnyIn (Fence.wide.inRound lp) mr P md ops Q' (f + g) listed a w := by
  intro f
  induction f with
  | zero => intro listed a w Φ inv hw hp h; rw [Nat.zero_add]; exact hL _ _ _ _ inv hw hp h
  | succ f ih =>
    intro listed a w Φ inv hw hp h
    rw [show f + 1 + g = (f + g) + 1 by omega]
    refine ⟨fun h0 => absurd h0 h.1, fun i hi => ?_⟩
    obtain ⟨him, h1⟩ := h.2 i hi
    have key : ∀ a' w' Φ', C w' → Φ' w' → cHeadF P md ops C [] m ks L f (listed.setIfInBounds i true) a' Φ' → wpAnyIn (Fence.wide.inRound lp) mr P md ops Q' (f + g) (listed.setIfInBounds i true) a' w' :=
      fun a' w' Φ' hw' hp' h2 => ih _ a' w' Φ' (inv.set hi him) hw' hp' h2
    unfold cOpF at h1
    rw [if_neg (by simp)] at h1
    unfold wpOpIn
    cases ho : ops[i]? with
    | none =>
      simp only [ho] at h1 ⊢
      exact key a w Φ hw hp h1
    | some o =>
      simp only [ho] at h1 ⊢
      by_cases hw' : Region.wanted o (yielded ops a.tmps) = true
      · rw [if_pos hw'] at h1 ⊢
        by_cases hik : i ∈ ks
        · rw [if_pos hik] at h1
          exact wpIn_of_callF (P := P) (o := o) (a := a) (fun c => hdf _ _ c ho) (h1 w hw hp) (fun v w' ⟨q1, Φ', _, _, q4, q5⟩ => key _ w' Φ' q1 q4 q5)
        · rw [if_neg hik] at h1
          obtain ⟨v, h2, h3⟩ := h1
          exact wpIn_of_q (P := P) (o := o) (a := a) (fun c => hdf _ _ c ho) (h2 w hw) (key _ w Φ hw hp h3)
      · rw [if_neg hw'] at h1 ⊢
        exact ⟨fun _ _ => trivial, key _ w Φ hw hp h1⟩
/-- The law: m operations (those of ks chained; they may write, as long as the world stays in C), then a tail in order. -/
theorem wpIn_region_chF {id : Nat} {Q : Exit → Act → World → Prop} {a : Act} {w : World} {l : List Oper} (C : World → Prop) (m : Nat) (ks : List Nat) (Φ0 : Fact) (hC : C w.drew) (h0 : Φ0 w.drew) (hm : P.follows .mixedOrders = true)
    (hB : (okB .any l.toArray m ks && noDefer l.toArray) = true)
    (h : wpCF P l.toArray C [] ks (fun a' Φ => ∀ w', C w' → Φ w' → wpListIn (Fence.wide.inRound lp) mr P l.toArray Q (l.drop m) a' w') 0 (l.take m) a Φ0) :
    (Code.region id l.toArray true).wpIn (Fence.wide.inRound lp) mr P Q a w := by
  simp only [okB, Region.lexTailB, Bool.and_eq_true, decide_eq_true_eq] at hB
  obtain ⟨⟨⟨⟨⟨⟨hsel, hn⟩, hs⟩, hc⟩, hlex⟩, hch, hin⟩, hndf⟩ := hB
  have hn' : m < l.length := by simpa using hn
  have htl : (l.take m).length = m := by simp; omega
  have hdl : (l.drop m).length = l.toArray.size - m := by simp
  have inv0 : HeadInv .any l.toArray m (Array.replicate l.toArray.size false) :=
    ⟨by simp, fun j oj _ hl => (by rw [getD_replicate_false] at hl; cases hl), fun t _ ht => getD_in (by simpa using ht) (getD_replicate_false _ _)⟩
  have H := cHead_lexF (md := .any) (g := l.toArray.size - m) (fun _ _ _ h => h) hsel hs hc hn hch (incr_nodup ks hin) (incr_sort ks hin) (l.take m) 0 _ a Φ0 (fun j hj => by
    have hj' : j < m := by rw [htl] at hj; exact hj
    simp [hj']) (by simpa using htl) inv0 trivial ⟨w.drew, hC, h0⟩ (fun j hj => by omega) (by rw [htl]; exact hlex) h
  refine wpIn_region_any hm ?_
  have := wpAnyIn_of_cHeadF (Q' := Q) (g := l.toArray.size - m) (lp := lp) (mr := mr)
    (noDefer_spec hndf) (fun listed a' w' Φ inv hw' hp hL => by
      obtain ⟨hL1, hL2⟩ := hL
      have := wpAnyIn_of_seq (md := .any) (Q' := Q) (l.drop m) m listed a' w' (fun j => by simp [List.getElem?_drop]) (by rw [hdl]; exact hL1) (hL2 w' hw' hp)
      rwa [hdl] at this) _ _ _ _ Φ0 inv0 hC h0 H
  rw [htl, show m + (l.toArray.size - m) = l.toArray.size by omega] at this
  exact this
end
section
variable {P : Program} {ops : Array Oper} {C : World → Prop} {k : Nat} {ns ks : List Nat} {Lq : Act → Fact → Prop} {o : Oper} {rest : List Oper} {a : Act} {Φ : Fact}
theorem wpCF_nil (h : Lq a Φ) : wpCF P ops C ns ks Lq k [] a Φ := h
theorem wpCF_q (h1 : k ∉ ns) (h2 : k ∉ ks) (h : ∀ K : Act → Prop, (∀ a, wpCF P ops C ns ks Lq (k + 1) rest a Φ → K a) → if Region.wanted o (yielded ops a.tmps) then (∃ v, (∀ w, C w → qAt P o a w v) ∧ K (a.put o.dst v)) else K (a.put o.dst undef)) :
    wpCF P ops C ns ks Lq k (o :: rest) a Φ := by
  unfold wpCF
  rw [if_neg h1]
  have := h _ (fun _ h => h)
  by_cases hw : Region.wanted o (yielded ops a.tmps) = true
  · rw [if_pos hw] at this
    rw [if_pos hw, if_neg h2]
    exact this
  · rw [if_neg hw] at this
    rw [if_neg hw]
    exact this
/-- An operation of the chain: a run of its own. -/
theorem wpCF_v {ι : Type} (v : ι → Value) (G : ι → Fact) (h1 : k ∉ ns) (h2 : k ∈ ks) (hg : o.guard = none)
    (hc : ∀ w, C w → Φ w → ∃ i w', (execOp a.eval o).run P w = .ok (.value (v i)) w' ∧ G i w' ∧ C w') (h : ∀ i, wpCF P ops C ns ks Lq (k + 1) rest (a.put o.dst (v i)) (G i)) :
    wpCF P ops C ns ks Lq k (o :: rest) a Φ := by
  unfold wpCF
  rw [if_neg h1, if_pos (by simp [Region.wanted, hg]), if_pos h2]
  intro w hw hp
  unfold callAtF
  obtain ⟨i, w', hx, h3, h4⟩ := hc w hw hp
  rw [hx]
  exact ⟨h4, _, trivial, trivial, h3, h i⟩
/-- A store of the chain. -/
theorem wpCF_s {ι : Type} (G : ι → Fact) (h1 : k ∉ ns) (h2 : k ∈ ks) (hg : o.guard = none)
    (hc : ∀ w, C w → Φ w → ∃ i w', (execOp a.eval o).run P w = .ok .skip w' ∧ G i w' ∧ C w') (h : ∀ i, wpCF P ops C ns ks Lq (k + 1) rest (a.put o.dst undef) (G i)) :
    wpCF P ops C ns ks Lq k (o :: rest) a Φ := by
  unfold wpCF
  rw [if_neg h1, if_pos (by simp [Region.wanted, hg]), if_pos h2]
  intro w hw hp
  unfold callAtF
  obtain ⟨i, w', hx, h3, h4⟩ := hc w hw hp
  rw [hx]
  exact ⟨h4, _, trivial, trivial, h3, h i⟩
end
end Go.Proofs.YtafclpmnpamipaaGreat
