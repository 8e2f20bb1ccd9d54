/- A drawn region whose head reads, calls (the calls in one forced chain; each may make memory) and makes at most one block: one walk of the text's order serves every order. Plain theorems over any program. -/
import Derived.Test.YtomloklckpcaiaaReg2
namespace Go.Proofs.Ytomloklckpcaiaa
open Go.RowKit Go.Sort

section
variable {P : Program} {ops : Array Oper} {md : Region.Mode} {C : World → Prop}
/-- An operation that only reads: its value. -/
def qUpon (w : World) (v : Value) : Result Next → Prop
  | .ok (.value u) w' => w' = w ∧ u = v
  | .ok .skip w' => w' = w ∧ v = undef
  | _ => False
def qAt (P : Program) (o : Oper) (a : Act) (w : World) (v : Value) : Prop := qUpon w v ((execOp a.eval o).run P w)
theorem qAt_uniq {o : Oper} {a : Act} {w : World} {v v' : Value} (h : qAt P o a w v) (k : qAt P o a w v') : v = v' := by
  unfold qAt at h k
  generalize (execOp a.eval o).run P w = r at h k
  cases r with
  | ok n w' =>
    cases n <;> simp only [qUpon] at h k
    · exact h.2.symm.trans k.2
    · exact h.2.trans k.2.symm
  | halt x w' => simp only [qUpon] at h
def cUpon (P : Program) (w : World) (R : Value → World → Prop) : Result Next → Prop
  | .ok (.enter f args) w' => w' = w ∧ Calls P f args w (fun e w'' => ∃ v, e = .returned v ∧ R v w'')
  | .ok (.value u) w' => R u w'
  | _ => False
def callAt (P : Program) (o : Oper) (a : Act) (w : World) (R : Value → World → Prop) : Prop := cUpon P w R ((execOp a.eval o).run P w)
theorem callAt_mono {o : Oper} {a : Act} {w : World} {R R' : Value → World → Prop} (hr : ∀ v w', R v w' → R' v w') (h : callAt P o a w R) : callAt P o a w R' := by
  unfold callAt at *
  generalize (execOp a.eval o).run P w = r at *
  cases r with
  | ok n w' =>
    cases n <;> simp only [cUpon] at h ⊢
    · exact hr _ _ h
    · exact ⟨h.1, h.2.mono fun e w'' ⟨v, e1, h1⟩ => ⟨v, e1, hr _ _ h1⟩⟩
  | halt x w' => simp only [cUpon] at h
theorem callAt_ex {o : Oper} {a : Act} {w : World} {R : Value → World → Prop} (h : callAt P o a w R) : ∃ v w', R v w' := by
  unfold callAt at h
  generalize (execOp a.eval o).run P w = r at *
  cases r with
  | ok n w' =>
    cases n <;> simp only [cUpon] at h
    · exact ⟨_, _, h⟩
    · obtain ⟨e, w'', fr, ⟨v, _, h1⟩, _⟩ := h.2 []
      exact ⟨v, w'', h1⟩
  | halt x w' => simp only [cUpon] at h

abbrev Fact := World → Prop
def stable (Φ : Fact) : Prop := ∀ x y, Φ x → Below x.heap.size x y → Φ y
/-- What a call must leave. -/
def Leaves (Φ : Fact) (w : World) (dst : Option Tmp) (a : Act) (K : Act → Fact → Prop) (v : Value) (w' : World) : Prop :=
  Below w.heap.size w w' ∧ ∃ Φ' : Fact, stable Φ' ∧ (∀ x, Φ' x → Φ x) ∧ Φ' w' ∧ K (a.put dst v) Φ'
def cOp (P : Program) (ops : Array Oper) (C : World → Prop) (n : Nat) (ks : List Nat) (i : Nat) (K : Act → Fact → Prop) (a : Act) (Φ : Fact) : Prop :=
  if i = n then K a Φ else
  match ops[i]? with
  | none => K a Φ
  | some o =>
    if Region.wanted o (yielded ops a.tmps) then
      if i ∈ ks then ∀ w, C w → Φ w → callAt P o a w (Leaves Φ w o.dst a K)
      else ∃ v, (∀ w, C w → qAt P o a w v) ∧ K (a.put o.dst v) Φ
    else K (a.put o.dst undef) Φ
theorem cOp_mono {n i : Nat} {ks : List Nat} (hCl : ∀ w w', C w → Below w.heap.size w w' → C w') {a : Act} {Φ : Fact} {K K' : Act → Fact → Prop} (hst : stable Φ) (hex : ∃ w, C w ∧ Φ w)
    (h : ∀ a Φ, stable Φ → (∃ w, C w ∧ Φ w) → K a Φ → K' a Φ) (hh : cOp P ops C n ks i K a Φ) : cOp P ops C n ks i K' a Φ := by
  unfold cOp at *
  by_cases hin : i = n
  · rw [if_pos hin] at *; exact h _ _ hst hex hh
  rw [if_neg hin] at *
  split
  · exact h _ _ hst hex (by simpa [*] using hh)
  · rename_i o ho
    simp only [ho] at hh
    by_cases hw : Region.wanted o (yielded ops a.tmps) = true
    · rw [if_pos hw] at hh ⊢
      by_cases hk : i ∈ ks
      · rw [if_pos hk] at hh ⊢
        exact fun w hc hp => callAt_mono (fun v w' ⟨h1, Φ', h2, h3, h4, h5⟩ => ⟨h1, Φ', h2, h3, h4, h _ _ h2 ⟨w', hCl _ _ hc h1, h4⟩ h5⟩) (hh w hc hp)
      · rw [if_neg hk] at hh ⊢
        obtain ⟨v, h1, h2⟩ := hh
        exact ⟨v, h1, h _ _ hst hex h2⟩
    · rw [if_neg hw] at hh ⊢
      exact h _ _ hst hex hh
/-- A value that does not hang on what another operation yields. -/
def Qyields (P : Program) (ops : Array Oper) (C : World → Prop) (o : Oper) (v : Value) (a : Act) : Prop :=
  (Region.wanted o (yielded ops a.tmps) = true ∧ ∀ w, C w → qAt P o a w v) ∨ (Region.wanted o (yielded ops a.tmps) = false ∧ v = undef)
theorem Qyields.of_same {o : Oper} {v : Value} {a a' : Act} (hy : Qyields P ops C o v a) (he : execOp a'.eval o = execOp a.eval o)
    (hw : Region.wanted o (yielded ops a'.tmps) = Region.wanted o (yielded ops a.tmps)) : Qyields P ops C o v a' := by
  unfold Qyields qAt at *
  rw [he, hw]
  exact hy
theorem Qyields.uniq {o : Oper} {v v' : Value} {a : Act} (hex : ∃ w, C w) (h : Qyields P ops C o v a) (k : Qyields P ops C o v' a) : v = v' := by
  obtain ⟨w, hw⟩ := hex
  rcases h with ⟨h1, h2⟩ | ⟨h1, h2⟩ <;> rcases k with ⟨k1, k2⟩ | ⟨k1, k2⟩
  · exact qAt_uniq (h2 w hw) (k2 w hw)
  · rw [h1] at k1; cases k1
  · rw [h1] at k1; cases k1
  · rw [h2, k2]
theorem Qyields.cOp {n i : Nat} {ks : List Nat} {o : Oper} {v : Value} {a : Act} {Φ : Fact} (hin : i ≠ n) (hk : i ∉ ks) (hi : ops[i]? = some o) (hy : Qyields P ops C o v a) {K : Act → Fact → Prop} (h : K (a.put o.dst v) Φ) : cOp P ops C n ks i K a Φ := by
  unfold Go.Proofs.Ytomloklckpcaiaa.cOp
  rw [if_neg hin]
  simp only [hi]
  rcases hy with ⟨hw, hv⟩ | ⟨hw, rfl⟩
  · rw [if_pos hw, if_neg hk]; exact ⟨v, hv, h⟩
  · rw [if_neg (by rw [hw]; simp)]; exact h
theorem qyields_of_cOp {n i : Nat} {ks : List Nat} {o : Oper} {a : Act} {Φ : Fact} {K : Act → Fact → Prop} (hin : i ≠ n) (hk : i ∉ ks) (hi : ops[i]? = some o) (h : cOp P ops C n ks i K a Φ) : ∃ v, Qyields P ops C o v a ∧ K (a.put o.dst v) Φ := by
  unfold cOp at h
  rw [if_neg hin] at h
  simp only [hi] at h
  by_cases hw : Region.wanted o (yielded ops a.tmps) = true
  · rw [if_pos hw, if_neg hk] at h
    obtain ⟨v, h1, h2⟩ := h
    exact ⟨v, .inl ⟨hw, h1⟩, h2⟩
  · rw [if_neg hw] at h
    exact ⟨undef, .inr ⟨by simpa using hw, rfl⟩, h⟩
/-- A quiet value is put first: what comes behind it does not mind. -/
theorem cOp_put {n j : Nat} {ks : List Nat} {oi oj : Oper} {v : Value} (hj : ops[j]? = some oj) (hap : oi.apart ops oj = true)
    (hsi : ∀ cs b, oi.op ≠ .select cs b) (hsj : ∀ cs b, oj.op ≠ .select cs b) {K : Act → Fact → Prop} {a : Act} {Φ : Fact}
    (hy : Qyields P ops C oi v a) (h : cOp P ops C n ks j K (a.put oi.dst v) Φ) :
    cOp P ops C n ks j (fun a' Φ' => Qyields P ops C oi v a' ∧ K (a'.put oi.dst v) Φ') a Φ := by
  obtain ⟨h1, h2, h3⟩ := Oper.apart_spec hap
  have keep : ∀ (a : Act), Qyields P ops C oi v a → ∀ u, Qyields P ops C oi v (a.put oj.dst u) := fun a hy u =>
    hy.of_same (execOp_put oi hsi a oj.dst u h3) (wanted_put oi a oj.dst u h3)
  unfold cOp at *
  by_cases hjn : j = n
  · rw [if_pos hjn] at *; exact ⟨hy, h⟩
  rw [if_neg hjn] at *
  simp only [hj] at *
  rw [wanted_put oj a oi.dst v h1] at h
  by_cases hw : Region.wanted oj (yielded ops a.tmps) = true
  · rw [if_pos hw] at h ⊢
    by_cases hk : j ∈ ks
    · rw [if_pos hk] at h ⊢
      intro w hc hp
      have := h w hc hp
      unfold callAt at *
      rw [execOp_put oj hsj a oi.dst v h1] at this
      refine callAt_mono (P := P) (o := oj) (a := a) (fun u w' ⟨k1, Φ', k2, k3, k4, k5⟩ => ⟨k1, Φ', k2, k3, k4, keep a hy u, by rw [← Act.put_comm a v u h2]; exact k5⟩) this
    · rw [if_neg hk] at h ⊢
      obtain ⟨u, hu, hn⟩ := h
      refine ⟨u, fun w hw' => ?_, keep a hy u, by rw [← Act.put_comm a v u h2]; exact hn⟩
      have := hu w hw'
      unfold qAt at *
      rwa [execOp_put oj hsj a oi.dst v h1] at this
  · rw [if_neg hw] at h ⊢
    exact ⟨keep a hy _, by rw [← Act.put_comm a v undef h2]; exact h⟩

def cHead (P : Program) (md : Region.Mode) (ops : Array Oper) (C : World → Prop) (n m : Nat) (ks : List Nat) (L : Array Bool → Act → Fact → Prop) : Nat → Array Bool → Act → Fact → Prop
  | 0, listed, a, Φ => L listed a Φ
  | f + 1, listed, a, Φ =>
    Region.ready md ops listed ≠ [] ∧ ∀ i ∈ Region.ready md ops listed, i < m ∧ cOp P ops C n ks i (cHead P md ops C n m ks L f (listed.setIfInBounds i true)) a Φ

/-- The calls wait one for the other. -/
def chained (md : Region.Mode) (ops : Array Oper) : List Nat → Bool
  | i :: j :: l => (match ops[j]? with | some o => o.after.any fun e => Region.binds md e && e.on == i | none => false) && chained md ops (j :: l)
  | _ => true
theorem chain_listed {m : Nat} {listed : Array Bool} (inv : HeadInv md ops m listed) : ∀ (l : List Nat), chained md ops l = true → ∀ (A B : List Nat) (i j : Nat), l = A ++ i :: B → j ∈ B →
    (listed.getD j false = true ∨ j ∈ Region.ready md ops listed) → listed.getD i false = true
  | [], _, A, B, i, j, e, hj, _ => by simp at e
  | [x], _, A, B, i, j, e, hj, _ => by
    rcases A with _ | ⟨a, A⟩
    · simp at e; obtain ⟨_, rfl⟩ := e; cases hj
    · simp at e
  | x :: y :: l, hc, A, B, i, j, e, hj, hor => by
    simp only [chained, Bool.and_eq_true] at hc
    obtain ⟨h1, h2⟩ := hc
    rcases A with _ | ⟨a, A⟩
    · simp at e
      obtain ⟨rfl, rfl⟩ := e
      have hy : listed.getD y false = true ∨ y ∈ Region.ready md ops listed := by
        rcases List.mem_cons.1 hj with rfl | hj
        · exact hor
        · exact .inl (chain_listed inv (y :: l) h2 [] l y j rfl hj hor)
      cases ho : ops[y]? with
      | none => simp [ho] at h1
      | some o =>
        simp only [ho] at h1
        obtain ⟨ed, he, hb⟩ := Array.any_eq_true'.1 h1
        simp only [Bool.and_eq_true, beq_iff_eq] at hb
        rw [← hb.2]
        rcases hy with hy | hy
        · exact inv.closed y o ho hy ed he hb.1
        · obtain ⟨_, o', ho', hall⟩ := mem_ready.1 hy
          rw [ho] at ho'
          cases ho'
          exact hall ed he hb.1
    · simp at e
      obtain ⟨_, e⟩ := e
      exact chain_listed inv (y :: l) h2 A B i j e hj hor

/-- An operation that stands first in the text may be taken first. -/
theorem cHead_first {n m i : Nat} {ks : List Nat} {oi : Oper} {L : Array Bool → Act → Fact → Prop} (hCl : ∀ w w', C w → Below w.heap.size w w' → C w') (hi : ops[i]? = some oi) (hsel : ∀ (j : Nat) (o : Oper) cs b, ops[j]? = some o → o.op ≠ .select cs b)
    (hs : Region.sinkB md ops m = true) (hc : Region.chainB md ops m = true) (hn : m < ops.size) (hin : i < m) (hwk : ∀ j o, j ∈ ks → ops[j]? = some o → o.guard = none)
    (hdone : ∀ listed a Φ, L listed a Φ → ∀ j ∈ Region.ready md ops listed, m ≤ j) :
    ∀ (f : Nat) (listed : Array Bool) (a : Act) (Φ : Fact), HeadInv md ops m listed → stable Φ → (∃ w, C w ∧ Φ w) →
      (∀ j oj, ops[j]? = some oj → j ≠ i → listed.getD j true = false → (∀ e ∈ oj.after, Region.binds md e = true → e.on ≠ i) → oi.apart ops oj = true) →
      i ∈ Region.ready md ops listed → (i ∈ ks → ∀ j ∈ ks, j ≠ i → j ∉ Region.ready md ops listed) →
      (∀ (L2 : Array Bool), (∀ q, listed.getD q false = true → L2.getD q false = true) → L2.getD i true = false → HeadInv md ops m L2 → i ∈ ks → ∀ j ∈ ks, j ≠ i → j ∉ Region.ready md ops L2) →
      cOp P ops C n ks i (cHead P md ops C n m ks L f (listed.setIfInBounds i true)) a Φ → cHead P md ops C n m ks L (f + 1) listed a Φ := by
  intro f
  induction f with
  | zero =>
    intro listed a Φ inv hst hex hfree hr hkr hch H
    have hun := (mem_ready.1 hr).1
    refine ⟨fun h => (by rw [h] at hr; cases hr), fun j hj => ?_⟩
    have hjn : j < m := by
      rcases Nat.lt_or_ge j m with h | h
      · exact h
      · exact absurd hj (tail_waits hs hc hn inv _ i rfl hin hun j h)
    refine ⟨hjn, ?_⟩
    by_cases hji : j = i
    · subst hji; exact H
    · exfalso
      have bad : ∀ a' Φ', cHead P md ops C n m ks L 0 (listed.setIfInBounds i true) a' Φ' → False := fun a' Φ' h => by
        have := hdone _ _ _ h j (ready_mono hj hji)
        omega
      unfold cOp at H
      by_cases hin' : i = n
      · rw [if_pos hin'] at H; exact bad _ _ H
      rw [if_neg hin'] at H
      simp only [hi] at H
      split at H
      · split at H
        · obtain ⟨w, hw1, hw2⟩ := hex
          obtain ⟨v, w', _, Φ', _, _, _, h⟩ := callAt_ex (H w hw1 hw2)
          exact bad _ _ h
        · obtain ⟨v, _, h⟩ := H
          exact bad _ _ h
      · exact bad _ _ H
  | succ f ih =>
    intro listed a Φ inv hst hex hfree hr hkr hch H
    have hun := (mem_ready.1 hr).1
    refine ⟨fun h => (by rw [h] at hr; cases hr), fun j hj => ?_⟩
    have hjn : j < m := by
      rcases Nat.lt_or_ge j m with h | h
      · exact h
      · exact absurd hj (tail_waits hs hc hn inv _ i rfl hin hun j h)
    refine ⟨hjn, ?_⟩
    by_cases hji : j = i
    · subst hji; exact H
    · obtain ⟨hjun, oj, hoj, hall⟩ := mem_ready.1 hj
      have hnot : ∀ e ∈ oj.after, Region.binds md e = true → e.on ≠ i := fun e he hb heq => by
        have h1 := hall e he hb
        rw [heq, getD_both hun] at h1
        cases h1
      have hap := hfree j oj hoj hji hjun hnot
      have inv' := inv.set hj hjn
      have hr' := ready_mono hr (Ne.symm hji)
      have hfree' : ∀ k ok, ops[k]? = some ok → k ≠ i → (listed.setIfInBounds j true).getD k true = false →
          (∀ e ∈ ok.after, Region.binds md e = true → e.on ≠ i) → oi.apart ops ok = true := fun k ok hk hki hun' hno => by
        refine hfree k ok hk hki ?_ hno
        by_cases hjk : j = k
        · subst hjk; exact hjun
        · rw [getD_set_ne true hjk] at hun'; exact hun'
      have hun2 : (listed.setIfInBounds j true).getD i true = false := by rw [getD_set_ne true hji]; exact hun
      have hch' : ∀ (L2 : Array Bool), (∀ q, (listed.setIfInBounds j true).getD q false = true → L2.getD q false = true) → L2.getD i true = false → HeadInv md ops m L2 → i ∈ ks → ∀ j ∈ ks, j ≠ i → j ∉ Region.ready md ops L2 :=
        fun L2 hsub => hch L2 (fun q hq => hsub q (getD_set_true hq))
      have hkr' : i ∈ ks → ∀ j' ∈ ks, j' ≠ i → j' ∉ Region.ready md ops (listed.setIfInBounds j true) := hch' _ (fun q hq => hq) hun2 inv'
      have use := fun (a' : Act) (Φ' : Fact) (h1 : stable Φ') (h2 : ∃ w, C w ∧ Φ' w) (h3 : cOp P ops C n ks i (cHead P md ops C n m ks L f ((listed.setIfInBounds j true).setIfInBounds i true)) a' Φ') =>
        ih (listed.setIfInBounds j true) a' Φ' inv' h1 h2 hfree' hr' hkr' hch' h3
      rw [Array.setIfInBounds_comm _ _ hji] at use
      have hcomp : ∀ a' Φ', cHead P md ops C n m ks L (f + 1) (listed.setIfInBounds i true) a' Φ' → cOp P ops C n ks j (cHead P md ops C n m ks L f ((listed.setIfInBounds i true).setIfInBounds j true)) a' Φ' := fun a' Φ' h => (h.2 j (ready_mono hj hji)).2
      obtain ⟨p1, p2, p3⟩ := Oper.apart_spec hap
      by_cases hin' : i = n
      · -- the block that floats
        unfold cOp at H
        rw [if_pos hin'] at H
        refine cOp_mono hCl hst hex (fun a' Φ' h1 h2 h3 => use a' Φ' h1 h2 ?_) (hcomp _ _ H)
        unfold cOp
        rw [if_pos hin']
        exact h3
      · by_cases hik : i ∈ ks
        · -- a call
          have hjk : j ∉ ks := fun h => hkr hik j h hji hj
          have hwi : Region.wanted oi (yielded ops a.tmps) = true := by simp [Region.wanted, hwk i oi hik hi]
          unfold cOp at H
          rw [if_neg hin'] at H
          simp only [hi] at H
          rw [if_pos hwi, if_pos hik] at H
          by_cases hjn' : j = n
          · unfold cOp
            rw [if_pos hjn']
            refine use a Φ hst hex ?_
            unfold cOp
            rw [if_neg hin']
            simp only [hi]
            rw [if_pos hwi, if_pos hik]
            intro w hw1 hw2
            refine callAt_mono (fun v w' ⟨k1, Φ', k2, k3, k4, k5⟩ => ⟨k1, Φ', k2, k3, k4, ?_⟩) (H w hw1 hw2)
            have := hcomp _ _ k5
            unfold cOp at this
            rw [if_pos hjn'] at this
            exact this
          · obtain ⟨w0, hw1, hw2⟩ := hex
            obtain ⟨v0, w0', k1, Φ0, k2, k3, k4, k5⟩ := callAt_ex (H w0 hw1 hw2)
            obtain ⟨vj, hyj, _⟩ := qyields_of_cOp hjn' hjk hoj (hcomp _ _ k5)
            have hyj' : Qyields P ops C oj vj a := hyj.of_same (execOp_put oj (fun cs b => hsel j oj cs b hoj) a oi.dst v0 p1).symm (wanted_put oj a oi.dst v0 p1).symm
            refine hyj'.cOp hjn' hjk hoj (use _ Φ hst ⟨w0, hw1, hw2⟩ ?_)
            unfold cOp
            rw [if_neg hin']
            simp only [hi]
            rw [if_pos (by rw [wanted_put oi a oj.dst vj p3]; exact hwi), if_pos hik]
            intro w hc1 hc2
            have := H w hc1 hc2
            unfold callAt
            rw [execOp_put oi (fun cs b => hsel i oi cs b hi) a oj.dst vj p3]
            refine callAt_mono (P := P) (o := oi) (a := a) (fun v w' ⟨q1, Φ', q2, q3, q4, q5⟩ => ⟨q1, Φ', q2, q3, q4, ?_⟩) this
            obtain ⟨vj', hz, hk⟩ := qyields_of_cOp hjn' hjk hoj (hcomp _ _ q5)
            have hz' : Qyields P ops C oj vj' a := hz.of_same (execOp_put oj (fun cs b => hsel j oj cs b hoj) a oi.dst v p1).symm (wanted_put oj a oi.dst v p1).symm
            obtain rfl := hz'.uniq ⟨w, hc1⟩ hyj'
            rw [← Act.put_comm a v vj' p2]
            exact hk
        · obtain ⟨v, hy, hK⟩ := qyields_of_cOp hin' hik hi H
          have h2 := cOp_put hoj hap (fun cs b => hsel i oi cs b hi) (fun cs b => hsel j oj cs b hoj) hy (hcomp _ _ hK)
          exact cOp_mono hCl hst hex (fun a' Φ' q1 q2 q3 => use a' Φ' q1 q2 (q3.1.cOp hin' hik hi q3.2)) h2
/-- One walk, in the text's order. -/
def wpC (P : Program) (ops : Array Oper) (C : World → Prop) (n : Nat) (ks : List Nat) (Lq : Act → Fact → Prop) : Nat → List Oper → Act → Fact → Prop
  | _, [], a, Φ => Lq a Φ
  | k, o :: rest, a, Φ =>
    if k = n then wpC P ops C n ks Lq (k + 1) rest a Φ else
    if Region.wanted o (yielded ops a.tmps) then
      if k ∈ ks then ∀ w, C w → Φ w → callAt P o a w (Leaves Φ w o.dst a (wpC P ops C n ks Lq (k + 1) rest))
      else ∃ v, (∀ w, C w → qAt P o a w v) ∧ wpC P ops C n ks Lq (k + 1) rest (a.put o.dst v) Φ
    else wpC P ops C n ks Lq (k + 1) rest (a.put o.dst undef) Φ
theorem cHead_lex {n m g : Nat} {ks : List Nat} {Lq : Act → Fact → Prop} (hCl : ∀ w w', C w → Below w.heap.size w w' → C w') (hsel : Region.noSelect ops = true) (hs : Region.sinkB md ops m = true) (hc : Region.chainB md ops m = true) (hn : m < ops.size)
    (hch : chained md ops ks = true) (hnd : ks.Nodup) (hsort : ∀ A B i j, ks = A ++ i :: B → j ∈ A → j < i) (hwk : ∀ j o, j ∈ ks → ops[j]? = some o → o.guard = none) :
    ∀ (l : List Oper) (k : Nat) (listed : Array Bool) (a : Act) (Φ : Fact), (∀ j, j < l.length → l[j]? = ops[k + j]?) → k + l.length = m → HeadInv md ops m listed → stable Φ → (∃ w, C w ∧ Φ w) → (∀ j, j < k → listed.getD j false = true) →
    Region.lexHead md ops g l.length k listed = true → wpC P ops C n ks Lq k l a Φ →
    cHead P md ops C n m ks (fun listed' a' Φ' => Region.seqB md ops g m listed' = true ∧ Lq a' Φ') l.length listed a Φ
  | [], k, listed, a, Φ, _, hk, _, _, _, _, hB, h => by
    have : k = m := by simpa using hk
    subst this
    exact ⟨by simpa [Region.lexHead] using hB, h⟩
  | o :: l, k, listed, a, Φ, hl, hk, inv, hst, hex, hpre, hB, h => by
    have h0 : ops[k]? = some o := by simpa using (hl 0 (by simp)).symm
    rw [List.length_cons, Region.lexHead] at hB
    simp only [Bool.and_eq_true] at hB
    obtain ⟨⟨hr, hf⟩, hB'⟩ := hB
    have hkm : k < m := by simp only [List.length_cons] at hk; omega
    have hr' : k ∈ Region.ready md ops listed := by simpa using hr
    have hun := (mem_ready.1 hr').1
    have late : ∀ (L2 : Array Bool), (∀ q, listed.getD q false = true → L2.getD q false = true) → L2.getD k true = false → HeadInv md ops m L2 → k ∈ ks → ∀ j ∈ ks, j ≠ k → j ∉ Region.ready md ops L2 := by
      intro L2 hsub hk2 inv2 hkk j hj hjk hjr
      obtain ⟨A, B, e⟩ := List.append_of_mem hkk
      rw [e] at hj
      rcases List.mem_append.1 hj with hjA | hjB
      · have hlt := hsort A B k j e hjA
        have h1 := hsub j (hpre j hlt)
        have h2 := (mem_ready.1 hjr).1
        rw [getD_both h2] at h1
        cases h1
      · rcases List.mem_cons.1 hjB with rfl | hjB
        · exact hjk rfl
        · have := chain_listed inv2 ks hch A B k j e hjB (.inr hjr)
          rw [getD_both hk2] at this
          cases this
    have step : ∀ a' Φ', stable Φ' → (∃ w, C w ∧ Φ' w) → wpC P ops C n ks Lq (k + 1) l a' Φ' → cHead P md ops C n m ks (fun listed' a' Φ' => Region.seqB md ops g m listed' = true ∧ Lq a' Φ') l.length (listed.setIfInBounds k true) a' Φ' := fun a' Φ' h1 h2 h3 =>
      cHead_lex hCl hsel hs hc hn hch hnd hsort hwk l (k + 1) _ a' Φ' (fun j hj => by have := hl (j + 1) (by simp; omega); simpa [Nat.add_assoc, Nat.add_comm 1 j] using this) (by simp only [List.length_cons] at hk; omega) (inv.set hr' hkm) h1 h2 (fun j hj => by
        by_cases hjk : k = j
        · subst hjk
          have : k < listed.size := by rw [inv.size]; omega
          simp [this]
        · rw [getD_set_ne false hjk]; exact hpre j (by omega)) hB' h3
    refine cHead_first hCl h0 (Region.noSelect_spec hsel) hs hc hn hkm hwk (fun listed' a' Φ' hL => seqB_ready hL.1) l.length listed a Φ inv hst hex (Region.free_spec h0 hf) hr' (late listed (fun q hq => hq) hun inv) late ?_
    unfold wpC at h
    unfold cOp
    by_cases hkn : k = n
    · rw [if_pos hkn] at h ⊢
      exact step a Φ hst hex h
    rw [if_neg hkn] at h ⊢
    simp only [h0]
    by_cases hw : Region.wanted o (yielded ops a.tmps) = true
    · rw [if_pos hw] at h ⊢
      by_cases hkk : k ∈ ks
      · rw [if_pos hkk] at h ⊢
        exact fun w h1 h2 => callAt_mono (fun v w' ⟨q1, Φ', q2, q3, q4, q5⟩ => ⟨q1, Φ', q2, q3, q4, step _ _ q2 ⟨w', hCl _ _ h1 q1, q4⟩ q5⟩) (h w h1 h2)
      · rw [if_neg hkk] at h ⊢
        obtain ⟨v, h1, h2⟩ := h
        exact ⟨v, h1, step _ _ hst hex h2⟩
    · rw [if_neg hw] at h ⊢
      exact step _ _ hst hex h

theorem wp_of_q {o : Oper} {a : Act} {v : Value} {K' : Act → World → Prop} {Q' : Exit → Act → World → Prop} {w : World} (h1 : qAt P o a w v) (h : K' (a.put o.dst v) w) : o.wp P a w K' Q' := by
  unfold qAt at h1
  unfold Oper.wp
  generalize (execOp a.eval o).run P w = r at *
  cases r with
  | ok n w' =>
    cases n <;> simp only [qUpon] at h1 <;> simp only [Oper.upon]
    · rw [h1.1, h1.2]; exact h
    · rw [h1.1, ← h1.2]; exact h
  | halt x w' => simp only [qUpon] at h1
theorem wp_of_call {o : Oper} {a : Act} {R : Value → World → Prop} {K' : Act → World → Prop} {Q' : Exit → Act → World → Prop} {w : World} (h1 : callAt P o a w R) (h : ∀ v w', R v w' → K' (a.put o.dst v) w') : o.wp P a w K' Q' := by
  unfold callAt at h1
  unfold Oper.wp
  generalize (execOp a.eval o).run P w = r at *
  cases r with
  | ok n w' =>
    cases n <;> simp only [cUpon] at h1 <;> simp only [Oper.upon]
    · exact h _ _ h1
    · obtain ⟨e1, hc⟩ := h1
      rw [e1]
      exact hc.mono fun e w'' ⟨v, he, hr⟩ => by subst he; exact h _ _ hr
  | halt x w' => simp only [cUpon] at h1

/-- What is known of the block that floats. -/
structure Floats (P : Program) (ops : Array Oper) (n m : Nat) (oa : Oper) (d : Tmp) (t : TypeId) (zs : Array Value) : Prop where
  op : ops[n]? = some oa
  dst : oa.dst = some d
  guard : oa.guard = none
  run : ∀ (a : Act) (w : World), (execOp a.eval oa).run P w = .ok (.value (.pointer (some ⟨w.heap.size, 0, none⟩))) (w.alloc (.cells zs t))
  apart : ∀ j oj, ops[j]? = some oj → j < m → j ≠ n → oa.apart ops oj = true
theorem wpAny_of_cHead {n m g B : Nat} {ks : List Nat} {oa : Oper} {d : Tmp} {t : TypeId} {zs : Array Value} {L : Array Bool → Act → Fact → Prop} {Q' : Exit → Act → World → Prop} (hm : m < ops.size) (hsel : ∀ (j : Nat) (o : Oper) cs b, ops[j]? = some o → o.op ≠ .select cs b)
    (hfl : n < m → Floats P ops n m oa d t zs) (hCl : ∀ w w', C w → Below w.heap.size w w' → C w') (hCB : ∀ w, C w → B ≤ w.heap.size)
    (hL : ∀ listed a ac w Φ, HeadInv md ops m listed → C w → Φ w → L listed a Φ → tRel n d t zs B listed a ac w → wpAny P md ops Q' g listed ac w) :
    ∀ (f : Nat) (listed : Array Bool) (a ac : Act) (w : World) (Φ : Fact), HeadInv md ops m listed → C w → stable Φ → Φ w → tRel n d t zs B listed a ac w → cHead P md ops C n m ks L f listed a Φ → wpAny P md ops Q' (f + g) listed ac w := by
  intro f
  induction f with
  | zero => intro listed a ac w Φ inv hw hst hp hr h; rw [Nat.zero_add]; exact hL _ _ _ _ _ inv hw hp h hr
  | succ f ih =>
    intro listed a ac w Φ inv hw hst hp hr h
    rw [show f + 1 + g = (f + g) + 1 by omega]
    refine ⟨fun h0 => absurd h0 h.1, fun i hi => ?_⟩
    obtain ⟨him, h1⟩ := h.2 i hi
    have hun := (mem_ready.1 hi).1
    by_cases hin : i = n
    · subst hin
      have F := hfl him
      unfold cOp at h1
      rw [if_pos rfl] at h1
      have hac : ac = a := by
        rcases hr with ⟨_, e⟩ | ⟨e, _⟩
        · exact e
        · rw [getD_both hun] at e; cases e
      subst hac
      unfold wpOp
      simp only [F.op]
      rw [if_pos (by simp [Region.wanted, F.guard])]
      refine .inl ?_
      unfold Oper.wp
      rw [F.run]
      show wpAny P md ops Q' (f + g) (listed.setIfInBounds i true) (ac.put oa.dst (.pointer (some ⟨w.heap.size, 0, none⟩))) (w.alloc (.cells zs t))
      rw [F.dst]
      have hba : Below w.heap.size w (w.alloc (.cells zs t)) := (Below.refl _ _).alloc (Nat.le_refl _) _
      exact ih _ ac _ _ Φ (inv.set hi him) (hCl _ _ hw hba) hst (hst _ _ hp hba) (.inr ⟨by simp [inv.size]; omega, w.heap.size, hCB _ hw, BK.new w t zs, rfl⟩) h1
    · have hgd : (listed.setIfInBounds i true).getD n false = listed.getD n false := getD_set_ne false hin
      have key : ∀ a' w' Φ', C w' → stable Φ' → Φ' w' → Below w.heap.size w w' → ∀ ac', ((listed.getD n false = false ∧ ac' = a') ∨ (listed.getD n false = true ∧ ∃ b, B ≤ b ∧ BK w b t zs ∧ ac' = a'.put (some d) (.pointer (some ⟨b, 0, none⟩)))) → cHead P md ops C n m ks L f (listed.setIfInBounds i true) a' Φ' → wpAny P md ops Q' (f + g) (listed.setIfInBounds i true) ac' w' := by
        intro a' w' Φ' hw' hst' hp' hb ac' hr' h2
        refine ih _ a' ac' w' Φ' (inv.set hi him) hw' hst' hp' ?_ h2
        unfold tRel
        rw [hgd]
        rcases hr' with ⟨e, e'⟩ | ⟨e, b, hb1, hb2, e'⟩
        · exact .inl ⟨e, e'⟩
        · exact .inr ⟨e, b, hb1, hb2.below hb hb2.lt, e'⟩
      unfold cOp at h1
      rw [if_neg hin] at h1
      unfold wpOp
      cases ho : ops[i]? with
      | none =>
        simp only [ho] at h1 ⊢
        exact key a w Φ hw hst hp (Below.refl _ _) ac hr h1
      | some o =>
        simp only [ho] at h1 ⊢
        -- the pointer may lie in the frame already
        have hx : ∃ p : Value → Act → Act, (ac = p undef a) ∧ (∀ v, p undef (a.put o.dst v) = ac.put o.dst v) ∧ execOp ac.eval o = execOp a.eval o ∧ Region.wanted o (yielded ops ac.tmps) = Region.wanted o (yielded ops a.tmps) ∧
            ∀ a', ((listed.getD n false = false ∧ p undef a' = a') ∨ (listed.getD n false = true ∧ ∃ b, B ≤ b ∧ BK w b t zs ∧ p undef a' = a'.put (some d) (.pointer (some ⟨b, 0, none⟩)))) := by
          rcases hr with ⟨e, rfl⟩ | ⟨e, b, hb1, hb2, rfl⟩
          · exact ⟨fun _ a' => a', rfl, fun _ => rfl, rfl, rfl, fun a' => .inl ⟨e, rfl⟩⟩
          · have hnm : n < m := by
              rcases Nat.lt_or_ge n m with h | h
              · exact h
              · rcases Nat.lt_or_ge n ops.size with h' | h'
                · have := inv.tail n h h'
                  rw [getD_both this] at e
                  cases e
                · rw [Array.getD_eq_getD_getElem?, Array.getElem?_eq_none (by rw [inv.size]; exact h')] at e
                  cases e
            have F := hfl hnm
            obtain ⟨p1, p2, p3⟩ := Oper.apart_spec (F.apart i o ho him hin)
            rw [F.dst] at p1 p2
            exact ⟨fun _ a' => a'.put (some d) (.pointer (some ⟨b, 0, none⟩)), rfl, fun v => (Act.put_comm a _ v p2).symm, execOp_put o (fun cs q => hsel i o cs q ho) a (some d) _ p1, wanted_put o a (some d) _ p1, fun a' => .inr ⟨e, b, hb1, hb2, rfl⟩⟩
        obtain ⟨p, hpa, hpp, hpe, hpw, hpr⟩ := hx
        rw [hpw]
        by_cases hw' : Region.wanted o (yielded ops a.tmps) = true
        · rw [if_pos hw'] at h1 ⊢
          refine .inl ?_
          by_cases hik : i ∈ ks
          · rw [if_pos hik] at h1
            have h2 := h1 w hw hp
            unfold callAt at h2
            rw [← hpe] at h2
            refine wp_of_call (P := P) (o := o) (a := ac) h2 (fun v w' ⟨q1, Φ', q2, q3, q4, q5⟩ => ?_)
            rw [← hpp v]
            exact key _ w' Φ' (hCl _ _ hw q1) q2 q4 q1 _ (hpr _) q5
          · rw [if_neg hik] at h1
            obtain ⟨v, h2, h3⟩ := h1
            have h4 := h2 w hw
            unfold qAt at h4
            rw [← hpe] at h4
            refine wp_of_q (P := P) (o := o) (a := ac) h4 ?_
            rw [← hpp v]
            exact key _ w Φ hw hst hp (Below.refl _ _) _ (hpr _) h3
        · rw [if_neg hw'] at h1 ⊢
          rw [← hpp undef]
          exact key _ w Φ hw hst hp (Below.refl _ _) _ (hpr _) h1
def incr : List Nat → Bool
  | i :: j :: l => decide (i < j) && incr (j :: l)
  | _ => true
theorem incr_lt : ∀ (l : List Nat) (i : Nat), incr (i :: l) = true → ∀ j ∈ l, i < j
  | [], _, _, j, hj => by cases hj
  | x :: l, i, h, j, hj => by
    simp only [incr, Bool.and_eq_true, decide_eq_true_eq] at h
    rcases List.mem_cons.1 hj with rfl | hj
    · exact h.1
    · have := incr_lt l x h.2 j hj; omega
theorem incr_tail (i : Nat) (l : List Nat) (h : incr (i :: l) = true) : incr l = true := by
  cases l with
  | nil => rfl
  | cons j l => simp only [incr, Bool.and_eq_true] at h; exact h.2
theorem incr_sort : ∀ (ks : List Nat), incr ks = true → ∀ A B i j, ks = A ++ i :: B → j ∈ A → j < i
  | [], _, A, B, i, j, e, hj => by simp at e
  | x :: ks, h, A, B, i, j, e, hj => by
    rcases A with _ | ⟨y, A⟩
    · cases hj
    · simp at e
      obtain ⟨rfl, e⟩ := e
      rcases List.mem_cons.1 hj with rfl | hj
      · exact incr_lt ks j h i (by rw [e]; simp)
      · exact incr_sort ks (incr_tail x ks h) A B i j e hj
theorem incr_nodup : ∀ (ks : List Nat), incr ks = true → ks.Nodup
  | [], _ => List.nodup_nil
  | x :: ks, h => List.nodup_cons.2 ⟨fun hm => by have := incr_lt ks x h x hm; omega, incr_nodup ks (incr_tail x ks h)⟩
def bare (ops : Array Oper) (ks : List Nat) : Bool := ks.all fun j => match ops[j]? with | some o => o.guard.isNone | none => true
def okB (md : Region.Mode) (ops : Array Oper) (m : Nat) (ks : List Nat) : Bool := Region.lexTailB md ops m && (chained md ops ks && (incr ks && bare ops ks))
theorem wpC_end {n : Nat} {ks : List Nat} {L L' : Act → Fact → Prop} (h : ∀ a Φ, L a Φ → L' a Φ) : ∀ (l : List Oper) (k : Nat) (a : Act) (Φ : Fact), wpC P ops C n ks L k l a Φ → wpC P ops C n ks L' k l a Φ
  | [], _, a, Φ, hh => h a Φ hh
  | o :: l, k, a, Φ, hh => by
    unfold wpC at hh ⊢
    split
    · rename_i h1; rw [if_pos h1] at hh; exact wpC_end h l _ a Φ hh
    · rename_i h1
      rw [if_neg h1] at hh
      split
      · rename_i h2
        rw [if_pos h2] at hh
        split
        · rename_i h3
          rw [if_pos h3] at hh
          exact fun w q1 q2 => callAt_mono (fun v w' ⟨p1, Φ', p2, p3, p4, p5⟩ => ⟨p1, Φ', p2, p3, p4, wpC_end h l _ _ _ p5⟩) (hh w q1 q2)
        · rename_i h3
          rw [if_neg h3] at hh
          obtain ⟨v, p1, p2⟩ := hh
          exact ⟨v, p1, wpC_end h l _ _ _ p2⟩
      · rename_i h2
        rw [if_neg h2] at hh
        exact wpC_end h l _ _ _ hh
theorem wp_region_ch0 {id : Nat} {Q : Exit → Act → World → Prop} {a : Act} {w : World} {l : List Oper} (m n : Nat) (ks : List Nat) {oa : Oper} {d : Tmp} {t : TypeId} {zs : Array Value} (hm : P.follows .mixedOrders = true)
    (hB : okB .any l.toArray m ks = true) (hfl : n < m → Floats P l.toArray n m oa d t zs)
    (h : wpC P l.toArray (fun w' => ∃ p : Regrown, w' = grow (redrawn w p.d) p.os) n ks (fun a' Φ => ∀ w', Below w.heap.size w w' → Φ w' → ∀ ac, (m ≤ n → ac = a') → (n < m → ∃ b, w.heap.size ≤ b ∧ BK w' b t zs ∧ ac = a'.put (some d) (.pointer (some ⟨b, 0, none⟩))) → wpList P l.toArray Q (l.drop m) ac w') 0 (l.take m) a (fun _ => True)) :
    (Code.region id l.toArray true).wp P Q a w := by
  simp only [okB, Region.lexTailB, Bool.and_eq_true, decide_eq_true_eq] at hB
  obtain ⟨⟨⟨⟨⟨hsel, hn⟩, hs⟩, hc⟩, hlex⟩, hch, hin, hbare⟩ := hB
  have hn' : m < l.length := by simpa using hn
  have htl : (l.take m).length = m := by simp; omega
  have hdl : (l.drop m).length = l.toArray.size - m := by simp
  have hwk : ∀ j o, j ∈ ks → l.toArray[j]? = some o → o.guard = none := fun j o hj ho => by
    have := (List.all_eq_true.1 hbare) j hj
    simp only [ho] at this
    cases hg : o.guard with
    | none => rfl
    | some x => rw [hg] at this; cases this
  have hCl : ∀ w1 w2 : World, (∃ p : Regrown, w1 = grow (redrawn w p.d) p.os) → Below w1.heap.size w1 w2 → ∃ p : Regrown, w2 = grow (redrawn w p.d) p.os :=
    fun w1 w2 ⟨p, hp⟩ hb => by subst hp; exact regrown_of_below ((below_regrown w p.d p.os).trans (hb.mono (below_regrown w p.d p.os).size))
  have inv0 : HeadInv .any l.toArray m (Array.replicate l.toArray.size false) :=
    ⟨by simp, fun j oj _ hl => (by rw [getD_replicate_false] at hl; cases hl), fun t _ ht => getD_in (by simpa using ht) (getD_replicate_false _ _)⟩
  have H := cHead_lex (md := .any) (g := l.toArray.size - m) hCl hsel hs hc hn hch (incr_nodup ks hin) (incr_sort ks hin) hwk (l.take m) 0 _ a (fun _ => True) (fun j hj => by
    have hj' : j < m := by rw [htl] at hj; exact hj
    simp [hj']) (by simpa using htl) inv0 (fun _ _ _ _ => trivial) ⟨w, ⟨⟨w.drawn, #[]⟩, by rw [grow_empty]; rfl⟩, trivial⟩ (fun j hj => by omega) (by rw [htl]; exact hlex) h
  refine wp_region_any hm ?_
  have := wpAny_of_cHead (Q' := Q) (g := l.toArray.size - m) (B := w.heap.size) hn (Region.noSelect_spec hsel) hfl hCl
    (fun w1 ⟨p, hp⟩ => by subst hp; exact (below_regrown w p.d p.os).size)
    (fun listed a' ac w' Φ inv hw' hp hL hr => by
      obtain ⟨hL1, hL2⟩ := hL
      obtain ⟨p, hp'⟩ := hw'
      have hac : (m ≤ n → ac = a') ∧ (n < m → ∃ b, w.heap.size ≤ b ∧ BK w' b t zs ∧ ac = a'.put (some d) (.pointer (some ⟨b, 0, none⟩))) := by
        rcases hr with ⟨e, e2⟩ | ⟨e, b, hb1, hb2, e2⟩
        · refine ⟨fun _ => e2, fun hnm => ?_⟩
          exfalso
          have hun : listed.getD n true = false := getD_in (by have := inv.size; omega) e
          have hB1 := hL1
          have hsz : l.toArray.size - m = (l.toArray.size - (m + 1)) + 1 := by omega
          rw [hsz] at hB1
          simp only [Region.seqB, Bool.and_eq_true, decide_eq_true_eq] at hB1
          exact tail_waits hs hc hn inv _ n rfl hnm hun m (Nat.le_refl _) (by rw [hB1.1]; simp)
        · refine ⟨fun hmn => ?_, fun _ => ⟨b, hb1, hb2, e2⟩⟩
          exfalso
          rcases Nat.lt_or_ge n l.toArray.size with h' | h'
          · have := inv.tail n hmn h'
            rw [getD_both this] at e
            cases e
          · rw [Array.getD_eq_getD_getElem?, Array.getElem?_eq_none (by rw [inv.size]; exact h')] at e
            cases e
      have := wpAny_of_seq (md := .any) (Q' := Q) (l.drop m) m listed ac w' (fun j => by simp [List.getElem?_drop]) (by rw [hdl]; exact hL1) (hL2 w' (by rw [hp']; exact below_regrown w p.d p.os) hp ac hac.1 hac.2)
      rwa [hdl] at this) _ _ _ _ _ (fun _ => True) inv0 ⟨⟨w.drawn + 1, #[]⟩, by rw [grow_empty]⟩ (fun _ _ _ _ => trivial) trivial (.inl ⟨getD_replicate_false _ _, rfl⟩) H
  rw [htl, show m + (l.toArray.size - m) = l.toArray.size by omega] at this
  exact this
/-- The law: m operations (those of ks calls), then a tail in order. -/
theorem wp_region_ch {id : Nat} {Q : Exit → Act → World → Prop} {a : Act} {w : World} {l : List Oper} (m : Nat) (ks : List Nat) (hm : P.follows .mixedOrders = true) (hB : okB .any l.toArray m ks = true)
    (h : wpC P l.toArray (fun w' => ∃ p : Regrown, w' = grow (redrawn w p.d) p.os) l.toArray.size ks (fun a' Φ => ∀ w', Below w.heap.size w w' → Φ w' → wpList P l.toArray Q (l.drop m) a' w') 0 (l.take m) a (fun _ => True)) :
    (Code.region id l.toArray true).wp P Q a w := by
  have hn : m < l.toArray.size := by
    simp only [okB, Region.lexTailB, Bool.and_eq_true, decide_eq_true_eq] at hB
    exact hB.1.1.1.1.2
  refine wp_region_ch0 (oa := default) (d := 0) (t := 0) (zs := #[]) m l.toArray.size ks hm hB (fun h => absurd h (by omega)) ?_
  refine wpC_end (fun a' Φ h w' h1 h2 ac h3 _ => by rw [h3 (by omega)]; exact h w' h1 h2) _ _ _ _ h
/-- The law, with one block made at n. -/
theorem wp_region_cha {id : Nat} {Q : Exit → Act → World → Prop} {a : Act} {w : World} {l : List Oper} (m n : Nat) (ks : List Nat) (t : TypeId) (zs : Array Value) (d : Tmp) (oa : Oper) (hm : P.follows .mixedOrders = true) (hnm : n < m)
    (hoa : l.toArray[n]? = some oa) (hda : oa.dst = some d) (hga : oa.guard = none) (hrun : ∀ (a : Act) (w : World), (execOp a.eval oa).run P w = .ok (.value (.pointer (some ⟨w.heap.size, 0, none⟩))) (w.alloc (.cells zs t)))
    (hB : (okB .any l.toArray m ks && (List.range m).all fun j => j == n || (match l.toArray[j]? with | some o => oa.apart l.toArray o | none => true)) = true)
    (h : wpC P l.toArray (fun w' => ∃ p : Regrown, w' = grow (redrawn w p.d) p.os) n ks (fun a' Φ => ∀ b w', Below w.heap.size w w' → Φ w' → w.heap.size ≤ b → BK w' b t zs → wpList P l.toArray Q (l.drop m) (a'.put (some d) (.pointer (some ⟨b, 0, none⟩))) w') 0 (l.take m) a (fun _ => True)) :
    (Code.region id l.toArray true).wp P Q a w := by
  simp only [Bool.and_eq_true] at hB
  refine wp_region_ch0 m n ks hm hB.1 (fun _ => ⟨hoa, hda, hga, hrun, fun j oj hj hjm hjn => ?_⟩) ?_
  · have := (List.all_eq_true.1 hB.2) j (List.mem_range.2 hjm)
    simpa [hjn, hj] using this
  · refine wpC_end (fun a' Φ h w' h1 h2 ac _ h4 => ?_) _ _ _ _ h
    obtain ⟨b, q1, q2, rfl⟩ := h4 hnm
    exact h b w' h1 h2 q1 q2

/-! ### Steps -/
variable {n k : Nat} {ks : List Nat} {Lq : Act → Fact → Prop} {o : Oper} {rest : List Oper} {a : Act} {Φ : Fact}
theorem wpC_nil (h : Lq a Φ) : wpC P ops C n ks Lq k [] a Φ := h
theorem wpC_q (h1 : k ≠ n) (h2 : k ∉ ks) (h : ∀ K : Act → Prop, (∀ a, wpC P ops C n ks Lq (k + 1) rest a Φ → K a) → if Region.wanted o (yielded ops a.tmps) then (∃ v, (∀ w, C w → qAt P o a w v) ∧ K (a.put o.dst v)) else K (a.put o.dst undef)) :
    wpC P ops C n ks Lq k (o :: rest) a Φ := by
  unfold wpC
  rw [if_neg h1]
  have := h _ (fun _ h => h)
  by_cases hw : Region.wanted o (yielded ops a.tmps) = true
  · rw [if_pos hw] at this
    rw [if_pos hw, if_neg h2]
    exact this
  · rw [if_neg hw] at this
    rw [if_neg hw]
    exact this
theorem wpC_a (h : wpC P ops C n ks Lq (n + 1) rest a Φ) : wpC P ops C n ks Lq n (o :: rest) a Φ := by
  unfold wpC
  rw [if_pos rfl]
  exact h
theorem wpC_c {ι : Type} (f : FuncId) (args : Array Value) (v : ι → Value) (G : ι → Fact) (h1 : k ≠ n) (h2 : k ∈ ks) (hg : o.guard = none) (hx : ∀ w, (execOp a.eval o).run P w = .ok (.enter f args) w) (hst : stable Φ) (hG : ∀ i, stable (G i))
    (hc : ∀ w, C w → Φ w → Calls P f args w (fun e w' => ∃ i, e = .returned (v i) ∧ G i w' ∧ Below w.heap.size w w')) (h : ∀ i, stable (fun x => Φ x ∧ G i x) → wpC P ops C n ks Lq (k + 1) rest (a.put o.dst (v i)) (fun x => Φ x ∧ G i x)) :
    wpC P ops C n ks Lq k (o :: rest) a Φ := by
  unfold wpC
  rw [if_neg h1, if_pos (by simp [Region.wanted, hg]), if_pos h2]
  intro w hw hp
  unfold callAt
  rw [hx]
  refine ⟨rfl, (hc w hw hp).mono ?_⟩
  rintro e w' ⟨i, rfl, h3, h4⟩
  have hs : stable (fun x => Φ x ∧ G i x) := fun x y hxy hb => ⟨hst x y hxy.1 hb, hG i x y hxy.2 hb⟩
  exact ⟨_, rfl, h4, _, hs, fun x hx => hx.1, ⟨hst w w' hp h4, h3⟩, h i hs⟩
/-- An operation of the chain that is not a call of a function: an append. -/
theorem wpC_v {ι : Type} (v : ι → Value) (G : ι → Fact) (h1 : k ≠ n) (h2 : k ∈ ks) (hg : o.guard = none) (hst : stable Φ) (hG : ∀ i, stable (G i))
    (hc : ∀ w, C w → Φ w → ∃ i w', (execOp a.eval o).run P w = .ok (.value (v i)) w' ∧ G i w' ∧ Below w.heap.size w w') (h : ∀ i, stable (fun x => Φ x ∧ G i x) → wpC P ops C n ks Lq (k + 1) rest (a.put o.dst (v i)) (fun x => Φ x ∧ G i x)) :
    wpC P ops C n ks Lq k (o :: rest) a Φ := by
  unfold wpC
  rw [if_neg h1, if_pos (by simp [Region.wanted, hg]), if_pos h2]
  intro w hw hp
  unfold callAt
  obtain ⟨i, w', hx, h3, h4⟩ := hc w hw hp
  rw [hx]
  have hs : stable (fun x => Φ x ∧ G i x) := fun x y hxy hb => ⟨hst x y hxy.1 hb, hG i x y hxy.2 hb⟩
  exact ⟨h4, _, hs, fun x hx => hx.1, ⟨hst w w' hp h4, h3⟩, h i hs⟩
theorem stable_true : stable (fun _ => True) := fun _ _ _ _ => trivial
theorem stable_ow {α : Type} (f : α → List Value) (sz : Nat) (e : TypeId) (base : Nat) (A : Option Addr) (n c : Nat) (xs : List α) : stable (fun w => OW f sz e base w A n c xs) := fun _ _ h hb => h.call hb
end
attribute [go_sem] qAt qUpon
end Go.Proofs.Ytomloklckpcaiaa
