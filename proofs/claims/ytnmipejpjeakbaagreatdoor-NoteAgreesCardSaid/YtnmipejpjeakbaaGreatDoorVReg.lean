/- A region that draws its order: its first operations only read or make quiet calls, in any order; the rest comes last, in one forced order. One walk of the text's order serves every order. Plain theorems over any program, outside a fence and inside a loop's round. -/
import Derived.Test.YtnmipejpjeakbaaGreatDoorPAll
import Derived.StillTail
import Derived.OrdersIn
import Derived.TacticsIn
import Derived.RangeFuncCalls
import Derived.RangeFuncNested
import Derived.Lib.QuietBelow
import Derived.WalkKit
import Derived.WalkSpells
import Derived.Deep.Draws
import Derived.Lib.Hide
import Derived.Maps.AppendAt
namespace Go.Proofs.YtnmipejpjeakbaaGreatDoor
open Go.RowKit Go.Sort

section
variable {P : Program} {ops : Array Oper} {md : Region.Mode} {C : World → Prop}

/-! ### Inside a round of a loop over an iterator (the wide fence) -/
variable {lp m : Nat}
end
section
variable {P : Program}
end
end Go.Proofs.YtnmipejpjeakbaaGreatDoor

/- A drawn region with a new block among its operations: quiet operations 0 .. n - 1, an allocation at n that may come up at any time, and a tail in one forced order. One walk serves every order. Plain theorems over any program. -/
namespace Go.Proofs.YtnmipejpjeakbaaGreatDoor
open Go.RowKit Go.Sort

section
variable {P : Program} {ops : Array Oper} {md : Region.Mode} {C : World → Prop}
variable {n : Nat} {d : Tmp} {t : TypeId} {zs : Array Value} {B : Nat} {oa : Oper}
end
attribute [go_sem] tame tAt tUpon
end Go.Proofs.YtnmipejpjeakbaaGreatDoor

/- A drawn region whose head reads, calls (the calls in one forced chain; each may make memory) and makes at most one block: one walk of the text's order serves every order. Plain theorems over any program. -/
namespace Go.Proofs.YtnmipejpjeakbaaGreatDoor
open Go.RowKit Go.Sort

section
variable {P : Program} {ops : Array Oper} {md : Region.Mode} {C : World → Prop}
/-! ### Steps -/
variable {k : Nat} {ns ks : List Nat} {Lq : Act → Fact → Prop} {o : Oper} {rest : List Oper} {a : Act} {Φ : Fact}
end
attribute [go_sem] qAt qUpon
end Go.Proofs.YtnmipejpjeakbaaGreatDoor

/- The laws of Reg3 for a region inside a loop's round. Plain theorems over any program. -/
namespace Go.Proofs.YtnmipejpjeakbaaGreatDoor
open Go.RowKit Go.Sort

section
variable {P : Program} {ops : Array Oper} {md : Region.Mode} {C : World → Prop} {lp mr : Nat}
end
/-! ### Under the wide fence, outside a round -/
section
variable {P : Program} {ops : Array Oper} {md : Region.Mode} {C : World → Prop} {m : Nat}
end
end Go.Proofs.YtnmipejpjeakbaaGreatDoor

/- The laws of Reg3, with blocks that float and are filled by a store of their own, which floats too. Printed by genreg5.py. Plain theorems over any program. -/
namespace Go.Proofs.YtnmipejpjeakbaaGreatDoor
open Go.RowKit Go.Sort

section
variable {P : Program} {ops : Array Oper} {md : Region.Mode} {C : World → Prop} {st : Fact → Prop} {G : Nat → Act → Prop}
/-- What a call must leave. -/
def LeavesG (st : Fact → Prop) (Φ : Fact) (w : World) (dst : Option Tmp) (a : Act) (K : Act → Fact → Prop) (v : Value) (w' : World) : Prop :=
  Below w.heap.size w w' ∧ ∃ Φ' : Fact, st Φ' ∧ (∀ x, Φ' x → Φ x) ∧ Φ' w' ∧ K (a.put dst v) Φ'
def cOpG (P : Program) (ops : Array Oper) (C : World → Prop) (st : Fact → Prop) (G : Nat → Act → Prop) (ns : List Nat) (ks : List Nat) (i : Nat) (K : Act → Fact → Prop) (a : Act) (Φ : Fact) : Prop :=
  if i ∈ ns then G i a ∧ K a Φ else
  match ops[i]? with
  | none => K a Φ
  | some o =>
    if Region.wanted o (yielded ops a.tmps) then
      if i ∈ ks then ∀ w, C w → Φ w → callAt P o a w (LeavesG st Φ w o.dst a K)
      else ∃ v, (∀ w, C w → qAt P o a w v) ∧ K (a.put o.dst v) Φ
    else K (a.put o.dst undef) Φ
theorem cOpG_mono {ns : List Nat} {i : Nat} {ks : List Nat} (hCl : ∀ w w', C w → Below w.heap.size w w' → C w') {a : Act} {Φ : Fact} {K K' : Act → Fact → Prop} (hst : st Φ) (hex : ∃ w, C w ∧ Φ w)
    (h : ∀ a Φ, st Φ → (∃ w, C w ∧ Φ w) → K a Φ → K' a Φ) (hh : cOpG P ops C st G ns ks i K a Φ) : cOpG P ops C st G ns ks i K' a Φ := by
  unfold cOpG at *
  by_cases hin : i ∈ ns
  · rw [if_pos hin] at *; exact ⟨hh.1, h _ _ hst hex hh.2⟩
  rw [if_neg hin] at *
  split
  · exact h _ _ hst hex (by simpa [*] using hh)
  · rename_i o ho
    simp only [ho] at hh
    by_cases hw : Region.wanted o (yielded ops a.tmps) = true
    · rw [if_pos hw] at hh ⊢
      by_cases hk : i ∈ ks
      · rw [if_pos hk] at hh ⊢
        exact fun w hc hp => callAt_mono (fun v w' ⟨h1, Φ', h2, h3, h4, h5⟩ => ⟨h1, Φ', h2, h3, h4, h _ _ h2 ⟨w', hCl _ _ hc h1, h4⟩ h5⟩) (hh w hc hp)
      · rw [if_neg hk] at hh ⊢
        obtain ⟨v, h1, h2⟩ := hh
        exact ⟨v, h1, h _ _ hst hex h2⟩
    · rw [if_neg hw] at hh ⊢
      exact h _ _ hst hex hh
theorem Qyields.cOpG {ns : List Nat} {i : Nat} {ks : List Nat} {o : Oper} {v : Value} {a : Act} {Φ : Fact} (hin : i ∉ ns) (hk : i ∉ ks) (hi : ops[i]? = some o) (hy : Qyields P ops C o v a) {K : Act → Fact → Prop} (h : K (a.put o.dst v) Φ) : cOpG P ops C st G ns ks i K a Φ := by
  unfold Go.Proofs.YtnmipejpjeakbaaGreatDoor.cOpG
  rw [if_neg hin]
  simp only [hi]
  rcases hy with ⟨hw, hv⟩ | ⟨hw, rfl⟩
  · rw [if_pos hw, if_neg hk]; exact ⟨v, hv, h⟩
  · rw [if_neg (by rw [hw]; simp)]; exact h
theorem qyields_of_cOpG {ns : List Nat} {i : Nat} {ks : List Nat} {o : Oper} {a : Act} {Φ : Fact} {K : Act → Fact → Prop} (hin : i ∉ ns) (hk : i ∉ ks) (hi : ops[i]? = some o) (h : cOpG P ops C st G ns ks i K a Φ) : ∃ v, Qyields P ops C o v a ∧ K (a.put o.dst v) Φ := by
  unfold cOpG at h
  rw [if_neg hin] at h
  simp only [hi] at h
  by_cases hw : Region.wanted o (yielded ops a.tmps) = true
  · rw [if_pos hw, if_neg hk] at h
    obtain ⟨v, h1, h2⟩ := h
    exact ⟨v, .inl ⟨hw, h1⟩, h2⟩
  · rw [if_neg hw] at h
    exact ⟨undef, .inr ⟨by simpa using hw, rfl⟩, h⟩
/-- A quiet value is put first: what comes behind it does not mind. -/
theorem cOpG_put (hG : ∀ i oi, ops[i]? = some oi → ∀ (a : Act) (d : Option Tmp) (v : Value), (∀ t, d = some t → t ∉ oi.looksAt ops) → (G i (a.put d v) ↔ G i a)) {ns : List Nat} {j : Nat} {ks : List Nat} {oi oj : Oper} {v : Value} (hj : ops[j]? = some oj) (hap : oi.apart ops oj = true)
    (hsi : ∀ cs b, oi.op ≠ .select cs b) (hsj : ∀ cs b, oj.op ≠ .select cs b) {K : Act → Fact → Prop} {a : Act} {Φ : Fact}
    (hy : Qyields P ops C oi v a) (h : cOpG P ops C st G ns ks j K (a.put oi.dst v) Φ) :
    cOpG P ops C st G ns ks j (fun a' Φ' => Qyields P ops C oi v a' ∧ K (a'.put oi.dst v) Φ') a Φ := by
  obtain ⟨h1, h2, h3⟩ := Oper.apart_spec hap
  have keep : ∀ (a : Act), Qyields P ops C oi v a → ∀ u, Qyields P ops C oi v (a.put oj.dst u) := fun a hy u =>
    hy.of_same (execOp_put oi hsi a oj.dst u h3) (wanted_put oi a oj.dst u h3)
  unfold cOpG at *
  by_cases hjn : j ∈ ns
  · rw [if_pos hjn] at *; exact ⟨(hG _ _ hj _ _ _ h1).1 h.1, hy, h.2⟩
  rw [if_neg hjn] at *
  simp only [hj] at *
  rw [wanted_put oj a oi.dst v h1] at h
  by_cases hw : Region.wanted oj (yielded ops a.tmps) = true
  · rw [if_pos hw] at h ⊢
    by_cases hk : j ∈ ks
    · rw [if_pos hk] at h ⊢
      intro w hc hp
      have := h w hc hp
      unfold callAt at *
      rw [execOp_put oj hsj a oi.dst v h1] at this
      refine callAt_mono (P := P) (o := oj) (a := a) (fun u w' ⟨k1, Φ', k2, k3, k4, k5⟩ => ⟨k1, Φ', k2, k3, k4, keep a hy u, by rw [← Act.put_comm a v u h2]; exact k5⟩) this
    · rw [if_neg hk] at h ⊢
      obtain ⟨u, hu, hn⟩ := h
      refine ⟨u, fun w hw' => ?_, keep a hy u, by rw [← Act.put_comm a v u h2]; exact hn⟩
      have := hu w hw'
      unfold qAt at *
      rwa [execOp_put oj hsj a oi.dst v h1] at this
  · rw [if_neg hw] at h ⊢
    exact ⟨keep a hy _, by rw [← Act.put_comm a v undef h2]; exact h⟩
def cHeadG (P : Program) (md : Region.Mode) (ops : Array Oper) (C : World → Prop) (st : Fact → Prop) (G : Nat → Act → Prop) (ns : List Nat) (m : Nat) (ks : List Nat) (L : Array Bool → Act → Fact → Prop) : Nat → Array Bool → Act → Fact → Prop
  | 0, listed, a, Φ => L listed a Φ
  | f + 1, listed, a, Φ =>
    Region.ready md ops listed ≠ [] ∧ ∀ i ∈ Region.ready md ops listed, i < m ∧ cOpG P ops C st G ns ks i (cHeadG P md ops C st G ns m ks L f (listed.setIfInBounds i true)) a Φ
/-- What a floating operation wants is kept over an operation that lies apart. -/
theorem cOpG_keep (hG : ∀ i oi, ops[i]? = some oi → ∀ (a : Act) (d : Option Tmp) (v : Value), (∀ t, d = some t → t ∉ oi.looksAt ops) → (G i (a.put d v) ↔ G i a)) {ns : List Nat} {i j : Nat} {ks : List Nat} {oi oj : Oper}
    (hi : ops[i]? = some oi) (hj : ops[j]? = some oj) (h3 : ∀ d, oj.dst = some d → d ∉ oi.looksAt ops) {K : Act → Fact → Prop} {a : Act} {Φ : Fact} (hg : G i a) (h : cOpG P ops C st G ns ks j K a Φ) :
    cOpG P ops C st G ns ks j (fun a' Φ' => G i a' ∧ K a' Φ') a Φ := by
  have keep : ∀ (u : Value), G i (a.put oj.dst u) := fun u => (hG i oi hi a oj.dst u h3).2 hg
  unfold cOpG at *
  by_cases hjn : j ∈ ns
  · rw [if_pos hjn] at *; exact ⟨h.1, hg, h.2⟩
  rw [if_neg hjn] at *
  simp only [hj] at *
  by_cases hw : Region.wanted oj (yielded ops a.tmps) = true
  · rw [if_pos hw] at h ⊢
    by_cases hk : j ∈ ks
    · rw [if_pos hk] at h ⊢
      intro w hc hp
      exact callAt_mono (P := P) (o := oj) (a := a) (fun u w' ⟨k1, Φ', k2, k3, k4, k5⟩ => ⟨k1, Φ', k2, k3, k4, keep u, k5⟩) (h w hc hp)
    · rw [if_neg hk] at h ⊢
      obtain ⟨u, hu, hn⟩ := h
      exact ⟨u, hu, keep u, hn⟩
  · rw [if_neg hw] at h ⊢
    exact ⟨keep _, h⟩
/-- An operation that stands first in the text may be taken first. -/
theorem cHeadG_first (hG : ∀ i oi, ops[i]? = some oi → ∀ (a : Act) (d : Option Tmp) (v : Value), (∀ t, d = some t → t ∉ oi.looksAt ops) → (G i (a.put d v) ↔ G i a)) {ns : List Nat} {m i : Nat} {ks : List Nat} {oi : Oper} {L : Array Bool → Act → Fact → Prop} (hCl : ∀ w w', C w → Below w.heap.size w w' → C w') (hi : ops[i]? = some oi) (hsel : ∀ (j : Nat) (o : Oper) cs b, ops[j]? = some o → o.op ≠ .select cs b)
    (hs : Region.sinkB md ops m = true) (hc : Region.chainB md ops m = true) (hn : m < ops.size) (hin : i < m)
    (hdone : ∀ listed a Φ, L listed a Φ → ∀ j ∈ Region.ready md ops listed, m ≤ j) :
    ∀ (f : Nat) (listed : Array Bool) (a : Act) (Φ : Fact), HeadInv md ops m listed → st Φ → (∃ w, C w ∧ Φ w) →
      (∀ j oj, ops[j]? = some oj → j ≠ i → listed.getD j true = false → (∀ e ∈ oj.after, Region.binds md e = true → e.on ≠ i) → oi.apart ops oj = true) →
      i ∈ Region.ready md ops listed → (i ∈ ks → ∀ j ∈ ks, j ≠ i → j ∉ Region.ready md ops listed) →
      (∀ (L2 : Array Bool), (∀ q, listed.getD q false = true → L2.getD q false = true) → L2.getD i true = false → HeadInv md ops m L2 → i ∈ ks → ∀ j ∈ ks, j ≠ i → j ∉ Region.ready md ops L2) →
      cOpG P ops C st G ns ks i (cHeadG P md ops C st G ns m ks L f (listed.setIfInBounds i true)) a Φ → cHeadG P md ops C st G ns m ks L (f + 1) listed a Φ := by
  intro f
  induction f with
  | zero =>
    intro listed a Φ inv hst hex hfree hr hkr hch H
    have hun := (mem_ready.1 hr).1
    refine ⟨fun h => (by rw [h] at hr; cases hr), fun j hj => ?_⟩
    have hjn : j < m := by
      rcases Nat.lt_or_ge j m with h | h
      · exact h
      · exact absurd hj (tail_waits hs hc hn inv _ i rfl hin hun j h)
    refine ⟨hjn, ?_⟩
    by_cases hji : j = i
    · subst hji; exact H
    · exfalso
      have bad : ∀ a' Φ', cHeadG P md ops C st G ns m ks L 0 (listed.setIfInBounds i true) a' Φ' → False := fun a' Φ' h => by
        have := hdone _ _ _ h j (ready_mono hj hji)
        omega
      unfold cOpG at H
      by_cases hin' : i ∈ ns
      · rw [if_pos hin'] at H; exact bad _ _ H.2
      rw [if_neg hin'] at H
      simp only [hi] at H
      split at H
      · split at H
        · obtain ⟨w, hw1, hw2⟩ := hex
          obtain ⟨v, w', _, Φ', _, _, _, h⟩ := callAt_ex (H w hw1 hw2)
          exact bad _ _ h
        · obtain ⟨v, _, h⟩ := H
          exact bad _ _ h
      · exact bad _ _ H
  | succ f ih =>
    intro listed a Φ inv hst hex hfree hr hkr hch H
    have hun := (mem_ready.1 hr).1
    refine ⟨fun h => (by rw [h] at hr; cases hr), fun j hj => ?_⟩
    have hjn : j < m := by
      rcases Nat.lt_or_ge j m with h | h
      · exact h
      · exact absurd hj (tail_waits hs hc hn inv _ i rfl hin hun j h)
    refine ⟨hjn, ?_⟩
    by_cases hji : j = i
    · subst hji; exact H
    · obtain ⟨hjun, oj, hoj, hall⟩ := mem_ready.1 hj
      have hnot : ∀ e ∈ oj.after, Region.binds md e = true → e.on ≠ i := fun e he hb heq => by
        have h1 := hall e he hb
        rw [heq, getD_both hun] at h1
        cases h1
      have hap := hfree j oj hoj hji hjun hnot
      have inv' := inv.set hj hjn
      have hr' := ready_mono hr (Ne.symm hji)
      have hfree' : ∀ k ok, ops[k]? = some ok → k ≠ i → (listed.setIfInBounds j true).getD k true = false →
          (∀ e ∈ ok.after, Region.binds md e = true → e.on ≠ i) → oi.apart ops ok = true := fun k ok hk hki hun' hno => by
        refine hfree k ok hk hki ?_ hno
        by_cases hjk : j = k
        · subst hjk; exact hjun
        · rw [getD_set_ne true hjk] at hun'; exact hun'
      have hun2 : (listed.setIfInBounds j true).getD i true = false := by rw [getD_set_ne true hji]; exact hun
      have hch' : ∀ (L2 : Array Bool), (∀ q, (listed.setIfInBounds j true).getD q false = true → L2.getD q false = true) → L2.getD i true = false → HeadInv md ops m L2 → i ∈ ks → ∀ j ∈ ks, j ≠ i → j ∉ Region.ready md ops L2 :=
        fun L2 hsub => hch L2 (fun q hq => hsub q (getD_set_true hq))
      have hkr' : i ∈ ks → ∀ j' ∈ ks, j' ≠ i → j' ∉ Region.ready md ops (listed.setIfInBounds j true) := hch' _ (fun q hq => hq) hun2 inv'
      have use := fun (a' : Act) (Φ' : Fact) (h1 : st Φ') (h2 : ∃ w, C w ∧ Φ' w) (h3 : cOpG P ops C st G ns ks i (cHeadG P md ops C st G ns m ks L f ((listed.setIfInBounds j true).setIfInBounds i true)) a' Φ') =>
        ih (listed.setIfInBounds j true) a' Φ' inv' h1 h2 hfree' hr' hkr' hch' h3
      rw [Array.setIfInBounds_comm _ _ hji] at use
      have hcomp : ∀ a' Φ', cHeadG P md ops C st G ns m ks L (f + 1) (listed.setIfInBounds i true) a' Φ' → cOpG P ops C st G ns ks j (cHeadG P md ops C st G ns m ks L f ((listed.setIfInBounds i true).setIfInBounds j true)) a' Φ' := fun a' Φ' h => (h.2 j (ready_mono hj hji)).2
      obtain ⟨p1, p2, p3⟩ := Oper.apart_spec hap
      by_cases hin' : i ∈ ns
      · -- the block that floats
        unfold cOpG at H
        rw [if_pos hin'] at H
        refine cOpG_mono hCl hst hex (fun a' Φ' h1 h2 h3 => use a' Φ' h1 h2 ?_) (cOpG_keep hG hi hoj p3 H.1 (hcomp _ _ H.2))
        unfold cOpG
        rw [if_pos hin']
        exact h3
      · by_cases hik : i ∈ ks
        · -- a call
          have hjk : j ∉ ks := fun h => hkr hik j h hji hj
          by_cases hwi : Region.wanted oi (yielded ops a.tmps) = true
          case neg =>
            unfold cOpG at H
            rw [if_neg hin'] at H
            simp only [hi] at H
            rw [if_neg hwi] at H
            by_cases hjn' : j ∈ ns
            · unfold cOpG
              rw [if_pos hjn']
              have := hcomp _ _ H
              unfold cOpG at this
              rw [if_pos hjn'] at this
              refine ⟨(hG _ _ hoj _ _ _ p1).1 this.1, use a Φ hst hex ?_⟩
              unfold cOpG
              rw [if_neg hin']
              simp only [hi]
              rw [if_neg hwi]
              exact this.2
            · obtain ⟨vj, hyj, hk⟩ := qyields_of_cOpG hjn' hjk hoj (hcomp _ _ H)
              have hyj' : Qyields P ops C oj vj a := hyj.of_same (execOp_put oj (fun cs b => hsel j oj cs b hoj) a oi.dst undef p1).symm (wanted_put oj a oi.dst undef p1).symm
              refine hyj'.cOpG hjn' hjk hoj (use _ Φ hst hex ?_)
              unfold cOpG
              rw [if_neg hin']
              simp only [hi]
              rw [if_neg (by rw [wanted_put oi a oj.dst vj p3]; exact hwi)]
              rw [← Act.put_comm a undef vj p2]
              exact hk
          unfold cOpG at H
          rw [if_neg hin'] at H
          simp only [hi] at H
          rw [if_pos hwi, if_pos hik] at H
          by_cases hjn' : j ∈ ns
          · unfold cOpG
            rw [if_pos hjn']
            refine ⟨?_, use a Φ hst hex ?_⟩
            · obtain ⟨w0, hw1, hw2⟩ := hex
              obtain ⟨v0, w0', k1, Φ0, k2, k3, k4, k5⟩ := callAt_ex (H w0 hw1 hw2)
              have := hcomp _ _ k5
              unfold cOpG at this
              rw [if_pos hjn'] at this
              exact (hG _ _ hoj _ _ _ p1).1 this.1
            unfold cOpG
            rw [if_neg hin']
            simp only [hi]
            rw [if_pos hwi, if_pos hik]
            intro w hw1 hw2
            refine callAt_mono (fun v w' ⟨k1, Φ', k2, k3, k4, k5⟩ => ⟨k1, Φ', k2, k3, k4, ?_⟩) (H w hw1 hw2)
            have := hcomp _ _ k5
            unfold cOpG at this
            rw [if_pos hjn'] at this
            exact this.2
          · obtain ⟨w0, hw1, hw2⟩ := hex
            obtain ⟨v0, w0', k1, Φ0, k2, k3, k4, k5⟩ := callAt_ex (H w0 hw1 hw2)
            obtain ⟨vj, hyj, _⟩ := qyields_of_cOpG hjn' hjk hoj (hcomp _ _ k5)
            have hyj' : Qyields P ops C oj vj a := hyj.of_same (execOp_put oj (fun cs b => hsel j oj cs b hoj) a oi.dst v0 p1).symm (wanted_put oj a oi.dst v0 p1).symm
            refine hyj'.cOpG hjn' hjk hoj (use _ Φ hst ⟨w0, hw1, hw2⟩ ?_)
            unfold cOpG
            rw [if_neg hin']
            simp only [hi]
            rw [if_pos (by rw [wanted_put oi a oj.dst vj p3]; exact hwi), if_pos hik]
            intro w hc1 hc2
            have := H w hc1 hc2
            unfold callAt
            rw [execOp_put oi (fun cs b => hsel i oi cs b hi) a oj.dst vj p3]
            refine callAt_mono (P := P) (o := oi) (a := a) (fun v w' ⟨q1, Φ', q2, q3, q4, q5⟩ => ⟨q1, Φ', q2, q3, q4, ?_⟩) this
            obtain ⟨vj', hz, hk⟩ := qyields_of_cOpG hjn' hjk hoj (hcomp _ _ q5)
            have hz' : Qyields P ops C oj vj' a := hz.of_same (execOp_put oj (fun cs b => hsel j oj cs b hoj) a oi.dst v p1).symm (wanted_put oj a oi.dst v p1).symm
            obtain rfl := hz'.uniq ⟨w, hc1⟩ hyj'
            rw [← Act.put_comm a v vj' p2]
            exact hk
        · obtain ⟨v, hy, hK⟩ := qyields_of_cOpG hin' hik hi H
          have h2 := cOpG_put hG hoj hap (fun cs b => hsel i oi cs b hi) (fun cs b => hsel j oj cs b hoj) hy (hcomp _ _ hK)
          exact cOpG_mono hCl hst hex (fun a' Φ' q1 q2 q3 => use a' Φ' q1 q2 (q3.1.cOpG hin' hik hi q3.2)) h2
/-- One walk, in the text's order. -/
def wpCG (P : Program) (ops : Array Oper) (C : World → Prop) (st : Fact → Prop) (G : Nat → Act → Prop) (ns : List Nat) (ks : List Nat) (Lq : Act → Fact → Prop) : Nat → List Oper → Act → Fact → Prop
  | _, [], a, Φ => Lq a Φ
  | k, o :: rest, a, Φ =>
    if k ∈ ns then G k a ∧ wpCG P ops C st G ns ks Lq (k + 1) rest a Φ else
    if Region.wanted o (yielded ops a.tmps) then
      if k ∈ ks then ∀ w, C w → Φ w → callAt P o a w (LeavesG st Φ w o.dst a (wpCG P ops C st G ns ks Lq (k + 1) rest))
      else ∃ v, (∀ w, C w → qAt P o a w v) ∧ wpCG P ops C st G ns ks Lq (k + 1) rest (a.put o.dst v) Φ
    else wpCG P ops C st G ns ks Lq (k + 1) rest (a.put o.dst undef) Φ
theorem cHeadG_lex (hG : ∀ i oi, ops[i]? = some oi → ∀ (a : Act) (d : Option Tmp) (v : Value), (∀ t, d = some t → t ∉ oi.looksAt ops) → (G i (a.put d v) ↔ G i a)) {ns : List Nat} {m g : Nat} {ks : List Nat} {Lq : Act → Fact → Prop} (hCl : ∀ w w', C w → Below w.heap.size w w' → C w') (hsel : Region.noSelect ops = true) (hs : Region.sinkB md ops m = true) (hc : Region.chainB md ops m = true) (hn : m < ops.size)
    (hch : chained md ops ks = true) (hnd : ks.Nodup) (hsort : ∀ A B i j, ks = A ++ i :: B → j ∈ A → j < i) :
    ∀ (l : List Oper) (k : Nat) (listed : Array Bool) (a : Act) (Φ : Fact), (∀ j, j < l.length → l[j]? = ops[k + j]?) → k + l.length = m → HeadInv md ops m listed → st Φ → (∃ w, C w ∧ Φ w) → (∀ j, j < k → listed.getD j false = true) →
    Region.lexHead md ops g l.length k listed = true → wpCG P ops C st G ns ks Lq k l a Φ →
    cHeadG P md ops C st G ns m ks (fun listed' a' Φ' => Region.seqB md ops g m listed' = true ∧ Lq a' Φ') l.length listed a Φ
  | [], k, listed, a, Φ, _, hk, _, _, _, _, hB, h => by
    have : k = m := by simpa using hk
    subst this
    exact ⟨by simpa [Region.lexHead] using hB, h⟩
  | o :: l, k, listed, a, Φ, hl, hk, inv, hst, hex, hpre, hB, h => by
    have h0 : ops[k]? = some o := by simpa using (hl 0 (by simp)).symm
    rw [List.length_cons, Region.lexHead] at hB
    simp only [Bool.and_eq_true] at hB
    obtain ⟨⟨hr, hf⟩, hB'⟩ := hB
    have hkm : k < m := by simp only [List.length_cons] at hk; omega
    have hr' : k ∈ Region.ready md ops listed := by simpa using hr
    have hun := (mem_ready.1 hr').1
    have late : ∀ (L2 : Array Bool), (∀ q, listed.getD q false = true → L2.getD q false = true) → L2.getD k true = false → HeadInv md ops m L2 → k ∈ ks → ∀ j ∈ ks, j ≠ k → j ∉ Region.ready md ops L2 := by
      intro L2 hsub hk2 inv2 hkk j hj hjk hjr
      obtain ⟨A, B, e⟩ := List.append_of_mem hkk
      rw [e] at hj
      rcases List.mem_append.1 hj with hjA | hjB
      · have hlt := hsort A B k j e hjA
        have h1 := hsub j (hpre j hlt)
        have h2 := (mem_ready.1 hjr).1
        rw [getD_both h2] at h1
        cases h1
      · rcases List.mem_cons.1 hjB with rfl | hjB
        · exact hjk rfl
        · have := chain_listed inv2 ks hch A B k j e hjB (.inr hjr)
          rw [getD_both hk2] at this
          cases this
    have step : ∀ a' Φ', st Φ' → (∃ w, C w ∧ Φ' w) → wpCG P ops C st G ns ks Lq (k + 1) l a' Φ' → cHeadG P md ops C st G ns m ks (fun listed' a' Φ' => Region.seqB md ops g m listed' = true ∧ Lq a' Φ') l.length (listed.setIfInBounds k true) a' Φ' := fun a' Φ' h1 h2 h3 =>
      cHeadG_lex hG hCl hsel hs hc hn hch hnd hsort l (k + 1) _ a' Φ' (fun j hj => by have := hl (j + 1) (by simp; omega); simpa [Nat.add_assoc, Nat.add_comm 1 j] using this) (by simp only [List.length_cons] at hk; omega) (inv.set hr' hkm) h1 h2 (fun j hj => by
        by_cases hjk : k = j
        · subst hjk
          have : k < listed.size := by rw [inv.size]; omega
          simp [this]
        · rw [getD_set_ne false hjk]; exact hpre j (by omega)) hB' h3
    refine cHeadG_first hG hCl h0 (Region.noSelect_spec hsel) hs hc hn hkm (fun listed' a' Φ' hL => seqB_ready hL.1) l.length listed a Φ inv hst hex (Region.free_spec h0 hf) hr' (late listed (fun q hq => hq) hun inv) late ?_
    unfold wpCG at h
    unfold cOpG
    by_cases hkn : k ∈ ns
    · rw [if_pos hkn] at h ⊢
      exact ⟨h.1, step a Φ hst hex h.2⟩
    rw [if_neg hkn] at h ⊢
    simp only [h0]
    by_cases hw : Region.wanted o (yielded ops a.tmps) = true
    · rw [if_pos hw] at h ⊢
      by_cases hkk : k ∈ ks
      · rw [if_pos hkk] at h ⊢
        exact fun w h1 h2 => callAt_mono (fun v w' ⟨q1, Φ', q2, q3, q4, q5⟩ => ⟨q1, Φ', q2, q3, q4, step _ _ q2 ⟨w', hCl _ _ h1 q1, q4⟩ q5⟩) (h w h1 h2)
      · rw [if_neg hkk] at h ⊢
        obtain ⟨v, h1, h2⟩ := h
        exact ⟨v, h1, step _ _ hst hex h2⟩
    · rw [if_neg hw] at h ⊢
      exact step _ _ hst hex h
/-- A block that floats: where it is made, its name, its cells; and, if hs, where it is filled, with which value (in slot x), and its cells then. -/
structure FG where
  n : Nat
  d : Tmp
  t : TypeId
  zs : Array Value
  hs : Bool
  sn : Nat
  x : Tmp
  vx : Value
  cs : Array Value
def FG.now (f : FG) (listed : Array Bool) : Array Value := if (f.hs && listed.getD f.sn false) = true then f.cs else f.zs
def FloatsG (P : Program) (md : Region.Mode) (ops : Array Oper) (m : Nat) (f : FG) : Prop :=
  f.n < m ∧ (∃ oa, ops[f.n]? = some oa ∧ oa.dst = some f.d ∧ oa.guard = none ∧ (∀ (a : Act) (w : World), (execOp a.eval oa).run P w = .ok (.value (.pointer (some ⟨w.heap.size, 0, none⟩))) (w.alloc (.cells f.zs f.t))) ∧
    ∀ j oj, ops[j]? = some oj → j < m → j ≠ f.n → (f.hs = true → j ≠ f.sn) → oa.apart ops oj = true) ∧
  (f.hs = true → f.sn < m ∧ f.sn ≠ f.n ∧ ∃ os, ops[f.sn]? = some os ∧ os.dst = none ∧ os.guard = none ∧ (∀ cs b, os.op ≠ .select cs b) ∧ f.x ∈ os.looksAt ops ∧ (∃ e ∈ os.after, Region.binds md e = true ∧ e.on = f.n) ∧
    (∀ (a : Act) (w : World) (b : Nat), a.eval (.tmp f.d) = .pointer (some ⟨b, 0, none⟩) → a.eval (.tmp f.x) = f.vx → BK w b f.t f.zs → ∃ w', (execOp a.eval os).run P w = .ok .skip w' ∧ BK w' b f.t f.cs ∧ Below b w w' ∧ w'.heap.size = w.heap.size ∧ ∀ k, k ≠ b → w'.heap[k]? = w.heap[k]?))
/-- What the filling wants. -/
def wantsG (fs : List FG) (i : Nat) (a : Act) : Prop := ∀ f ∈ fs, f.hs = true → f.sn = i → a.eval (.tmp f.x) = f.vx ∧ f.d < a.tmps.size
/-- Blocks and their names lie apart. -/
structure ApartG (fs : List FG) : Prop where
  n : (fs.map (·.n)).Nodup
  d : (fs.map (·.d)).Nodup
  s : ∀ f ∈ fs, ∀ f' ∈ fs, f.hs = true → f'.hs = true → f.sn = f'.sn → f = f'
  ns : ∀ f ∈ fs, ∀ f' ∈ fs, f.hs = true → f.sn ≠ f'.n
  x : ∀ f ∈ fs, ∀ f' ∈ fs, f.x ≠ f'.d
theorem inj_of_nodup {α β : Type} {g : α → β} : ∀ {l : List α}, (l.map g).Nodup → ∀ {a b : α}, a ∈ l → b ∈ l → g a = g b → a = b
  | [], _, _, _, ha, _, _ => by cases ha
  | y :: l, h, a, b, ha, hb, e => by
    rw [List.map_cons] at h
    obtain ⟨h1, h2⟩ := List.nodup_cons.1 h
    rcases List.mem_cons.1 ha with e1 | ha' <;> rcases List.mem_cons.1 hb with e2 | hb'
    · exact e1.trans e2.symm
    · exact absurd (List.mem_map.2 ⟨b, hb', by rw [← e, e1]⟩) h1
    · exact absurd (List.mem_map.2 ⟨a, ha', by rw [e, e2]⟩) h1
    · exact inj_of_nodup h2 ha' hb' e
theorem put_size (a : Act) (d : Option Tmp) (v : Value) : (a.put d v).tmps.size = a.tmps.size := by cases d <;> simp [Act.put]
theorem wantsG_put {fs : List FG} {m : Nat} (hfl : ∀ f ∈ fs, FloatsG P md ops m f) : ∀ i oi, ops[i]? = some oi → ∀ (a : Act) (d : Option Tmp) (v : Value), (∀ t, d = some t → t ∉ oi.looksAt ops) → (wantsG fs i (a.put d v) ↔ wantsG fs i a) := by
  intro i oi hi a d v hd
  unfold wantsG
  refine forall_congr' fun f => forall_congr' fun hf => forall_congr' fun hs => forall_congr' fun he => ?_
  obtain ⟨_, _, os, ho, _, _, _, hx, _⟩ := (hfl f hf).2.2 hs
  rw [he] at ho
  rw [hi] at ho
  cases ho
  rw [put_size, Act.eval_put (fun t ht e => by injection e with e; subst e; exact hd _ ht hx)]
def putsG : List (FG × Nat) → Act → Act
  | [], a => a
  | (f, b) :: l, a => (putsG l a).put (some f.d) (.pointer (some ⟨b, 0, none⟩))
theorem putsG_put {dst : Option Tmp} {v : Value} : ∀ (bs : List (FG × Nat)) (a : Act), (∀ p ∈ bs, dst ≠ some p.1.d) → putsG bs (a.put dst v) = (putsG bs a).put dst v
  | [], _, _ => rfl
  | (f, b) :: l, a, h => by
    show (putsG l (a.put dst v)).put _ _ = _
    rw [putsG_put l a (fun p hp => h p (List.mem_cons_of_mem _ hp))]
    exact (Act.put_comm (putsG l a) _ v (fun d hd => by cases hd; exact h (f, b) (List.mem_cons_self ..))).symm
theorem putsG_exec {o : Oper} (hs : ∀ cs b, o.op ≠ .select cs b) : ∀ (bs : List (FG × Nat)) (a : Act), (∀ p ∈ bs, p.1.d ∉ o.looksAt ops) → execOp (putsG bs a).eval o = execOp a.eval o
  | [], _, _ => rfl
  | (f, b) :: l, a, h => by
    show execOp ((putsG l a).put _ _).eval o = _
    rw [execOp_put o hs (putsG l a) (some f.d) _ (fun d hd => by cases hd; exact h (f, b) (List.mem_cons_self ..)), putsG_exec hs l a (fun p hp => h p (List.mem_cons_of_mem _ hp))]
theorem putsG_wanted {o : Oper} : ∀ (bs : List (FG × Nat)) (a : Act), (∀ p ∈ bs, p.1.d ∉ o.looksAt ops) → Region.wanted o (yielded ops (putsG bs a).tmps) = Region.wanted o (yielded ops a.tmps)
  | [], _, _ => rfl
  | (f, b) :: l, a, h => by
    show Region.wanted o (yielded ops ((putsG l a).put _ _).tmps) = _
    rw [wanted_put o (putsG l a) (some f.d) _ (fun d hd => by cases hd; exact h (f, b) (List.mem_cons_self ..)), putsG_wanted l a (fun p hp => h p (List.mem_cons_of_mem _ hp))]
theorem putsG_size : ∀ (bs : List (FG × Nat)) (a : Act), (putsG bs a).tmps.size = a.tmps.size
  | [], _ => rfl
  | (f, b) :: l, a => by
    show ((putsG l a).put _ _).tmps.size = _
    rw [put_size, putsG_size l a]
theorem putsG_x {x : Tmp} : ∀ (bs : List (FG × Nat)) (a : Act), (∀ p ∈ bs, x ≠ p.1.d) → (putsG bs a).eval (.tmp x) = a.eval (.tmp x)
  | [], _, _ => rfl
  | (f, b) :: l, a, h => by
    show ((putsG l a).put _ _).eval _ = _
    rw [Act.eval_put (fun t ht e => by injection ht with ht; injection e with e; exact h (f, b) (List.mem_cons_self ..) (e.trans ht.symm)), putsG_x l a (fun p hp => h p (List.mem_cons_of_mem _ hp))]
theorem putsG_d : ∀ (bs : List (FG × Nat)) (a : Act) (f : FG) (b : Nat), (bs.map (·.1.d)).Nodup → (f, b) ∈ bs → f.d < a.tmps.size → (putsG bs a).eval (.tmp f.d) = .pointer (some ⟨b, 0, none⟩)
  | [], _, _, _, _, h, _ => by cases h
  | (f', b') :: l, a, f, b, hnd, h, hz => by
    rw [List.map_cons] at hnd
    obtain ⟨h1, h2⟩ := List.nodup_cons.1 hnd
    show ((putsG l a).put _ _).eval _ = _
    rcases List.mem_cons.1 h with e | h
    · injection e with e1 e2
      subst e1; subst e2
      have hz' : f.d < (putsG l a).tmps.size := by rw [putsG_size]; exact hz
      simp only [Act.put, Act.eval]
      rw [Array.getD_eq_getD_getElem?, Array.getElem?_setIfInBounds_self_of_lt hz']
      rfl
    · rw [Act.eval_put (fun t ht e => by injection ht with ht; injection e with e; exact h1 (List.mem_map.2 ⟨_, h, by simp only; rw [e, ht]⟩)), putsG_d l a f b h2 h hz]
/-- The blocks that are made, each with its own number. -/
def madeG (fs : List FG) (B : Nat) (listed : Array Bool) (w : World) (bs : List (FG × Nat)) : Prop :=
  (∀ p ∈ bs, p.1 ∈ fs ∧ B ≤ p.2 ∧ BK w p.2 p.1.t (p.1.now listed)) ∧ (bs.map (·.1.n)).Nodup ∧ (bs.map (·.2)).Nodup
def tRelG (fs : List FG) (B : Nat) (listed : Array Bool) (a ac : Act) (w : World) : Prop :=
  ∃ bs, madeG fs B listed w bs ∧ (∀ p ∈ bs, listed.getD p.1.n false = true) ∧ (∀ f ∈ fs, listed.getD f.n false = true → f.n ∈ bs.map (·.1.n)) ∧ ac = putsG bs a
theorem madeG_d {fs : List FG} {B : Nat} {listed : Array Bool} {w : World} (hA : ApartG fs) : ∀ {bs : List (FG × Nat)}, (∀ p ∈ bs, p.1 ∈ fs) → (bs.map (·.1.n)).Nodup → (bs.map (·.1.d)).Nodup
  | [], _, _ => List.nodup_nil
  | p :: bs, h, hn => by
    rw [List.map_cons] at hn ⊢
    obtain ⟨h1, h2⟩ := List.nodup_cons.1 hn
    refine List.nodup_cons.2 ⟨fun hm => ?_, madeG_d (B := B) (listed := listed) (w := w) hA (fun q hq => h q (List.mem_cons_of_mem _ hq)) h2⟩
    obtain ⟨q, hq, he⟩ := List.mem_map.1 hm
    have := inj_of_nodup hA.d (h q (List.mem_cons_of_mem _ hq)) (h p (List.mem_cons_self ..)) he
    exact h1 (List.mem_map.2 ⟨q, hq, by rw [this]⟩)
def nsG (fs : List FG) : List Nat := fs.map (·.n) ++ (fs.filter (·.hs)).map (·.sn)
theorem nsG_n {fs : List FG} {f : FG} (h : f ∈ fs) : f.n ∈ nsG fs := List.mem_append.2 (.inl (List.mem_map.2 ⟨f, h, rfl⟩))
theorem nsG_s {fs : List FG} {f : FG} (h : f ∈ fs) (hs : f.hs = true) : f.sn ∈ nsG fs := List.mem_append.2 (.inr (List.mem_map.2 ⟨f, List.mem_filter.2 ⟨h, hs⟩, rfl⟩))
theorem FG.now_set {f : FG} {listed : Array Bool} {i : Nat} (h : f.hs = true → f.sn ≠ i) : f.now (listed.setIfInBounds i true) = f.now listed := by
  unfold FG.now
  cases hs : f.hs with
  | false => rfl
  | true => rw [getD_set_ne false (fun e => h hs e.symm)]
theorem wpCG_end {ns : List Nat} {ks : List Nat} {G' : Nat → Act → Prop} {L L' : Act → Fact → Prop} (hg : ∀ i a, G i a → G' i a) (h : ∀ a Φ, L a Φ → L' a Φ) : ∀ (l : List Oper) (k : Nat) (a : Act) (Φ : Fact), wpCG P ops C st G ns ks L k l a Φ → wpCG P ops C st G' ns ks L' k l a Φ
  | [], _, a, Φ, hh => h a Φ hh
  | o :: l, k, a, Φ, hh => by
    unfold wpCG at hh ⊢
    split
    · rename_i h1; rw [if_pos h1] at hh; exact ⟨hg _ _ hh.1, wpCG_end hg h l _ a Φ hh.2⟩
    · rename_i h1
      rw [if_neg h1] at hh
      split
      · rename_i h2
        rw [if_pos h2] at hh
        split
        · rename_i h3
          rw [if_pos h3] at hh
          exact fun w q1 q2 => callAt_mono (fun v w' ⟨p1, Φ', p2, p3, p4, p5⟩ => ⟨p1, Φ', p2, p3, p4, wpCG_end hg h l _ _ _ p5⟩) (hh w q1 q2)
        · rename_i h3
          rw [if_neg h3] at hh
          obtain ⟨v, p1, p2⟩ := hh
          exact ⟨v, p1, wpCG_end hg h l _ _ _ p2⟩
      · rename_i h2
        rw [if_neg h2] at hh
        exact wpCG_end hg h l _ _ _ hh
def floatGB (ops : Array Oper) (m n s : Nat) (oa : Oper) : Bool := (List.range m).all fun j => j == n || (j == s || (match ops[j]? with | some o => oa.apart ops o | none => true))
theorem floatGB_spec {m n s : Nat} {oa : Oper} (h : floatGB ops m n s oa = true) : ∀ j oj, ops[j]? = some oj → j < m → j ≠ n → j ≠ s → oa.apart ops oj = true := fun j oj hj hjm hjn hjs => by
  have := (List.all_eq_true.1 h) j (List.mem_range.2 hjm)
  simpa [hjn, hjs, hj] using this
theorem wpAny_of_cHeadG {m g B : Nat} {fs : List FG} {ks : List Nat} {L : Array Bool → Act → Fact → Prop} {Q' : Exit → Act → World → Prop} (hm : m < ops.size) (hsel : ∀ (j : Nat) (o : Oper) cs b, ops[j]? = some o → o.op ≠ .select cs b)
    (hfl : ∀ f ∈ fs, FloatsG P md ops m f) (hA : ApartG fs) (hCl : ∀ w w', C w → Below B w w' → C w') (hCB : ∀ w, C w → B ≤ w.heap.size) (hstB : ∀ Φ, st Φ → ∀ x y, Φ x → Below B x y → Φ y)
    (hL : ∀ listed a ac w Φ, HeadInv md ops m listed → C w → Φ w → L listed a Φ → tRelG fs B listed a ac w → wpAny P md ops Q' g listed ac w) :
    ∀ (f : Nat) (listed : Array Bool) (a ac : Act) (w : World) (Φ : Fact), HeadInv md ops m listed → C w → st Φ → Φ w → tRelG fs B listed a ac w → cHeadG P md ops C st (wantsG fs) (nsG fs) m ks L f listed a Φ → wpAny P md ops Q' (f + g) listed ac w := by
  intro f
  induction f with
  | zero => intro listed a ac w Φ inv hw hst hp hr h; rw [Nat.zero_add]; exact hL _ _ _ _ _ inv hw hp h hr
  | succ f ih =>
    intro listed a ac w Φ inv hw hst hp hr h
    rw [show f + 1 + g = (f + g) + 1 by omega]
    refine ⟨fun h0 => absurd h0 h.1, fun i hi => ?_⟩
    obtain ⟨him, h1⟩ := h.2 i hi
    have hun := (mem_ready.1 hi).1
    obtain ⟨bs, ⟨hbs, hnd1, hnd2⟩, hlst, hall, rfl⟩ := hr
    by_cases hin : i ∈ nsG fs
    · unfold cOpG at h1
      rw [if_pos hin] at h1
      rcases List.mem_append.1 hin with hin1 | hin2
      · obtain ⟨F, hF, rfl⟩ := List.mem_map.1 hin1
        obtain ⟨_, ⟨oa, ho, hd, hgd, hrun, _⟩, hfs⟩ := hfl F hF
        unfold wpOp
        simp only [ho]
        rw [if_pos (by simp [Region.wanted, hgd])]
        refine .inl ?_
        unfold Oper.wp
        rw [hrun]
        show wpAny P md ops Q' (f + g) (listed.setIfInBounds F.n true) ((putsG bs a).put oa.dst (.pointer (some ⟨w.heap.size, 0, none⟩))) (w.alloc (.cells F.zs F.t))
        rw [hd]
        have hba : Below B w (w.alloc (.cells F.zs F.t)) := (Below.refl _ _).alloc (hCB _ hw) _
        have hnow : F.now (listed.setIfInBounds F.n true) = F.zs := by
          unfold FG.now
          cases hs : F.hs with
          | false => rfl
          | true =>
            obtain ⟨_, hne, os, hos, _, _, _, _, ⟨e, he, hb, hen⟩, _⟩ := hfs hs
            rw [getD_set_ne false (Ne.symm hne)]
            cases hl : listed.getD F.sn false with
            | false => rfl
            | true =>
              have := inv.closed F.sn os hos hl e he hb
              rw [hen, getD_both hun] at this
              cases this
        refine ih _ a _ _ Φ (inv.set hi him) (hCl _ _ hw hba) hst (hstB _ hst _ _ hp hba) ⟨(F, w.heap.size) :: bs, ⟨fun p hp' => ?_, ?_, ?_⟩, fun p hp' => ?_, fun f' hf' hl' => ?_, rfl⟩ h1.2
        · rcases List.mem_cons.1 hp' with rfl | hp'
          · exact ⟨hF, hCB _ hw, by rw [hnow]; exact BK.new w _ _⟩
          · obtain ⟨q1, q2, q3⟩ := hbs p hp'
            exact ⟨q1, q2, by rw [FG.now_set (fun hs => hA.ns _ q1 _ hF hs)]; exact q3.alloc _⟩
        · rw [List.map_cons]
          refine List.nodup_cons.2 ⟨fun hmem => ?_, hnd1⟩
          obtain ⟨p, hp', hpe⟩ := List.mem_map.1 hmem
          have := hlst p hp'
          rw [hpe, getD_both hun] at this
          cases this
        · rw [List.map_cons]
          refine List.nodup_cons.2 ⟨fun hmem => ?_, hnd2⟩
          obtain ⟨p, hp', hpe⟩ := List.mem_map.1 hmem
          have := (hbs p hp').2.2.lt
          simp only at hpe
          omega
        · rcases List.mem_cons.1 hp' with rfl | hp'
          · simp [inv.size]; omega
          · exact getD_set_true (hlst p hp')
        · rw [List.map_cons]
          by_cases he : F.n = f'.n
          · rw [he]; exact List.mem_cons_self ..
          · rw [getD_set_ne false he] at hl'
            exact List.mem_cons_of_mem _ (hall f' hf' hl')
      · obtain ⟨F, hF, rfl⟩ := List.mem_map.1 hin2
        obtain ⟨hF, hs⟩ := List.mem_filter.1 hF
        obtain ⟨_, hne, os, hos, hdst, hgd, hsl, hxl, ⟨e, he, hb, hen⟩, hrun⟩ := (hfl F hF).2.2 hs
        obtain ⟨_, os', hos', hdone⟩ := mem_ready.1 hi
        rw [hos] at hos'
        cases hos'
        have hnl := hdone e he hb
        rw [hen] at hnl
        obtain ⟨p, hp', hpe⟩ := List.mem_map.1 (hall F hF hnl)
        obtain ⟨q1, q2, q3⟩ := hbs p hp'
        obtain ⟨F', b⟩ := p
        have hFF : F' = F := inj_of_nodup hA.n q1 hF hpe
        subst hFF
        simp only at q2 q3
        obtain ⟨hvx, hdz⟩ := h1.1 F' hF hs rfl
        have hzs : F'.now listed = F'.zs := by
          unfold FG.now
          rw [hs, getD_both hun]
          rfl
        rw [hzs] at q3
        have hd1 : (putsG bs a).eval (.tmp F'.d) = .pointer (some ⟨b, 0, none⟩) := putsG_d bs a F' b (madeG_d (B := B) (listed := listed) (w := w) hA (fun p hp => (hbs p hp).1) hnd1) hp' hdz
        have hd2 : (putsG bs a).eval (.tmp F'.x) = F'.vx := by rw [putsG_x bs a (fun p hp => hA.x _ hF _ (hbs p hp).1)]; exact hvx
        obtain ⟨w', hr1, hr2, hr3, hr4, hr5⟩ := hrun (putsG bs a) w b hd1 hd2 q3
        unfold wpOp
        simp only [hos]
        rw [if_pos (by simp [Region.wanted, hgd])]
        refine .inl ?_
        unfold Oper.wp
        rw [hr1]
        show wpAny P md ops Q' (f + g) (listed.setIfInBounds F'.sn true) ((putsG bs a).put os.dst undef) w'
        rw [hdst]
        have hbw : Below B w w' := hr3.mono q2
        refine ih _ a _ _ Φ (inv.set hi him) (hCl _ _ hw hbw) hst (hstB _ hst _ _ hp hbw) ⟨bs, ⟨fun p2 hp2 => ?_, hnd1, hnd2⟩, fun p2 hp2 => getD_set_true (hlst p2 hp2), fun f' hf' hl' => ?_, rfl⟩ h1.2
        · obtain ⟨r1, r2, r3⟩ := hbs p2 hp2
          refine ⟨r1, r2, ?_⟩
          by_cases hpb : p2.2 = b
          · have hpp : p2 = (F', b) := inj_of_nodup hnd2 hp2 hp' hpb
            subst hpp
            have hz : F'.sn < listed.size := by rw [inv.size]; omega
            have : F'.now (listed.setIfInBounds F'.sn true) = F'.cs := by
              unfold FG.now
              rw [hs]
              simp [hz]
            rw [this]
            exact hr2
          · have hps : p2.1.hs = true → p2.1.sn ≠ F'.sn := fun h1 h2 => by
              have := hA.s _ r1 _ hF h1 hs h2
              have hn : p2.1.n = (F', b).1.n := by rw [this]
              have := inj_of_nodup hnd1 hp2 hp' hn
              rw [this] at hpb
              exact hpb rfl
            rw [FG.now_set hps]
            exact r3.same (hr5 _ hpb)
        · rw [getD_set_ne false (fun e => hA.ns _ hF _ hf' hs e)] at hl'
          exact hall f' hf' hl'
    · have key : ∀ a' w' Φ', C w' → st Φ' → Φ' w' → Below w.heap.size w w' → cHeadG P md ops C st (wantsG fs) (nsG fs) m ks L f (listed.setIfInBounds i true) a' Φ' → wpAny P md ops Q' (f + g) (listed.setIfInBounds i true) (putsG bs a') w' := by
        intro a' w' Φ' hw' hst' hp' hb h2
        refine ih _ a' _ w' Φ' (inv.set hi him) hw' hst' hp' ⟨bs, ⟨fun p hp => ?_, hnd1, hnd2⟩, fun p hp => getD_set_true (hlst p hp), fun f' hf' hl' => ?_, rfl⟩ h2
        · obtain ⟨q1, q2, q3⟩ := hbs p hp
          exact ⟨q1, q2, by rw [FG.now_set (fun hs e => hin (by rw [← e]; exact nsG_s q1 hs))]; exact q3.below hb q3.lt⟩
        · rw [getD_set_ne false (fun e : i = f'.n => hin (by rw [e]; exact nsG_n hf'))] at hl'
          exact hall f' hf' hl'
      unfold cOpG at h1
      rw [if_neg hin] at h1
      unfold wpOp
      cases ho : ops[i]? with
      | none =>
        simp only [ho] at h1 ⊢
        exact key a w Φ hw hst hp (Below.refl _ _) h1
      | some o =>
        simp only [ho] at h1 ⊢
        have hapart : ∀ p ∈ bs, p.1.d ∉ o.looksAt ops ∧ o.dst ≠ some p.1.d := fun p hp => by
          obtain ⟨q1, _, _⟩ := hbs p hp
          obtain ⟨_, ⟨oa, _, hd, _, _, hap⟩, _⟩ := hfl p.1 q1
          obtain ⟨p1, p2, _⟩ := Oper.apart_spec (hap i o ho him (fun e => hin (by rw [e]; exact nsG_n q1)) (fun hs e => hin (by rw [e]; exact nsG_s q1 hs)))
          exact ⟨p1 _ hd, p2 _ hd⟩
        have hpe : execOp (putsG bs a).eval o = execOp a.eval o := putsG_exec (fun cs q => hsel i o cs q ho) bs a (fun p hp => (hapart p hp).1)
        have hpw : Region.wanted o (yielded ops (putsG bs a).tmps) = Region.wanted o (yielded ops a.tmps) := putsG_wanted bs a (fun p hp => (hapart p hp).1)
        have hpp : ∀ v, putsG bs (a.put o.dst v) = (putsG bs a).put o.dst v := fun v => putsG_put bs a (fun p hp => (hapart p hp).2)
        rw [hpw]
        by_cases hw' : Region.wanted o (yielded ops a.tmps) = true
        · rw [if_pos hw'] at h1 ⊢
          refine .inl ?_
          by_cases hik : i ∈ ks
          · rw [if_pos hik] at h1
            have h2 := h1 w hw hp
            unfold callAt at h2
            rw [← hpe] at h2
            refine wp_of_call (P := P) (o := o) (a := putsG bs a) h2 (fun v w' ⟨q1, Φ', q2, q3, q4, q5⟩ => ?_)
            rw [← hpp v]
            exact key _ w' Φ' (hCl _ _ hw (q1.mono (hCB _ hw))) q2 q4 q1 q5
          · rw [if_neg hik] at h1
            obtain ⟨v, h2, h3⟩ := h1
            have h4 := h2 w hw
            unfold qAt at h4
            rw [← hpe] at h4
            refine wp_of_q (P := P) (o := o) (a := putsG bs a) h4 ?_
            rw [← hpp v]
            exact key _ w Φ hw hst hp (Below.refl _ _) h3
        · rw [if_neg hw'] at h1 ⊢
          rw [← hpp undef]
          exact key _ w Φ hw hst hp (Below.refl _ _) h1
theorem wp_region_chG {id : Nat} {Q : Exit → Act → World → Prop} {a : Act} {w : World} {l : List Oper} (m : Nat) (fs : List FG) (ks : List Nat) (hm : P.follows .mixedOrders = true)
    (hB : okB .any l.toArray m ks = true) (hfl : ∀ f ∈ fs, FloatsG P .any l.toArray m f) (hA : ApartG fs)
    (h : wpCG P l.toArray (fun w' => ∃ p : Regrown, w' = grow (redrawn w p.d) p.os) (fun Φ => ∀ x y, Φ x → Below w.heap.size x y → Φ y) (wantsG fs) (nsG fs) ks (fun a' Φ => ∀ w', Below w.heap.size w w' → Φ w' → ∀ bs, madeG fs w.heap.size (Array.replicate l.toArray.size true) w' bs → (∀ f ∈ fs, f.n ∈ bs.map (·.1.n)) → wpList P l.toArray Q (l.drop m) (putsG bs a') w') 0 (l.take m) a (fun _ => True)) :
    (Code.region id l.toArray true).wp P Q a w := by
  simp only [okB, Region.lexTailB, Bool.and_eq_true, decide_eq_true_eq] at hB
  obtain ⟨⟨⟨⟨⟨hsel, hn⟩, hs⟩, hc⟩, hlex⟩, hch, hin⟩ := hB
  have hn' : m < l.length := by simpa using hn
  have htl : (l.take m).length = m := by simp; omega
  have hdl : (l.drop m).length = l.toArray.size - m := by simp
  have hCl : ∀ w1 w2 : World, (∃ p : Regrown, w1 = grow (redrawn w p.d) p.os) → Below w.heap.size w1 w2 → ∃ p : Regrown, w2 = grow (redrawn w p.d) p.os :=
    fun w1 w2 ⟨p, hp⟩ hb => by subst hp; exact regrown_of_below ((below_regrown w p.d p.os).trans hb)
  have hCB : ∀ w1 : World, (∃ p : Regrown, w1 = grow (redrawn w p.d) p.os) → w.heap.size ≤ w1.heap.size := fun w1 ⟨p, hp⟩ => by subst hp; exact (below_regrown w p.d p.os).size
  have inv0 : HeadInv .any l.toArray m (Array.replicate l.toArray.size false) :=
    ⟨by simp, fun j oj _ hl => (by rw [getD_replicate_false] at hl; cases hl), fun t _ ht => getD_in (by simpa using ht) (getD_replicate_false _ _)⟩
  have H := cHeadG_lex (md := .any) (g := l.toArray.size - m) (wantsG_put hfl) (fun w1 w2 hc hb => hCl w1 w2 hc (hb.mono (hCB w1 hc))) hsel hs hc hn hch (incr_nodup ks hin) (incr_sort ks hin) (l.take m) 0 _ a (fun _ => True) (fun j hj => by
    have hj' : j < m := by rw [htl] at hj; exact hj
    simp [hj']) (by simpa using htl) inv0 (fun _ _ _ _ => trivial) ⟨w, ⟨⟨w.drawn, #[]⟩, by rw [grow_empty]; rfl⟩, trivial⟩ (fun j hj => by omega) (by rw [htl]; exact hlex) h
  refine wp_region_any hm ?_
  have := wpAny_of_cHeadG (Q' := Q) (g := l.toArray.size - m) (B := w.heap.size) hn (Region.noSelect_spec hsel) hfl hA hCl hCB (fun Φ h x y => h x y) 
    (fun listed a' ac w' Φ inv hw' hp hL hr => by
      obtain ⟨hL1, hL2⟩ := hL
      obtain ⟨p, hp'⟩ := hw'
      obtain ⟨bs, hmade, _, hall, rfl⟩ := hr
      have hdone : ∀ i, i < m → listed.getD i false = true := fun i hi => by
        cases e : listed.getD i false with
        | true => rfl
        | false =>
          exfalso
          have hun : listed.getD i true = false := getD_in (by have := inv.size; omega) e
          have hB1 := hL1
          have hsz : l.toArray.size - m = (l.toArray.size - (m + 1)) + 1 := by omega
          rw [hsz] at hB1
          simp only [Region.seqB, Bool.and_eq_true, decide_eq_true_eq] at hB1
          exact tail_waits hs hc hn inv _ i rfl hi hun m (Nat.le_refl _) (by rw [hB1.1]; simp)
      have hin : ∀ f ∈ fs, f.n ∈ bs.map (·.1.n) := fun f hf => hall f hf (hdone _ (hfl f hf).1)
      have hmade' : madeG fs w.heap.size (Array.replicate l.toArray.size true) w' bs := by
        refine ⟨fun p hp => ?_, hmade.2⟩
        obtain ⟨q1, q2, q3⟩ := hmade.1 p hp
        refine ⟨q1, q2, ?_⟩
        have : p.1.now (Array.replicate l.toArray.size true) = p.1.now listed := by
          unfold FG.now
          cases hs : p.1.hs with
          | false => rfl
          | true =>
            have h1 := ((hfl _ q1).2.2 hs).1
            rw [hdone _ h1]
            have h2 : p.1.sn < l.length := by omega
            simp [h2]
        rw [this]
        exact q3
      have := wpAny_of_seq (md := .any) (Q' := Q) (l.drop m) m listed (putsG bs a') w' (fun j => by simp [List.getElem?_drop]) (by rw [hdl]; exact hL1) (hL2 w' (by rw [hp']; exact below_regrown w p.d p.os) hp bs hmade' hin)
      rwa [hdl] at this) _ _ _ _ _ (fun _ => True) inv0 ⟨⟨w.drawn + 1, #[]⟩, by rw [grow_empty]⟩ (fun _ _ _ _ => trivial) trivial ⟨[], ⟨fun p hp => (by cases hp), List.nodup_nil, List.nodup_nil⟩, fun p hp => (by cases hp), fun f _ hl => (by rw [getD_replicate_false] at hl; cases hl), rfl⟩ H
  rw [htl, show m + (l.toArray.size - m) = l.toArray.size by omega] at this
  exact this
section
variable {lp mr : Nat}
end

/-! ### Steps -/
variable {k : Nat} {ns ks : List Nat} {Lq : Act → Fact → Prop} {o : Oper} {rest : List Oper} {a : Act} {Φ : Fact}
theorem wpCG_nil (h : Lq a Φ) : wpCG P ops C st G ns ks Lq k [] a Φ := h
theorem wpCG_q (h1 : k ∉ ns) (h2 : k ∉ ks) (h : ∀ K : Act → Prop, (∀ a, wpCG P ops C st G ns ks Lq (k + 1) rest a Φ → K a) → if Region.wanted o (yielded ops a.tmps) then (∃ v, (∀ w, C w → qAt P o a w v) ∧ K (a.put o.dst v)) else K (a.put o.dst undef)) :
    wpCG P ops C st G ns ks Lq k (o :: rest) a Φ := by
  unfold wpCG
  rw [if_neg h1]
  have := h _ (fun _ h => h)
  by_cases hw : Region.wanted o (yielded ops a.tmps) = true
  · rw [if_pos hw] at this
    rw [if_pos hw, if_neg h2]
    exact this
  · rw [if_neg hw] at this
    rw [if_neg hw]
    exact this
theorem wpCG_a (h1 : k ∈ ns) (hg : G k a) (h : wpCG P ops C st G ns ks Lq (k + 1) rest a Φ) : wpCG P ops C st G ns ks Lq k (o :: rest) a Φ := by
  unfold wpCG
  rw [if_pos h1]
  exact ⟨hg, h⟩
/-- A call that leaves old memory, of whose memory nothing is asked. -/
theorem wpCG_c {ι : Type} (f : FuncId) (args : Array Value) (v : ι → Value) (h1 : k ∉ ns) (h2 : k ∈ ks) (hg : Region.wanted o (yielded ops a.tmps) = true) (hx : ∀ w, (execOp a.eval o).run P w = .ok (.enter f args) w) (hst : st Φ) (hcl : ∀ w w', Φ w → Below w.heap.size w w' → Φ w')
    (hc : ∀ w, C w → Φ w → Calls P f args w (fun e w' => ∃ i, e = .returned (v i) ∧ Below w.heap.size w w')) (h : ∀ i, wpCG P ops C st G ns ks Lq (k + 1) rest (a.put o.dst (v i)) Φ) :
    wpCG P ops C st G ns ks Lq k (o :: rest) a Φ := by
  unfold wpCG
  rw [if_neg h1, if_pos hg, if_pos h2]
  intro w hw hp
  unfold callAt
  rw [hx]
  refine ⟨rfl, (hc w hw hp).mono ?_⟩
  rintro e w' ⟨i, rfl, h4⟩
  exact ⟨_, rfl, h4, Φ, hst, fun _ h => h, hcl _ _ hp h4, h i⟩
end
end Go.Proofs.YtnmipejpjeakbaaGreatDoor
