/- A region whose head makes three blocks, beside calls (x, y, z := three calls' results). A plain theorem over any program. -/
import Derived.Test.YtafclpmnpamipaaGreatQReg
namespace Go.Proofs.YtafclpmnpamipaaGreat
open Go.RowKit Go.Sort

section
variable {P : Program}
variable {ops : Array Oper} {C : World → Prop} {k : Nat} {ns ks : List Nat} {Lq : Act → Fact → Prop} {o : Oper} {rest : List Oper} {a : Act} {Φ : Fact}
/-- An operation of the chain whose guard fails is passed over. -/
theorem wpC_off (h1 : k ∉ ns) (hg : Region.wanted o (yielded ops a.tmps) = false) (h : wpC P ops C ns ks Lq (k + 1) rest (a.put o.dst undef) Φ) : wpC P ops C ns ks Lq k (o :: rest) a Φ := by
  unfold wpC
  rw [if_neg h1, if_neg (by rw [hg]; decide)]
  exact h
end
end Go.Proofs.YtafclpmnpamipaaGreat
