/- A value in the chain of a drawn region, wanted at its turn. -/
import Derived.Test.YtafclpmnpamipaaGreatQAppS
import Derived.Test.YtafclpmnpamipaaGreatQCorn
import Derived.Test.YtafclpmnpamipaaGreatQValid
import Derived.Test.YtafclpmnpamipaaGreatQOpen
import Derived.Test.YtafclpmnpamipaaGreatQReg8
import Derived.Test.YtafclpmnpamipaaGreatQFind
import Derived.Test.YtafclpmnpamipaaGreatQReg
import Derived.Test.YtafclpmnpamipaaGreatQReg7
import Derived.Test.YtafclpmnpamipaaGreatQStr1
namespace Go.Proofs.YtafclpmnpamipaaGreat
open Go.RowKit Go.Shelf Go.Sort Go.Proofs
section
variable {P : Program} {ops : Array Oper} {C : World → Prop} {k : Nat} {ns ks : List Nat} {Lq : Act → Fact → Prop} {o : Oper} {rest : List Oper} {a : Act} {Φ : Fact}
/-- An operation of the chain that is no call of a function, with a guard that holds. -/
theorem wpC_vg {ι : Type} (v : ι → Value) (G : ι → Fact) (h1 : k ∉ ns) (h2 : k ∈ ks) (hg : Region.wanted o (yielded ops a.tmps) = true) (hst : stable Φ) (hG : ∀ i, stable (G i))
    (hc : ∀ w, C w → Φ w → ∃ i w', (execOp a.eval o).run P w = .ok (.value (v i)) w' ∧ G i w' ∧ Below w.heap.size w w') (h : ∀ i, stable (fun x => Φ x ∧ G i x) → wpC P ops C ns ks Lq (k + 1) rest (a.put o.dst (v i)) (fun x => Φ x ∧ G i x)) :
    wpC P ops C ns ks Lq k (o :: rest) a Φ := by
  unfold wpC
  rw [if_neg h1, if_pos hg, if_pos h2]
  intro w hw hp
  unfold callAt
  obtain ⟨i, w', hx, h3, h4⟩ := hc w hw hp
  rw [hx]
  have hs : stable (fun x => Φ x ∧ G i x) := fun x y hxy hb => ⟨hst x y hxy.1 hb, hG i x y hxy.2 hb⟩
  exact ⟨h4, _, hs, fun x hx => hx.1, ⟨hst w w' hp h4, h3⟩, h i hs⟩
end
end Go.Proofs.YtafclpmnpamipaaGreat
