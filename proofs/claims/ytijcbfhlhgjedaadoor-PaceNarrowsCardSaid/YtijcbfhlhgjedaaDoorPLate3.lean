/- The document's plan and the plan: plain: late at the start, the greatest trigger. No program in sight. -/
import Derived.Test.YtijcbfhlhgjedaaDoorPRMtr
namespace Go.Proofs.YtijcbfhlhgjedaaDoor
open Go.RowKit Go.Shelf Go.Sort Go.Proofs

end Go.Proofs.YtijcbfhlhgjedaaDoor

/- A good plan as the document says it: plain. No program in sight. -/
namespace Go.Proofs.YtijcbfhlhgjedaaDoor
open Go.RowKit Go.Shelf Go.Sort Go.Proofs

end Go.Proofs.YtijcbfhlhgjedaaDoor

/- The latest plan is good, no good plan has a greater trigger, and where there is none no plan is good: plain. No program in sight. -/
namespace Go.Proofs.YtijcbfhlhgjedaaDoor
open Go.RowKit Go.Shelf Go.Sort Go.Proofs

/-- A meter of a road takes some time. -/
theorem meter_at {S : Spd} {R : Road} (hS : SOK S) (hv : OK R) {k : Nat} (hk : (k : Int) < sumL R.ps) : ∃ p, pOk p = true ∧ (units R.ps)[k]? = some (one p) ∧ (0 ≤ mQ S (one p) ∧ mQ S (one p) ≤ 10000000) ∧ 1 ≤ mSl S (one p) ∧ mSl S (one p) ≤ 10000700 := by
  obtain ⟨i, hat⟩ := at_ex (ps := R.ps) (x := (k : Int)) (by omega) hk
  have hpi := List.getElem?_eq_getElem hat.1
  have hux := at_units (fun q hq => by have := pOk_len (hv.pk q hq); omega) (by omega) hat hpi
  rw [Int.toNat_natCast] at hux
  have hp := hv.pk _ (List.getElem_mem hat.1)
  refine ⟨_, hp, hux, ?_⟩
  rw [mQ_one, mSl_one]
  exact ⟨mQ_bd hS hp, mSl_bd hS hp⟩
theorem tQS_up {S : Spd} {R : Road} (hS : SOK S) (hv : OK R) {a : Nat} : ∀ d : Nat, ((a + d : Nat) : Int) ≤ sumL R.ps → tQ S R.ps a ≤ tQ S R.ps (a + d) ∧ tSl S R.ps a ≤ tSl S R.ps (a + d)
  | 0, _ => ⟨Int.le_refl _, Int.le_refl _⟩
  | d + 1, h => by
    obtain ⟨p, _, h1, h2, h3, _⟩ := meter_at hS hv (k := a + d) (by omega)
    have h4 := tQS_up hS hv (a := a) d (by omega)
    rw [← Nat.add_assoc, tQ_succ S R.ps h1, tSl_succ S R.ps h1]
    omega
theorem tQ_up {S : Spd} {R : Road} (hS : SOK S) (hv : OK R) {a b : Nat} (h : a ≤ b) (hb : (b : Int) ≤ sumL R.ps) : tQ S R.ps a ≤ tQ S R.ps b := by
  have := (tQS_up hS hv (a := a) (b - a) (by omega)).1
  rwa [show a + (b - a) = b by omega] at this
end Go.Proofs.YtijcbfhlhgjedaaDoor
