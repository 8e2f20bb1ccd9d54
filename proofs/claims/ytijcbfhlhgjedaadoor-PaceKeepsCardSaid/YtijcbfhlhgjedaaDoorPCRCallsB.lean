/- The document's test of calls: which calls are as defined. -/
import Derived.Test.YtijcbfhlhgjedaaDoorPCCallsB
import Derived.Test.YtijcbfhlhgjedaaDoorPCRef3
import Derived.Test.YtijcbfhlhgjedaaDoorPCSpd
import Derived.Test.YtijcbfhlhgjedaaDoorPCBBase
import Derived.Test.YtijcbfhlhgjedaaDoorPCBRoad
import Derived.Test.YtijcbfhlhgjedaaDoorPCBLeaf
import Derived.Test.YtijcbfhlhgjedaaDoorPCBCheck
import Derived.Test.YtijcbfhlhgjedaaDoorPCBValid
import Derived.Test.YtijcbfhlhgjedaaDoorPCBFind
import Derived.Test.YtijcbfhlhgjedaaDoorPCBReg
import Derived.Test.YtijcbfhlhgjedaaDoorPCBGrouped
import Derived.Test.YtijcbfhlhgjedaaDoorPCBPG
import Derived.Test.YtijcbfhlhgjedaaDoorPCBBackM
import Derived.Test.YtijcbfhlhgjedaaDoorPCBStr
import Derived.Test.YtijcbfhlhgjedaaDoorPCBOpen
import Derived.Test.YtijcbfhlhgjedaaDoorPCBReg7
import Derived.Test.YtijcbfhlhgjedaaDoorPCPRow
import Derived.Test.YtijcbfhlhgjedaaDoorPCMtr
import Derived.Test.YtijcbfhlhgjedaaDoorPCReg8
import Derived.Test.YtijcbfhlhgjedaaDoorPCSpCk
import Derived.Test.YtijcbfhlhgjedaaDoorPCPlanM
import Derived.Test.YtijcbfhlhgjedaaDoorPCLast
import Derived.Test.YtijcbfhlhgjedaaDoorPCBeg
import Derived.Test.YtijcbfhlhgjedaaDoorPCBegB
import Derived.Test.YtijcbfhlhgjedaaDoorPCRoom
import Derived.Test.YtijcbfhlhgjedaaDoorPCPlan
import Derived.Test.YtijcbfhlhgjedaaDoorPCBetw
import Derived.Test.YtijcbfhlhgjedaaDoorPCKn03P
namespace Go.Proofs.YtijcbfhlhgjedaaDoor
open Go.RowKit Go.Shelf Go.Sort Go.Proofs

section
variable {P : Program} {ops : Array Oper} {C : World → Prop} {k : Nat} {ns ks : List Nat} {Lq : Act → Fact → Prop} {o : Oper} {rest : List Oper} {a : Act} {Φ : Fact}
/-- An operation of the chain that is no call of a function, with a guard that holds. -/
theorem wpC_vg {ι : Type} (v : ι → Value) (G : ι → Fact) (h1 : k ∉ ns) (h2 : k ∈ ks) (hg : Region.wanted o (yielded ops a.tmps) = true) (hst : stable Φ) (hG : ∀ i, stable (G i))
    (hc : ∀ w, C w → Φ w → ∃ i w', (execOp a.eval o).run P w = .ok (.value (v i)) w' ∧ G i w' ∧ Below w.heap.size w w') (h : ∀ i, stable (fun x => Φ x ∧ G i x) → wpC P ops C ns ks Lq (k + 1) rest (a.put o.dst (v i)) (fun x => Φ x ∧ G i x)) :
    wpC P ops C ns ks Lq k (o :: rest) a Φ := by
  unfold wpC
  rw [if_neg h1, if_pos hg, if_pos h2]
  intro w hw hp
  unfold callAt
  obtain ⟨i, w', hx, h3, h4⟩ := hc w hw hp
  rw [hx]
  have hs : stable (fun x => Φ x ∧ G i x) := fun x y hxy hb => ⟨hst x y hxy.1 hb, hG i x y hxy.2 hb⟩
  exact ⟨h4, _, hs, fun x hx => hx.1, ⟨hst w w' hp h4, h3⟩, h i hs⟩
end
theorem in3_bel (x lo hi : Int) (w : World) :
    Calls Tryd.prog 65 #[.int .i64 x, .int .i64 lo, .int .i64 hi] w fun e w' => e = .returned (.bool (inR x lo hi)) ∧ Below w.heap.size w w' :=
  (in3_any x lo hi w).mono fun _ _ ⟨a, b⟩ => ⟨a, b ▸ Below.refl _ _⟩
end Go.Proofs.YtijcbfhlhgjedaaDoor

/- The document's times: plain numbers: the row by counting up, the meter at a place, few. No program in sight. -/
namespace Go.Proofs.YtijcbfhlhgjedaaDoor
open Go.RowKit Go.Shelf Go.Sort Go.Proofs

/-- The lengths that count. -/
def fLen (ps : List Piece) : Int := (ps.map fun p => if 0 < p.len ∧ p.len ≤ 5000 then p.len else 0).sum
theorem fLen_snoc (ps : List Piece) (p : Piece) : fLen (ps ++ [p]) = fLen ps + if 0 < p.len ∧ p.len ≤ 5000 then p.len else 0 := by simp [fLen]
theorem fLen_bd : ∀ ps : List Piece, 0 ≤ fLen ps ∧ fLen ps ≤ 5000 * (ps.length : Int)
  | [] => by simp [fLen]
  | p :: ps => by
    have ih := fLen_bd ps
    have e : fLen (p :: ps) = (if 0 < p.len ∧ p.len ≤ 5000 then p.len else 0) + fLen ps := by simp [fLen]
    rw [e, List.length_cons]
    split <;> omega
/-- A short road, without too much. -/
def fewB (R : Road) : Bool := decide (fLen R.ps ≤ 120) && (decide (R.ps.length ≤ 60) && (decide (R.cs.length ≤ 40) && decide (R.js.length ≤ 40)))
def quickB (S : Spd) : Bool := decide (S.rows.length ≤ 40) && decide (S.surf.length ≤ 20)
end Go.Proofs.YtijcbfhlhgjedaaDoor

/- The document's times: meter and Between. -/
namespace Go.Proofs.YtijcbfhlhgjedaaDoor
open Go.RowKit Go.Shelf Go.Sort Go.Proofs

theorem at_ex {ps : List Piece} {x : Int} (h0 : 0 ≤ x) (h1 : x < sumL ps) : ∃ i, At ps x i := by
  have key : ∀ k, k ≤ ps.length → x < sumL (ps.take k) → ∃ i, At ps x i := by
    intro k
    induction k with
    | zero => intro _ hx; simp [sumL] at hx; omega
    | succ k ih =>
      intro hk hx
      by_cases hy : x < sumL (ps.take k)
      · exact ih (by omega) hy
      · exact ⟨k, by omega, by omega, hx⟩
  exact key ps.length (Nat.le_refl _) (by rw [List.take_length]; exact h1)
end Go.Proofs.YtijcbfhlhgjedaaDoor

/- The document's plan and the plan: plain: late at the start, the greatest trigger. No program in sight. -/
namespace Go.Proofs.YtijcbfhlhgjedaaDoor
open Go.RowKit Go.Shelf Go.Sort Go.Proofs

end Go.Proofs.YtijcbfhlhgjedaaDoor

/- A good plan as the document says it: plain. No program in sight. -/
namespace Go.Proofs.YtijcbfhlhgjedaaDoor
open Go.RowKit Go.Shelf Go.Sort Go.Proofs

end Go.Proofs.YtijcbfhlhgjedaaDoor

/- The latest plan is good, no good plan has a greater trigger, and where there is none no plan is good: plain. No program in sight. -/
namespace Go.Proofs.YtijcbfhlhgjedaaDoor
open Go.RowKit Go.Shelf Go.Sort Go.Proofs

/-- A meter of a road takes some time. -/
theorem meter_at {S : Spd} {R : Road} (hS : SOK S) (hv : OK R) {k : Nat} (hk : (k : Int) < sumL R.ps) : ∃ p, pOk p = true ∧ (units R.ps)[k]? = some (one p) ∧ (0 ≤ mQ S (one p) ∧ mQ S (one p) ≤ 10000000) ∧ 1 ≤ mSl S (one p) ∧ mSl S (one p) ≤ 10000700 := by
  obtain ⟨i, hat⟩ := at_ex (ps := R.ps) (x := (k : Int)) (by omega) hk
  have hpi := List.getElem?_eq_getElem hat.1
  have hux := at_units (fun q hq => by have := pOk_len (hv.pk q hq); omega) (by omega) hat hpi
  rw [Int.toNat_natCast] at hux
  have hp := hv.pk _ (List.getElem_mem hat.1)
  refine ⟨_, hp, hux, ?_⟩
  rw [mQ_one, mSl_one]
  exact ⟨mQ_bd hS hp, mSl_bd hS hp⟩
theorem tQS_up {S : Spd} {R : Road} (hS : SOK S) (hv : OK R) {a : Nat} : ∀ d : Nat, ((a + d : Nat) : Int) ≤ sumL R.ps → tQ S R.ps a ≤ tQ S R.ps (a + d) ∧ tSl S R.ps a ≤ tSl S R.ps (a + d)
  | 0, _ => ⟨Int.le_refl _, Int.le_refl _⟩
  | d + 1, h => by
    obtain ⟨p, _, h1, h2, h3, _⟩ := meter_at hS hv (k := a + d) (by omega)
    have h4 := tQS_up hS hv (a := a) d (by omega)
    rw [← Nat.add_assoc, tQ_succ S R.ps h1, tSl_succ S R.ps h1]
    omega
theorem tQ_up {S : Spd} {R : Road} (hS : SOK S) (hv : OK R) {a b : Nat} (h : a ≤ b) (hb : (b : Int) ≤ sumL R.ps) : tQ S R.ps a ≤ tQ S R.ps b := by
  have := (tQS_up hS hv (a := a) (b - a) (by omega)).1
  rwa [show a + (b - a) = b by omega] at this
end Go.Proofs.YtijcbfhlhgjedaaDoor

/- A track of which only its length is known: place, calls, triggers. -/
namespace Go.Proofs.YtijcbfhlhgjedaaDoor
open Go.RowKit Go.Shelf Go.Sort Go.Proofs

structure TL (w : World) (B g : Nat) (ta : Option Addr) (tc N : Nat) : Prop where
  lt : g < B
  c3 : w.cell? ⟨g, 3, none⟩ = some (.slice ta (N + 1) tc)
theorem TL.grow {w w' : World} {B B' g : Nat} {ta : Option Addr} {tc N : Nat} (h : TL w B g ta tc N) (hb : Below B w w') (hB : B ≤ B') : TL w' B' g ta tc N :=
  ⟨Nat.lt_of_lt_of_le h.lt hB, (hb.cell (p := ⟨g, 3, none⟩) h.lt).trans h.c3⟩
end Go.Proofs.YtijcbfhlhgjedaaDoor

/- pace.Said: when each call ends. -/
namespace Go.Proofs.YtijcbfhlhgjedaaDoor
open Go.RowKit Go.Shelf Go.Sort Go.Proofs

attribute [local go_sem] Oper.semAt_some

end Go.Proofs.YtijcbfhlhgjedaaDoor
