/- The chapter's examples of plans: plain numbers. -/
import Derived.Test.YtijcbfhlhgjedaaDoorPCPlan
import Derived.Test.YtijcbfhlhgjedaaDoorPCPlanM
import Derived.Test.YtijcbfhlhgjedaaDoorPCBetw
import Derived.Test.YtijcbfhlhgjedaaDoorPCSpd
import Derived.Test.YtijcbfhlhgjedaaDoorPCBBase
import Derived.Test.YtijcbfhlhgjedaaDoorPCBRoad
import Derived.Test.YtijcbfhlhgjedaaDoorPCBLeaf
import Derived.Test.YtijcbfhlhgjedaaDoorPCBCheck
import Derived.Test.YtijcbfhlhgjedaaDoorPCBValid
import Derived.Test.YtijcbfhlhgjedaaDoorPCBFind
import Derived.Test.YtijcbfhlhgjedaaDoorPCBReg
import Derived.Test.YtijcbfhlhgjedaaDoorPCBGrouped
import Derived.Test.YtijcbfhlhgjedaaDoorPCBPG
import Derived.Test.YtijcbfhlhgjedaaDoorPCBBackM
import Derived.Test.YtijcbfhlhgjedaaDoorPCBStr
import Derived.Test.YtijcbfhlhgjedaaDoorPCBOpen
import Derived.Test.YtijcbfhlhgjedaaDoorPCBReg7
import Derived.Test.YtijcbfhlhgjedaaDoorPCPRow
import Derived.Test.YtijcbfhlhgjedaaDoorPCMtr
import Derived.Test.YtijcbfhlhgjedaaDoorPCReg8
import Derived.Test.YtijcbfhlhgjedaaDoorPCSpCk
import Derived.Test.YtijcbfhlhgjedaaDoorPCLast
import Derived.Test.YtijcbfhlhgjedaaDoorPCBeg
import Derived.Test.YtijcbfhlhgjedaaDoorPCBegB
import Derived.Test.YtijcbfhlhgjedaaDoorPCRoom
import Derived.Test.YtijcbfhlhgjedaaDoorPCCallsB
import Derived.Test.YtijcbfhlhgjedaaDoorPCRef3
import Derived.Test.YtijcbfhlhgjedaaDoorPCRCallsB
namespace Go.Proofs.YtijcbfhlhgjedaaDoor
open Go.RowKit Go.Shelf Go.Sort Go.Proofs

theorem tQ_part (S : Spd) (p : Piece) (k : Nat) (h : (k : Int) ≤ p.len) : tQ S [p] k = k * mQ S p ∧ tSl S [p] k = k * mSl S p := by
  unfold tQ tSl
  rw [units_one, List.take_replicate, Nat.min_eq_left (by omega), List.map_replicate, List.map_replicate]
  have key : ∀ (n : Nat) (a : Int), (List.replicate n a).sum = n * a := by
    intro n a
    induction n with
    | zero => simp
    | succ n ih => rw [List.replicate_succ, List.sum_cons, ih, Int.natCast_add, Int.add_mul]; simp; omega
  rw [key, key, mQ_one, mSl_one]
  exact ⟨rfl, rfl⟩
theorem kQ (k : Nat) (h : k ≤ 1000) : tQ kS kR.ps k = 50000 * k ∧ tSl kS kR.ps k = 100000 * k := by
  have := tQ_part kS ⟨1000, 0, 0, 50, 1⟩ k (by show (k : Int) ≤ 1000; omega)
  have e1 : mQ kS ⟨1000, 0, 0, 50, 1⟩ = 50000 := by decide
  have e2 : mSl kS ⟨1000, 0, 0, 50, 1⟩ = 100000 := by decide
  rw [e1, e2] at this
  exact ⟨by show tQ kS [_] k = _; rw [this.1]; omega, by show tSl kS [_] k = _; rw [this.2]; omega⟩
theorem kq (k : Nat) (h : k ≤ 1000) : qS kS kR (k : Int) = 50000 * k := (kQ k h).1
theorem ks (k : Nat) (h : k ≤ 1000) : sS kS kR (k : Int) = 100000 * k := (kQ k h).2
def kC1 : CallR := ⟨500, 2000000, 1000000, 20000000, 0⟩
def kC2 : CallR := ⟨600, 2000000, 1000000, 20000000, 0⟩
def kC3 : CallR := ⟨10, 1000000, 0, 0, 0⟩
theorem kL (room : Int) (c : CallR) (cs : List CallR) (n k : Nat) (hr : roomM (qS kS kR) (c :: cs) = room) (hp : c.place = n) (hn : n ≤ 1000) (hk : k ≤ n) (h1 : 50000 * (k : Int) ≤ room) (h2 : room < 50000 * ((k : Int) + 1)) : trigM (qS kS kR) c cs = k := by
  unfold trigM
  rw [hr, hp, Int.toNat_natCast]
  refine lastN_eq hk ?_ (fun j hj hjn => ?_)
  · rw [kq k (by omega)]; simpa using h1
  · rw [kq j (by omega)]; simp; omega
theorem kR2 : rvs (qS kS kR) 0 [kC2] = [27000000] := by
  have e : qS kS kR 600 = 30000000 := (kq 600 (by omega)).trans (by decide)
  simp only [rvs, kC2, e]; rfl
theorem kR1 : rvs (qS kS kR) 0 [kC1, kC2] = [22000000, 25000000] := by
  have e : qS kS kR 600 = 30000000 := (kq 600 (by omega)).trans (by decide)
  have e1 : qS kS kR 500 = 25000000 := (kq 500 (by omega)).trans (by decide)
  simp only [rvs, kC1, kC2, e, e1]; rfl
theorem kR3 : rvs (qS kS kR) 0 [kC3] = [-500000] := by
  have e : qS kS kR 10 = 500000 := (kq 10 (by omega)).trans (by decide)
  simp only [rvs, kC3, e]; rfl
theorem kPlan1 : planR (qS kS kR) (sS kS kR) [kC1, kC2] = ([440, 540], ⟨0, 0, false⟩, 0) := by
  have l1 : lateM (qS kS kR) [kC1, kC2] = none := by unfold lateM; rw [kR1]; decide
  have l2 : lateM (qS kS kR) [kC2] = none := by unfold lateM; rw [kR2]; decide
  have r1 : roomM (qS kS kR) [kC1, kC2] = 22000000 := by unfold roomM; rw [kR1]; decide
  have r2 : roomM (qS kS kR) [kC2] = 27000000 := by unfold roomM; rw [kR2]; decide
  have t1 : trigM (qS kS kR) kC1 [kC2] = 440 := kL 22000000 kC1 [kC2] 500 440 r1 rfl (by omega) (by omega) (by omega) (by omega)
  have t2 : trigM (qS kS kR) kC2 [] = 540 := kL 27000000 kC2 [] 600 540 r2 rfl (by omega) (by omega) (by omega) (by omega)
  have s1 : sS kS kR 440 = 44000000 := (ks 440 (by omega)).trans (by decide)
  have s2 : sS kS kR 500 = 50000000 := (ks 500 (by omega)).trans (by decide)
  have s3 : sS kS kR 540 = 54000000 := (ks 540 (by omega)).trans (by decide)
  have s4 : sS kS kR 600 = 60000000 := (ks 600 (by omega)).trans (by decide)
  have a2 : planA (qS kS kR) (sS kS kR) 1 [kC2] = .inr ([540], none) := by
    simp only [planA, l2, t2]
    rw [if_neg (by rw [show ((540 : Nat) : Int) = 540 from rfl, show kC2.place = 600 from rfl, s3, s4]; decide)]
    rfl
  have a1 : planA (qS kS kR) (sS kS kR) 0 [kC1, kC2] = .inr ([440, 540], none) := by
    rw [planA]
    simp only [l1, t1, a2]
    rw [if_neg (by rw [show ((440 : Nat) : Int) = 440 from rfl, show kC1.place = 500 from rfl, s1, s2]; decide)]
    rfl
  unfold planR
  rw [a1]
theorem kPlan2 : planR (qS kS kR) (sS kS kR) [kC3] = ([], ⟨0, 0, false⟩, 5) := by
  have l3 : lateM (qS kS kR) [kC3] = some 0 := by unfold lateM; rw [kR3]; decide
  have a : planA (qS kS kR) (sS kS kR) 0 [kC3] = .inl (0, 0) := by simp only [planA, l3]
  unfold planR
  rw [a]
  rfl
theorem kCok1 : COK (sumL kR.ps) [kC1, kC2] := (cB_iff _ _).1 (by decide)
theorem kCok2 : COK (sumL kR.ps) [kC3] := (cB_iff _ _).1 (by decide)
end Go.Proofs.YtijcbfhlhgjedaaDoor

/- Calls that came in as an argument, opened to a list. -/
namespace Go.Proofs.YtijcbfhlhgjedaaDoor
open Go.ChangeShapes Go.WideShapes Go.ChangeAt Go.RowKit Go.Deep Go.Joins

section
variable {H : Type} {enc : TypeId × Value → H} {w : World} {base : Nat} {spare : Nat → Bool} {held : Bool} {r : Reach} {b0 : Nat}
set_option maxRecDepth 100000 in
theorem open_calls {v : Value} {d : DataW H} {p : List MemPlace} (hv : Value.okWide Tryd.prog w r b0 55 v) (h : DataW.Trod enc Tryd.prog w base spare held 55 v d p) :
    ∃ A n c xs, v = .slice A n c ∧ SL caC 5 w w.heap.size A n xs := by
  obtain ⟨a0, len, cap, rfl⟩ := okWide_slice Tryd.underlying55 hv
  obtain ⟨fuel, hf⟩ := h
  obtain ⟨ra, rn, rc, F, e, q0⟩ := open_rows (c := .slice a0 len cap) Tryd.underlying55 Tryd.underlying75 (by kernel_rfl) (by kernel_rfl) (fun j f hj => by
    match j, hj with
    | 0, hj | 1, hj | 2, hj | 3, hj | 4, hj => cases hj; exact Tryd.underlying3
    | j + 5, hj => cases hj) (by decide) (by simpa [Value.cells] using hf)
  cases e
  refine ⟨a0, len, cap, _, rfl, sl_of_rows F (fun G => (⟨G 0, G 1, G 2, G 3, G 4⟩ : CallR)) (fun G j v hv => ?_) q0⟩
  match j, hv with
  | 0, hv | 1, hv | 2, hv | 3, hv | 4, hv => cases hv; exact ⟨by decide, rfl⟩
  | j + 5, hv => cases hv
end
end Go.Proofs.YtijcbfhlhgjedaaDoor

/- The document's times: plain numbers: the row by counting up, the meter at a place, few. No program in sight. -/
namespace Go.Proofs.YtijcbfhlhgjedaaDoor
open Go.RowKit Go.Shelf Go.Sort Go.Proofs

/-- The bounds after some rows have been looked at. -/
def rowL (S : Spd) (rs : List SpRow) (r : Int) : Int × Int := match rowF rs r with | some x => (x.least, x.most) | none => (S.least, S.most)
theorem rowL_snoc (S : Spd) (rs : List SpRow) (x : SpRow) (r : Int) : rowL S (rs ++ [x]) r = if x.rad ≤ r then (x.least, x.most) else rowL S rs r := by
  unfold rowL
  rw [rowF_snoc]
  by_cases h : x.rad ≤ r
  · rw [if_pos h, if_pos h]
  · rw [if_neg h, if_neg h]
theorem rowL_all (S : Spd) (p : Piece) (h : p.turn ≠ 0) : rowL S S.rows p.rad = rowS S p := by
  unfold rowL rowS
  rw [if_neg h]
  cases rowF S.rows p.rad <;> rfl
/-- The lengths that count. -/
def fLen (ps : List Piece) : Int := (ps.map fun p => if 0 < p.len ∧ p.len ≤ 5000 then p.len else 0).sum
theorem fLen_snoc (ps : List Piece) (p : Piece) : fLen (ps ++ [p]) = fLen ps + if 0 < p.len ∧ p.len ≤ 5000 then p.len else 0 := by simp [fLen]
theorem fLen_bd : ∀ ps : List Piece, 0 ≤ fLen ps ∧ fLen ps ≤ 5000 * (ps.length : Int)
  | [] => by simp [fLen]
  | p :: ps => by
    have ih := fLen_bd ps
    have e : fLen (p :: ps) = (if 0 < p.len ∧ p.len ≤ 5000 then p.len else 0) + fLen ps := by simp [fLen]
    rw [e, List.length_cons]
    split <;> omega
/-- A short road, without too much. -/
def fewB (R : Road) : Bool := decide (fLen R.ps ≤ 120) && (decide (R.ps.length ≤ 60) && (decide (R.cs.length ≤ 40) && decide (R.js.length ≤ 40)))
def quickB (S : Spd) : Bool := decide (S.rows.length ≤ 40) && decide (S.surf.length ≤ 20)
end Go.Proofs.YtijcbfhlhgjedaaDoor

/- The document's test of triggers. -/
namespace Go.Proofs.YtijcbfhlhgjedaaDoor
open Go.RowKit Go.Shelf Go.Sort Go.Proofs

end Go.Proofs.YtijcbfhlhgjedaaDoor

/- The pace laws' test of calls: few. -/
namespace Go.Proofs.YtijcbfhlhgjedaaDoor
open Go.RowKit Go.Shelf Go.Sort Go.Proofs

theorem some_any (ka : Option Addr) (kn kc : Nat) (w : World) :
    Calls Tryd.prog 30 #[.slice ka kn kc] w fun e w' => e = .returned (.bool (decide (kn ≤ 8))) ∧ w = w' := by
  by_cases h : kn ≤ 8
  · have g : decide ((kn : Int) ≤ 8) = true := decide_eq_true (by omega)
    rw [decide_eq_true h]
    go_enter Tryd.func30, Tryd.ntmps30
    go_wp2_with fail
    go_ret
    exact ⟨rfl, rfl⟩
  · have g : decide ((kn : Int) ≤ 8) = false := decide_eq_false (by omega)
    rw [decide_eq_false h]
    go_enter Tryd.func30, Tryd.ntmps30
    go_wp2_with fail
    go_ret
    exact ⟨rfl, rfl⟩
end Go.Proofs.YtijcbfhlhgjedaaDoor

/- A track of which only its length is known: place, calls, triggers. -/
namespace Go.Proofs.YtijcbfhlhgjedaaDoor
open Go.RowKit Go.Shelf Go.Sort Go.Proofs

structure TL (w : World) (B g : Nat) (ta : Option Addr) (tc N : Nat) : Prop where
  lt : g < B
  c3 : w.cell? ⟨g, 3, none⟩ = some (.slice ta (N + 1) tc)
theorem TL.grow {w w' : World} {B B' g : Nat} {ta : Option Addr} {tc N : Nat} (h : TL w B g ta tc N) (hb : Below B w w') (hB : B ≤ B') : TL w' B' g ta tc N :=
  ⟨Nat.lt_of_lt_of_le h.lt hB, (hb.cell (p := ⟨g, 3, none⟩) h.lt).trans h.c3⟩
end Go.Proofs.YtijcbfhlhgjedaaDoor

/- pace.Said: when each call ends. -/
namespace Go.Proofs.YtijcbfhlhgjedaaDoor
open Go.RowKit Go.Shelf Go.Sort Go.Proofs

attribute [local go_sem] Oper.semAt_some

end Go.Proofs.YtijcbfhlhgjedaaDoor
