/- The chapter's examples of plans: plain numbers. -/
import Derived.Test.YtijcbfhlhgjedaaGreatDoorPCPlan
import Derived.Test.YtijcbfhlhgjedaaGreatDoorPCPlanM
import Derived.Test.YtijcbfhlhgjedaaGreatDoorPCBetw
import Derived.Test.YtijcbfhlhgjedaaGreatDoorPCBReg7
import Derived.ChangeSlices
import Derived.Test.YtijcbfhlhgjedaaGreatDoorPCBBase
import Derived.Test.YtijcbfhlhgjedaaGreatDoorPCBRoad
import Derived.Test.YtijcbfhlhgjedaaGreatDoorPCBLeaf
import Derived.Test.YtijcbfhlhgjedaaGreatDoorPCBCheck
import Derived.Test.YtijcbfhlhgjedaaGreatDoorPCBValid
import Derived.Test.YtijcbfhlhgjedaaGreatDoorPCBFind
import Derived.Test.YtijcbfhlhgjedaaGreatDoorPCBReg
import Derived.Test.YtijcbfhlhgjedaaGreatDoorPCBGrouped
import Derived.Test.YtijcbfhlhgjedaaGreatDoorPCBPG
import Derived.Test.YtijcbfhlhgjedaaGreatDoorPCBStr
import Derived.Test.YtijcbfhlhgjedaaGreatDoorPCBCmp
import Derived.Test.YtijcbfhlhgjedaaGreatDoorPCBOpen
import Derived.Test.YtijcbfhlhgjedaaGreatDoorPCPRow
import Derived.Test.YtijcbfhlhgjedaaGreatDoorPCMtr
import Derived.Test.YtijcbfhlhgjedaaGreatDoorPCReg8
import Derived.Test.YtijcbfhlhgjedaaGreatDoorPCSpCk
import Derived.Test.YtijcbfhlhgjedaaGreatDoorPCLast
import Derived.Test.YtijcbfhlhgjedaaGreatDoorPCBeg
import Derived.Test.YtijcbfhlhgjedaaGreatDoorPCRoom
import Derived.Test.YtijcbfhlhgjedaaGreatDoorPCCallsB
import Derived.Test.YtijcbfhlhgjedaaGreatDoorPCRef3
import Derived.Test.YtijcbfhlhgjedaaGreatDoorTie
import Derived.Test.YtijcbfhlhgjedaaGreatDoorCards
import Derived.WalkKit
import Derived.ProofKit
import Derived.Handy
import Derived.Lay
import Derived.SevenTiedAt
import Derived.OpenShut
namespace Go.Proofs.YtijcbfhlhgjedaaGreatDoor
open Go.RowKit Go.Shelf Go.Sort Go.Proofs

theorem tQ_part (S : Spd) (p : Piece) (k : Nat) (h : (k : Int) ≤ p.len) : tQ S [p] k = k * mQ S p ∧ tSl S [p] k = k * mSl S p := by
  unfold tQ tSl
  rw [units_one, List.take_replicate, Nat.min_eq_left (by omega), List.map_replicate, List.map_replicate]
  have key : ∀ (n : Nat) (a : Int), (List.replicate n a).sum = n * a := by
    intro n a
    induction n with
    | zero => simp
    | succ n ih => rw [List.replicate_succ, List.sum_cons, ih, Int.natCast_add, Int.add_mul]; simp; omega
  rw [key, key, mQ_one, mSl_one]
  exact ⟨rfl, rfl⟩
theorem kQ (k : Nat) (h : k ≤ 1000) : tQ kS kR.ps k = 50000 * k ∧ tSl kS kR.ps k = 100000 * k := by
  have := tQ_part kS ⟨1000, 0, 0, 50, 1⟩ k (by show (k : Int) ≤ 1000; omega)
  have e1 : mQ kS ⟨1000, 0, 0, 50, 1⟩ = 50000 := by decide
  have e2 : mSl kS ⟨1000, 0, 0, 50, 1⟩ = 100000 := by decide
  rw [e1, e2] at this
  exact ⟨by show tQ kS [_] k = _; rw [this.1]; omega, by show tSl kS [_] k = _; rw [this.2]; omega⟩
theorem kq (k : Nat) (h : k ≤ 1000) : qS kS kR (k : Int) = 50000 * k := (kQ k h).1
theorem ks (k : Nat) (h : k ≤ 1000) : sS kS kR (k : Int) = 100000 * k := (kQ k h).2
def kC1 : CallR := ⟨500, 2000000, 1000000, 20000000, 0⟩
def kC2 : CallR := ⟨600, 2000000, 1000000, 20000000, 0⟩
def kC3 : CallR := ⟨10, 1000000, 0, 0, 0⟩
theorem kL (room : Int) (c : CallR) (cs : List CallR) (n k : Nat) (hr : roomM (qS kS kR) (c :: cs) = room) (hp : c.place = n) (hn : n ≤ 1000) (hk : k ≤ n) (h1 : 50000 * (k : Int) ≤ room) (h2 : room < 50000 * ((k : Int) + 1)) : trigM (qS kS kR) c cs = k := by
  unfold trigM
  rw [hr, hp, Int.toNat_natCast]
  refine lastN_eq hk ?_ (fun j hj hjn => ?_)
  · rw [kq k (by omega)]; simpa using h1
  · rw [kq j (by omega)]; simp; omega
theorem kR2 : rvs (qS kS kR) 0 [kC2] = [27000000] := by
  have e : qS kS kR 600 = 30000000 := (kq 600 (by omega)).trans (by decide)
  simp only [rvs, kC2, e]; rfl
theorem kR1 : rvs (qS kS kR) 0 [kC1, kC2] = [22000000, 25000000] := by
  have e : qS kS kR 600 = 30000000 := (kq 600 (by omega)).trans (by decide)
  have e1 : qS kS kR 500 = 25000000 := (kq 500 (by omega)).trans (by decide)
  simp only [rvs, kC1, kC2, e, e1]; rfl
theorem kR3 : rvs (qS kS kR) 0 [kC3] = [-500000] := by
  have e : qS kS kR 10 = 500000 := (kq 10 (by omega)).trans (by decide)
  simp only [rvs, kC3, e]; rfl
theorem kPlan1 : planR (qS kS kR) (sS kS kR) [kC1, kC2] = ([440, 540], ⟨0, 0, false⟩, 0) := by
  have l1 : lateM (qS kS kR) [kC1, kC2] = none := by unfold lateM; rw [kR1]; decide
  have l2 : lateM (qS kS kR) [kC2] = none := by unfold lateM; rw [kR2]; decide
  have r1 : roomM (qS kS kR) [kC1, kC2] = 22000000 := by unfold roomM; rw [kR1]; decide
  have r2 : roomM (qS kS kR) [kC2] = 27000000 := by unfold roomM; rw [kR2]; decide
  have t1 : trigM (qS kS kR) kC1 [kC2] = 440 := kL 22000000 kC1 [kC2] 500 440 r1 rfl (by omega) (by omega) (by omega) (by omega)
  have t2 : trigM (qS kS kR) kC2 [] = 540 := kL 27000000 kC2 [] 600 540 r2 rfl (by omega) (by omega) (by omega) (by omega)
  have s1 : sS kS kR 440 = 44000000 := (ks 440 (by omega)).trans (by decide)
  have s2 : sS kS kR 500 = 50000000 := (ks 500 (by omega)).trans (by decide)
  have s3 : sS kS kR 540 = 54000000 := (ks 540 (by omega)).trans (by decide)
  have s4 : sS kS kR 600 = 60000000 := (ks 600 (by omega)).trans (by decide)
  have a2 : planA (qS kS kR) (sS kS kR) 1 [kC2] = .inr ([540], none) := by
    simp only [planA, l2, t2]
    rw [if_neg (by rw [show ((540 : Nat) : Int) = 540 from rfl, show kC2.place = 600 from rfl, s3, s4]; decide)]
    rfl
  have a1 : planA (qS kS kR) (sS kS kR) 0 [kC1, kC2] = .inr ([440, 540], none) := by
    rw [planA]
    simp only [l1, t1, a2]
    rw [if_neg (by rw [show ((440 : Nat) : Int) = 440 from rfl, show kC1.place = 500 from rfl, s1, s2]; decide)]
    rfl
  unfold planR
  rw [a1]
theorem kPlan2 : planR (qS kS kR) (sS kS kR) [kC3] = ([], ⟨0, 0, false⟩, 5) := by
  have l3 : lateM (qS kS kR) [kC3] = some 0 := by unfold lateM; rw [kR3]; decide
  have a : planA (qS kS kR) (sS kS kR) 0 [kC3] = .inl (0, 0) := by simp only [planA, l3]
  unfold planR
  rw [a]
  rfl
theorem kCok1 : COK (sumL kR.ps) [kC1, kC2] := (cB_iff _ _).1 (by decide)
theorem kCok2 : COK (sumL kR.ps) [kC3] := (cB_iff _ _).1 (by decide)
end Go.Proofs.YtijcbfhlhgjedaaGreatDoor

/- Speeds that came in as an argument: two numbers and two slices, opened to lists. -/
namespace Go.Proofs.YtijcbfhlhgjedaaGreatDoor
open Go.ChangeShapes Go.WideShapes Go.ChangeAt Go.RowKit Go.Deep Go.Joins

section
variable {H : Type} {enc : TypeId × Value → H} {w : World} {base : Nat} {spare : Nat → Bool} {held : Bool} {r : Reach} {b0 : Nat}
set_option maxRecDepth 100000 in
/-- A slice of ints that stands in one cell. -/
theorem open_is1 {c : Value} {fuel : Nat} {x : DataW H × List MemPlace} (hf : DataW.trod enc Tryz.prog w base spare held fuel 28 [c] = some x) :
    ∃ A n cp xs, c = .slice A n cp ∧ SL iC 1 w w.heap.size A n xs := by
  rcases open_ints Tryz.underlying28 Tryz.underlying3 (by kernel_rfl) hf with ⟨h0, _⟩ | ⟨a, len, cap, zs, h0, _, hlc, _, hz, _, hcell, _⟩
  · simp at h0
    exact ⟨none, 0, 0, [], h0, rfl, fun q => absurd q (by omega)⟩
  · simp at h0
    have hlz : len ≤ zs.length := by rw [hz]; split <;> omega
    refine ⟨some a, len, cap, zs.take len, h0, by rw [List.length_take]; omega, fun hn => ?_⟩
    have hc0 := hcell 0 (by omega)
    have hbl := block_lt_of_cell hc0
    have hsp := World.cell?_spot hc0
    obtain ⟨b, off, sp⟩ := a
    have hsp' : sp = none := by simpa [Addr.add] using hsp
    subst hsp'
    refine ⟨b, off, rfl, by simpa [Addr.add] using hbl, fun k x hx j v hv => ?_⟩
    have hk : k < len := by have := (List.getElem?_eq_some_iff.1 hx).1; rw [List.length_take] at this; omega
    rw [List.getElem?_take, if_pos hk] at hx
    have h1 := hcell k (by omega)
    have e0 : ((⟨b, off, none⟩ : Addr).add k) = ⟨b, off + k, none⟩ := by unfold Addr.add; split <;> simp_all
    rw [e0, List.getD, hx] at h1
    match j, hv with
    | 0, hv => cases hv; simpa using h1
    | j + 1, hv => cases hv
set_option maxRecDepth 100000 in
/-- Speeds by value. -/
theorem open_speeds {v : Value} {d : DataW H} {p : List MemPlace} (hv : Value.okWide Tryz.prog w r b0 30 v) (h : DataW.Trod enc Tryz.prog w base spare held 30 v d p) :
    ∃ ra rn rc sa sn sc S, v = .agg #[.int .i64 S.least, .int .i64 S.most, .slice ra rn rc, .slice sa sn sc] ∧ SD w w.heap.size ra rn sa sn S := by
  obtain ⟨v0, v1, v2, v3, y0, y1, y2, y3, n, rfl, _, _, h0, h1, h2, h3⟩ := open_agg4 Tryz.underlying30 (by kernel_rfl) (by kernel_rfl) hv h
  obtain ⟨x0, e0, _, _⟩ := DataW.trod_int Tryz.underlying3 h0
  obtain ⟨x1, e1, _, _⟩ := DataW.trod_int Tryz.underlying3 h1
  simp at e0 e1
  subst e0 e1
  obtain ⟨ra, rn, rc, F, rfl, q0⟩ := open_rows Tryz.underlying27 Tryz.underlying37 (by kernel_rfl) (by kernel_rfl) (fun j f hj => by
    match j, hj with
    | 0, hj | 1, hj | 2, hj => cases hj; exact Tryz.underlying3
    | j + 3, hj => cases hj) (by decide) h2
  obtain ⟨sa, sn, sc, xs, rfl, q1⟩ := open_is1 h3
  refine ⟨ra, rn, rc, sa, sn, sc, ⟨x0, x1, _, xs⟩, rfl, sl_of_rows F (fun G => (⟨G 0, G 1, G 2⟩ : SpRow)) (fun G j v hv => ?_) q0, q1⟩
  match j, hv with
  | 0, hv | 1, hv | 2, hv => cases hv; exact ⟨by decide, rfl⟩
  | j + 3, hv => cases hv
end
end Go.Proofs.YtijcbfhlhgjedaaGreatDoor

/- The pace rows: a road that came in has no more pieces than an int counts; what the rows' proofs import. -/
namespace Go.Proofs.YtijcbfhlhgjedaaGreatDoor
open Go.ChangeShapes Go.WideShapes Go.ChangeAt Go.RowKit Go.Deep Go.Joins

theorem laidOut : laidOutB Tryz.prog = true := by kernel_rfl
section
variable {H : Type} {enc : TypeId × Value → H} {P : Program} {w : World} {base : Nat} {spare : Nat → Bool} {held : Bool}
theorem slice_len {t e : TypeId} {fuel : Nat} {A : Option Addr} {n c : Nat} {x : DataW H × List MemPlace} (ht : P.underlying t = some (.slice e)) (h : DataW.trod enc P w base spare held fuel t [.slice A n c] = some x) : n ≤ 9223372036854775807 := by
  rcases open_slice ht h with ⟨h0, _⟩ | ⟨a, len, cap, m, k, D, Pl, hcs, hb, hl, hm, _⟩
  · simp at h0
    omega
  · simp at hcs
    unfold maxLen at hm
    omega
set_option maxRecDepth 100000 in
theorem road_len {pa : Option Addr} {pn pc : Nat} {v1 v2 : Value} {r : Reach} {b0 : Nat} {d : DataW H} {p : List MemPlace} (hv : Value.okWide Tryz.prog w r b0 26 (.agg #[.slice pa pn pc, v1, v2])) (h : DataW.Trod enc Tryz.prog w base spare held 26 (.agg #[.slice pa pn pc, v1, v2]) d p) : pn ≤ 9223372036854775807 := by
  obtain ⟨x0, x1, x2, y0, y1, y2, n, he, _, _, h0, _, _⟩ := open_agg3 Tryz.underlying26 (by kernel_rfl) (by kernel_rfl) hv h
  simp only [Value.agg.injEq, Array.mk.injEq, List.cons.injEq] at he
  obtain ⟨rfl, _⟩ := he
  exact slice_len Tryz.underlying22 h0
end
end Go.Proofs.YtijcbfhlhgjedaaGreatDoor

/- The document's times: plain numbers: the row by counting up, the meter at a place, few. No program in sight. -/
namespace Go.Proofs.YtijcbfhlhgjedaaGreatDoor
open Go.RowKit Go.Shelf Go.Sort Go.Proofs

/-- The lengths that count. -/
def fLen (ps : List Piece) : Int := (ps.map fun p => if 0 < p.len ∧ p.len ≤ 5000 then p.len else 0).sum
theorem fLen_snoc (ps : List Piece) (p : Piece) : fLen (ps ++ [p]) = fLen ps + if 0 < p.len ∧ p.len ≤ 5000 then p.len else 0 := by simp [fLen]
theorem fLen_bd : ∀ ps : List Piece, 0 ≤ fLen ps ∧ fLen ps ≤ 5000 * (ps.length : Int)
  | [] => by simp [fLen]
  | p :: ps => by
    have ih := fLen_bd ps
    have e : fLen (p :: ps) = (if 0 < p.len ∧ p.len ≤ 5000 then p.len else 0) + fLen ps := by simp [fLen]
    rw [e, List.length_cons]
    split <;> omega
/-- A short road, without too much. -/
def fewB (R : Road) : Bool := decide (fLen R.ps ≤ 120) && (decide (R.ps.length ≤ 60) && (decide (R.cs.length ≤ 40) && decide (R.js.length ≤ 40)))
def quickB (S : Spd) : Bool := decide (S.rows.length ≤ 40) && decide (S.surf.length ≤ 20)
end Go.Proofs.YtijcbfhlhgjedaaGreatDoor
