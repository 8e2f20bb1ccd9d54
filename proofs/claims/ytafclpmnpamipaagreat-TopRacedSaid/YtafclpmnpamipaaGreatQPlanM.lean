/- Calls and plans: the latest plan, or the clash, as a function of the sums of times. No program in sight. -/
import Derived.Test.YtafclpmnpamipaaGreatQSpd
import Derived.Test.YtafclpmnpamipaaGreatQSpCk
namespace Go.Proofs.YtafclpmnpamipaaGreat
open Go.RowKit Go.Shelf Go.Sort Go.Proofs

structure CallR where
  place : Int
  lasts : Int
  lead : Int
  ahead : Int
  value : Int
def caC (c : CallR) : List Value := [.int .i64 c.place, .int .i64 c.lasts, .int .i64 c.lead, .int .i64 c.ahead, .int .i64 c.value]
def maxM : Int := 1125899906842624
end Go.Proofs.YtafclpmnpamipaaGreat

/- A track: the sums of the times of a road's meters, behind a pointer; and what its small methods answer. -/
namespace Go.Proofs.YtafclpmnpamipaaGreat
open Go.RowKit Go.Shelf Go.Sort Go.Proofs

def tiC (x : Int × Int) : List Value := [.int .i64 x.1, .int .i64 x.2]
theorem tiC_len (x : Int × Int) : (tiC x).length = 2 := rfl
/-- The sums up to each of the first n places. -/
def tms (S : Spd) (ps : List Piece) (n : Nat) : List (Int × Int) := (List.range n).map fun k => (tQ S ps k, tSl S ps k)
theorem tms_len (S : Spd) (ps : List Piece) (n : Nat) : (tms S ps n).length = n := by simp [tms]
theorem tms_at (S : Spd) (ps : List Piece) (n k : Nat) (h : k < (tms S ps n).length) : (tms S ps n)[k] = (tQ S ps k, tSl S ps k) := by simp [tms]
structure TS (w : World) (B g : Nat) (ta : Option Addr) (tc N : Nat) (S : Spd) (R : Road) : Prop where
  lt : g < B
  c3 : w.cell? ⟨g, 3, none⟩ = some (.slice ta (N + 1) tc)
  t : SL tiC 2 w B ta (N + 1) (tms S R.ps (N + 1))
  n : sumL R.ps = N
theorem TS.grow {w w' : World} {B B' g : Nat} {ta : Option Addr} {tc N : Nat} {S : Spd} {R : Road} (h : TS w B g ta tc N S R) (hb : Below B w w') (hB : B ≤ B') : TS w' B' g ta tc N S R :=
  ⟨Nat.lt_of_lt_of_le h.lt hB, (hb.cell (p := ⟨g, 3, none⟩) h.lt).trans h.c3, h.t.grow hb hB, h.n⟩
theorem TT.at_ {w : World} {B N : Nat} {ta : Option Addr} {S : Spd} {ps : List Piece} (h : SL tiC 2 w B ta (N + 1) (tms S ps (N + 1))) {k : Nat} (hk : k ≤ N) : ∃ b off, ta = some ⟨b, off, none⟩ ∧ b < B ∧
    w.cell? ⟨b, off + k * 2, none⟩ = some (.int .i64 (tQ S ps k)) ∧ w.cell? ⟨b, off + k * 2 + 1, none⟩ = some (.int .i64 (tSl S ps k)) := by
  have hl : k < (tms S ps (N + 1)).length := by rw [tms_len]; omega
  obtain ⟨b, off, e, hb, hc⟩ := h.at_ hl
  rw [tms_at] at hc
  exact ⟨b, off, e, hb, hc 0 _ rfl, hc 1 _ rfl⟩
theorem take_bd {R : Road} (hv : OK R) {f : Piece → Int} {hi : Int} (h0 : 0 ≤ hi) (h : ∀ p ∈ units R.ps, 0 ≤ f p ∧ f p ≤ hi) (k : Nat) : 0 ≤ (((units R.ps).take k).map f).sum ∧ (((units R.ps).take k).map f).sum ≤ hi * 100000 := by
  have h1 := sum_bd (l := (units R.ps).take k) (f := f) (lo := 0) (hi := hi) (fun p hp => h p (List.mem_of_mem_take hp))
  have h2 : ((units R.ps).take k).length ≤ (units R.ps).length := by rw [List.length_take]; omega
  have h3 := units_nat hv.pk
  have h4 := hv.n1
  have h5 : hi * (((units R.ps).take k).length : Int) ≤ hi * 100000 := Int.mul_le_mul_of_nonneg_left (by omega) h0
  have h6 : (0 : Int) * (((units R.ps).take k).length : Int) = 0 := Int.zero_mul _
  omega
theorem tQ_bd {S : Spd} {R : Road} (hS : SOK S) (hv : OK R) (k : Nat) : 0 ≤ tQ S R.ps k ∧ tQ S R.ps k ≤ 1000000000000 :=
  take_bd hv (hi := 10000000) (by decide) (fun p hp => mQ_bd hS (units_ok hv.pk p hp)) k
theorem tSl_bd {S : Spd} {R : Road} (hS : SOK S) (hv : OK R) (k : Nat) : 0 ≤ tSl S R.ps k ∧ tSl S R.ps k ≤ 1000070000000 :=
  take_bd hv (hi := 10000700) (by decide) (fun p hp => by have := mSl_bd hS (units_ok hv.pk p hp); omega) k
theorem tlen_any (g : Nat) (ta : Option Addr) (tc N : Nat) (S : Spd) (R : Road) (w : World) (h : TS w w.heap.size g ta tc N S R) (hN : N ≤ 1000000) :
    Calls Tryz.prog 82 #[.pointer (some ⟨g, 0, none⟩)] w fun e w' => e = .returned (.int .i64 N) ∧ w = w' := by
  have hl := h.lt
  have c3 := h.c3
  clear h
  go_enter Tryz.func82, Tryz.ntmps82
  go_wp2_with fail
  go_ret
  exact ⟨ret_int (by simp), rfl⟩
theorem place_any (p : Int) (g : Nat) (ta : Option Addr) (tc N : Nat) (S : Spd) (R : Road) (w : World) (h : TS w w.heap.size g ta tc N S R) (hN : N ≤ 1000000) :
    Calls Tryz.prog 28 #[.pointer (some ⟨g, 0, none⟩), .int .i64 p] w fun e w' => e = .returned (.bool (inR p 0 N)) ∧ w = w' := by
  have HT := Lib.hid h
  clear h
  go_enter Tryz.func28, Tryz.ntmps28
  go_wp2_with fail
  refine (tlen_any g ta tc N S R _ HT.out hN).mono ?_
  rintro e w' ⟨rfl, rfl⟩
  go_wp2_with fail
  refine (pwithin_any _ _ _ _).mono ?_
  rintro e w' ⟨rfl, rfl⟩
  go_wp2_with fail
  go_ret
  exact ⟨rfl, rfl⟩
set_option maxRecDepth 100000 in
theorem between0_any (a b : Nat) (g : Nat) (ta : Option Addr) (tc N : Nat) (S : Spd) (R : Road) (w : World) (h : TS w w.heap.size g ta tc N S R) (hS : SOK S) (hv : OK R) (ha : a ≤ N) (hb : b ≤ N) :
    Calls Tryz.prog 29 #[.pointer (some ⟨g, 0, none⟩), .int .i64 0, .int .i64 a, .int .i64 b] w fun e w' => e = .returned (.int .i64 (tQ S R.ps b - tQ S R.ps a)) ∧ ∃ m, w' = w.drewN m := by
  have hl := h.lt
  have c3 := h.c3
  have hN : N ≤ 100000 := by have := h.n; have := hv.n1; omega
  obtain ⟨b1, o1, hA, hb1, q0, q1⟩ := TT.at_ h.t ha
  obtain ⟨b2, o2, hA2, hb2, r0, r1⟩ := TT.at_ h.t hb
  have x1 := tQ_bd hS hv a
  have x2 := tQ_bd hS hv b
  generalize tQ S R.ps a = u at *
  generalize tQ S R.ps b = v at *
  obtain ⟨x3, x4⟩ := x1
  obtain ⟨x5, x6⟩ := x2
  clear h hS hv
  subst hA
  cases hA2
  have i1 : (0 : Int) ≤ (a : Int) := by omega
  have i2 : (a : Int) < (N : Int) + 1 := by omega
  have i3 : (0 : Int) ≤ (b : Int) := by omega
  have i4 : (b : Int) < (N : Int) + 1 := by omega
  go_enter Tryz.func29, Tryz.ntmps29
  go_wp2_with fail
  go_quiet (fail)
  go_wp2_with fail
  go_ret
  exact ⟨rfl, _, rfl⟩
set_option maxRecDepth 100000 in
theorem between1_any (a b : Nat) (g : Nat) (ta : Option Addr) (tc N : Nat) (S : Spd) (R : Road) (w : World) (h : TS w w.heap.size g ta tc N S R) (hS : SOK S) (hv : OK R) (ha : a ≤ N) (hb : b ≤ N) :
    Calls Tryz.prog 29 #[.pointer (some ⟨g, 0, none⟩), .int .i64 1, .int .i64 a, .int .i64 b] w fun e w' => e = .returned (.int .i64 (tSl S R.ps b - tSl S R.ps a)) ∧ ∃ m, w' = w.drewN m := by
  have hl := h.lt
  have c3 := h.c3
  have hN : N ≤ 100000 := by have := h.n; have := hv.n1; omega
  obtain ⟨b1, o1, hA, hb1, q0, q1⟩ := TT.at_ h.t ha
  obtain ⟨b2, o2, hA2, hb2, r0, r1⟩ := TT.at_ h.t hb
  have x1 := tSl_bd hS hv a
  have x2 := tSl_bd hS hv b
  generalize tSl S R.ps a = u at *
  generalize tSl S R.ps b = v at *
  obtain ⟨x3, x4⟩ := x1
  obtain ⟨x5, x6⟩ := x2
  clear h hS hv
  subst hA
  cases hA2
  have i1 : (0 : Int) ≤ (a : Int) := by omega
  have i2 : (a : Int) < (N : Int) + 1 := by omega
  have i3 : (0 : Int) ≤ (b : Int) := by omega
  have i4 : (b : Int) < (N : Int) + 1 := by omega
  go_enter Tryz.func29, Tryz.ntmps29
  go_wp2_with fail
  go_quiet (fail)
  go_wp2_with fail
  go_ret
  exact ⟨rfl, _, rfl⟩
end Go.Proofs.YtafclpmnpamipaaGreat
