/- Passings: which are as defined; the track's test and the document's. -/
import Derived.Test.YtijcbfhlhgjedaaDoorPCBBase
import Derived.Test.YtijcbfhlhgjedaaDoorPCBRoad
import Derived.Test.YtijcbfhlhgjedaaDoorPCBLeaf
import Derived.Test.YtijcbfhlhgjedaaDoorPCBCheck
import Derived.Test.YtijcbfhlhgjedaaDoorPCBValid
import Derived.Test.YtijcbfhlhgjedaaDoorPCBFind
import Derived.Test.YtijcbfhlhgjedaaDoorPCBReg
import Derived.Test.YtijcbfhlhgjedaaDoorPCBGrouped
import Derived.Test.YtijcbfhlhgjedaaDoorPCBPG
import Derived.Test.YtijcbfhlhgjedaaDoorPCBBackM
import Derived.Test.YtijcbfhlhgjedaaDoorPCBStr
import Derived.Test.YtijcbfhlhgjedaaDoorPCBOpen
import Derived.Test.YtijcbfhlhgjedaaDoorPCBReg7
import Derived.Test.YtijcbfhlhgjedaaDoorPCSpd
import Derived.Test.YtijcbfhlhgjedaaDoorPCPRow
import Derived.Test.YtijcbfhlhgjedaaDoorPCMtr
import Derived.Test.YtijcbfhlhgjedaaDoorPCReg8
import Derived.Test.YtijcbfhlhgjedaaDoorPCSpCk
import Derived.Test.YtijcbfhlhgjedaaDoorPCPlanM
import Derived.Test.YtijcbfhlhgjedaaDoorPCLast
import Derived.Test.YtijcbfhlhgjedaaDoorPCBeg
import Derived.Test.YtijcbfhlhgjedaaDoorPCBegB
import Derived.Test.YtijcbfhlhgjedaaDoorPCRoom
import Derived.Test.YtijcbfhlhgjedaaDoorPCCallsB
import Derived.Test.YtijcbfhlhgjedaaDoorPCPlan
import Derived.Test.YtijcbfhlhgjedaaDoorPCBetw
import Derived.Test.YtijcbfhlhgjedaaDoorPCKn03P
import Derived.Test.YtijcbfhlhgjedaaDoorPCRef3
import Derived.Test.YtijcbfhlhgjedaaDoorPCRCallsB
import Derived.Test.YtijcbfhlhgjedaaDoorPCOpenK
import Derived.Test.YtijcbfhlhgjedaaDoorPLate3
namespace Go.Proofs.YtijcbfhlhgjedaaDoor
open Go.RowKit Go.Shelf Go.Sort Go.Proofs

structure PassR where
  place : Int
  early : Int
  late : Int
def paC (c : PassR) : List Value := [.int .i64 c.place, .int .i64 c.early, .int .i64 c.late]
theorem PA3.at_ {w : World} {B n : Nat} {A : Option Addr} {xs : List PassR} (h : SL paC 3 w B A n xs) {k : Nat} (hk : k < xs.length) : ∃ b off, A = some ⟨b, off, none⟩ ∧ b < B ∧
    w.cell? ⟨b, off + k * 3, none⟩ = some (.int .i64 xs[k].place) ∧ w.cell? ⟨b, off + k * 3 + 1, none⟩ = some (.int .i64 xs[k].early) ∧ w.cell? ⟨b, off + k * 3 + 2, none⟩ = some (.int .i64 xs[k].late) := by
  obtain ⟨b, off, h1, h2, h3⟩ := h.2 (by have := h.1; omega)
  have hg := List.getElem?_eq_getElem hk
  exact ⟨b, off, h1, h2, h3 k _ hg 0 _ rfl, h3 k _ hg 1 _ rfl, h3 k _ hg 2 _ rfl⟩
end Go.Proofs.YtijcbfhlhgjedaaDoor

/- Reading aloud: by a good plan each call ends in time, during each run that the speeds allow: plain. No program in sight. -/
namespace Go.Proofs.YtijcbfhlhgjedaaDoor
open Go.RowKit Go.Shelf Go.Sort Go.Proofs

theorem lsum_cons (cs : List CallR) (m k : Nat) (h : m < cs.length) : lsum cs m (k + 1) = (cs[m]'h).lasts + lsum cs (m + 1) k := by
  unfold lsum
  rw [List.drop_eq_getElem_cons h, List.take_succ_cons, List.map_cons, List.sum_cons]
/-- A run that the speeds allow: its times, place by place. -/
structure Runs (S : Spd) (R : Road) (N : Nat) (v : Nat → Int) : Prop where
  z : v 0 = 0
  d : ∀ k, k < N → tQ S R.ps (k + 1) - tQ S R.ps k ≤ v (k + 1) - v k ∧ v (k + 1) - v k ≤ tSl S R.ps (k + 1) - tSl S R.ps k
theorem Runs.le {S : Spd} {R : Road} {N : Nat} {v : Nat → Int} (h : Runs S R N v) {a : Nat} : ∀ d : Nat, a + d ≤ N → tQ S R.ps (a + d) - tQ S R.ps a ≤ v (a + d) - v a ∧ v (a + d) - v a ≤ tSl S R.ps (a + d) - tSl S R.ps a
  | 0, _ => by simp
  | d + 1, hd => by
    have h1 := h.le (a := a) d (by omega)
    have h2 := h.d (a + d) (by omega)
    rw [← Nat.add_assoc]
    omega
theorem Runs.at_ {S : Spd} {R : Road} {N : Nat} {v : Nat → Int} (h : Runs S R N v) {a b : Nat} (hab : a ≤ b) (hb : b ≤ N) : tQ S R.ps b - tQ S R.ps a ≤ v b - v a ∧ v b - v a ≤ tSl S R.ps b - tSl S R.ps a := by
  have := h.le (a := a) (b - a) (by omega)
  rwa [show a + (b - a) = b by omega] at this
theorem Runs.bd {S : Spd} {R : Road} {N : Nat} {v : Nat → Int} (h : Runs S R N v) (hS : SOK S) (hv : OK R) {b : Nat} (hb : b ≤ N) : 0 ≤ v b ∧ v b ≤ 1000070000000 := by
  have h1 := h.at_ (Nat.zero_le b) hb
  have h2 := tSl_bd hS hv b
  have h3 := tQ_bd hS hv b
  rw [h.z, tQ_zero, tSl_zero] at h1
  omega
theorem Runs.up {S : Spd} {R : Road} {N : Nat} {v : Nat → Int} (h : Runs S R N v) (hS : SOK S) (hv : OK R) {a b : Nat} (hab : a ≤ b) (hb : b ≤ N) : v a ≤ v b := by
  have h1 := (h.at_ hab hb).1
  have h2 := tQ_mono hS hv hab
  omega
end Go.Proofs.YtijcbfhlhgjedaaDoor
