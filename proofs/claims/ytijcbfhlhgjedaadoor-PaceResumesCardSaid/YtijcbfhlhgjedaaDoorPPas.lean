/- Passings: which are as defined; the track's test and the document's. -/
import Derived.Test.YtijcbfhlhgjedaaDoorPCBBase
import Derived.Test.YtijcbfhlhgjedaaDoorPCBRoad
import Derived.Test.YtijcbfhlhgjedaaDoorPCBLeaf
import Derived.Test.YtijcbfhlhgjedaaDoorPCBCheck
import Derived.Test.YtijcbfhlhgjedaaDoorPCBValid
import Derived.Test.YtijcbfhlhgjedaaDoorPCBFind
import Derived.Test.YtijcbfhlhgjedaaDoorPCBReg
import Derived.Test.YtijcbfhlhgjedaaDoorPCBGrouped
import Derived.Test.YtijcbfhlhgjedaaDoorPCBPG
import Derived.Test.YtijcbfhlhgjedaaDoorPCBBackM
import Derived.Test.YtijcbfhlhgjedaaDoorPCBStr
import Derived.Test.YtijcbfhlhgjedaaDoorPCBOpen
import Derived.Test.YtijcbfhlhgjedaaDoorPCBReg7
import Derived.Test.YtijcbfhlhgjedaaDoorPCSpd
import Derived.Test.YtijcbfhlhgjedaaDoorPCPRow
import Derived.Test.YtijcbfhlhgjedaaDoorPCMtr
import Derived.Test.YtijcbfhlhgjedaaDoorPCReg8
import Derived.Test.YtijcbfhlhgjedaaDoorPCSpCk
import Derived.Test.YtijcbfhlhgjedaaDoorPCPlanM
import Derived.Test.YtijcbfhlhgjedaaDoorPCLast
import Derived.Test.YtijcbfhlhgjedaaDoorPCBeg
import Derived.Test.YtijcbfhlhgjedaaDoorPCBegB
import Derived.Test.YtijcbfhlhgjedaaDoorPCRoom
import Derived.Test.YtijcbfhlhgjedaaDoorPCCallsB
import Derived.Test.YtijcbfhlhgjedaaDoorPCPlan
import Derived.Test.YtijcbfhlhgjedaaDoorPCBetw
import Derived.Test.YtijcbfhlhgjedaaDoorPCKn03P
import Derived.Test.YtijcbfhlhgjedaaDoorPCRef3
import Derived.Test.YtijcbfhlhgjedaaDoorPCRCallsB
import Derived.Test.YtijcbfhlhgjedaaDoorTie
import Derived.Test.YtijcbfhlhgjedaaDoorCards
import Derived.WalkKit
import Derived.ProofKit
import Derived.Handy
import Derived.Lay
import Derived.SevenTiedAt
import Derived.OpenShut
import Derived.ChangeSlices
import Derived.Test.YtijcbfhlhgjedaaDoorPRMtr
import Derived.Test.YtijcbfhlhgjedaaDoorPInT
namespace Go.Proofs.YtijcbfhlhgjedaaDoor
open Go.RowKit Go.Shelf Go.Sort Go.Proofs

structure PassR where
  place : Int
  early : Int
  late : Int
def paC (c : PassR) : List Value := [.int .i64 c.place, .int .i64 c.early, .int .i64 c.late]
theorem PA3.at_ {w : World} {B n : Nat} {A : Option Addr} {xs : List PassR} (h : SL paC 3 w B A n xs) {k : Nat} (hk : k < xs.length) : ∃ b off, A = some ⟨b, off, none⟩ ∧ b < B ∧
    w.cell? ⟨b, off + k * 3, none⟩ = some (.int .i64 xs[k].place) ∧ w.cell? ⟨b, off + k * 3 + 1, none⟩ = some (.int .i64 xs[k].early) ∧ w.cell? ⟨b, off + k * 3 + 2, none⟩ = some (.int .i64 xs[k].late) := by
  obtain ⟨b, off, h1, h2, h3⟩ := h.2 (by have := h.1; omega)
  have hg := List.getElem?_eq_getElem hk
  exact ⟨b, off, h1, h2, h3 k _ hg 0 _ rfl, h3 k _ hg 1 _ rfl, h3 k _ hg 2 _ rfl⟩
end Go.Proofs.YtijcbfhlhgjedaaDoor

/- The pace rows: a road that came in has no more pieces than an int counts; what the rows' proofs import. -/
namespace Go.Proofs.YtijcbfhlhgjedaaDoor
open Go.ChangeShapes Go.WideShapes Go.ChangeAt Go.RowKit Go.Deep Go.Joins

theorem laidOut : laidOutB Tryd.prog = true := by kernel_rfl
section
variable {H : Type} {enc : TypeId × Value → H} {P : Program} {w : World} {base : Nat} {spare : Nat → Bool} {held : Bool}
theorem slice_len {t e : TypeId} {fuel : Nat} {A : Option Addr} {n c : Nat} {x : DataW H × List MemPlace} (ht : P.underlying t = some (.slice e)) (h : DataW.trod enc P w base spare held fuel t [.slice A n c] = some x) : n ≤ 9223372036854775807 := by
  rcases open_slice ht h with ⟨h0, _⟩ | ⟨a, len, cap, m, k, D, Pl, hcs, hb, hl, hm, _⟩
  · simp at h0
    omega
  · simp at hcs
    unfold maxLen at hm
    omega
theorem slice_cap {t e : TypeId} {fuel : Nat} {A : Option Addr} {n c : Nat} {x : DataW H × List MemPlace} (ht : P.underlying t = some (.slice e)) (h : DataW.trod enc P w base spare held fuel t [.slice A n c] = some x) : n ≤ c := by
  rcases open_slice ht h with ⟨h0, _⟩ | ⟨a, len, cap, m, k, D, Pl, hcs, hb, hl, hm, _⟩
  · simp at h0
    omega
  · simp at hcs
    omega
theorem calls_cap {A : Option Addr} {n c : Nat} {d : DataW H} {p : List MemPlace} (h : DataW.Trod enc Tryd.prog w base spare held 55 (.slice A n c) d p) : n ≤ c := by
  obtain ⟨fuel, hf⟩ := h
  exact slice_cap Tryd.underlying55 hf
set_option maxRecDepth 100000 in
theorem road_len {pa : Option Addr} {pn pc : Nat} {v1 v2 : Value} {r : Reach} {b0 : Nat} {d : DataW H} {p : List MemPlace} (hv : Value.okWide Tryd.prog w r b0 26 (.agg #[.slice pa pn pc, v1, v2])) (h : DataW.Trod enc Tryd.prog w base spare held 26 (.agg #[.slice pa pn pc, v1, v2]) d p) : pn ≤ 9223372036854775807 := by
  obtain ⟨x0, x1, x2, y0, y1, y2, n, he, _, _, h0, _, _⟩ := open_agg3 Tryd.underlying26 (by kernel_rfl) (by kernel_rfl) hv h
  simp only [Value.agg.injEq, Array.mk.injEq, List.cons.injEq] at he
  obtain ⟨rfl, _⟩ := he
  exact slice_len Tryd.underlying22 h0
end
end Go.Proofs.YtijcbfhlhgjedaaDoor

/- Numbers, times and passings that came in as arguments, opened. -/
namespace Go.Proofs.YtijcbfhlhgjedaaDoor
open Go.ChangeShapes Go.WideShapes Go.ChangeAt Go.RowKit Go.Deep Go.Joins

theorem wf_i64 {x : Int} (h : (Lit.int .i64 x).wf = true) : -9223372036854775808 ≤ x ∧ x ≤ 9223372036854775807 := by
  unfold Lit.wf at h
  rw [Bool.and_eq_true, decide_eq_true_eq, decide_eq_true_eq] at h
  exact h
section
variable {H : Type} {enc : TypeId × Value → H} {w : World} {base : Nat} {spare : Nat → Bool} {held : Bool} {r : Reach} {b0 : Nat}
set_option maxRecDepth 100000 in
theorem open_isw {v : Value} {d : DataW H} {p : List MemPlace} (hv : Value.okWide Tryd.prog w r b0 28 v) (h : DataW.Trod enc Tryd.prog w base spare held 28 v d p) :
    ∃ A n c xs, v = .slice A n c ∧ SL iC 1 w w.heap.size A n xs ∧ ∀ x ∈ xs, -9223372036854775808 ≤ x ∧ x ≤ 9223372036854775807 := by
  obtain ⟨a0, len, cap, rfl⟩ := okWide_slice Tryd.underlying28 hv
  obtain ⟨fuel, hf⟩ := h
  rcases open_ints Tryd.underlying28 Tryd.underlying3 (by kernel_rfl) hf with ⟨h0, _⟩ | ⟨a, l2, c2, zs, h0, _, hlc, _, hz, _, hcell, hwf⟩
  · simp [Value.cells] at h0
    obtain ⟨rfl, rfl, rfl⟩ := h0
    exact ⟨none, 0, 0, [], rfl, ⟨rfl, fun q => absurd q (by omega)⟩, fun x hx => nomatch hx⟩
  · simp [Value.cells] at h0
    obtain ⟨rfl, rfl, rfl⟩ := h0
    have hlz : len ≤ zs.length := by rw [hz]; split <;> omega
    refine ⟨some a, len, cap, zs.take len, rfl, ⟨by rw [List.length_take]; omega, fun hn => ?_⟩, fun x hx => wf_i64 (hwf x (List.mem_of_mem_take hx))⟩
    have hc0 := hcell 0 (by omega)
    have hbl := block_lt_of_cell hc0
    have hsp := World.cell?_spot hc0
    obtain ⟨b, off, sp⟩ := a
    have hsp' : sp = none := by simpa [Addr.add] using hsp
    subst hsp'
    refine ⟨b, off, rfl, by simpa [Addr.add] using hbl, fun k x hx j v hv => ?_⟩
    have hk : k < len := by have := (List.getElem?_eq_some_iff.1 hx).1; rw [List.length_take] at this; omega
    rw [List.getElem?_take, if_pos hk] at hx
    have h1 := hcell k (by omega)
    have e0 : ((⟨b, off, none⟩ : Addr).add k) = ⟨b, off + k, none⟩ := by unfold Addr.add; split <;> simp_all
    rw [e0, List.getD, hx] at h1
    match j, hv with
    | 0, hv => cases hv; simpa using h1
    | j + 1, hv => cases hv
end
end Go.Proofs.YtijcbfhlhgjedaaDoor

/- Reading aloud: by a good plan each call ends in time, during each run that the speeds allow: plain. No program in sight. -/
namespace Go.Proofs.YtijcbfhlhgjedaaDoor
open Go.RowKit Go.Shelf Go.Sort Go.Proofs

/-- A run that the speeds allow: its times, place by place. -/
structure Runs (S : Spd) (R : Road) (N : Nat) (v : Nat → Int) : Prop where
  z : v 0 = 0
  d : ∀ k, k < N → tQ S R.ps (k + 1) - tQ S R.ps k ≤ v (k + 1) - v k ∧ v (k + 1) - v k ≤ tSl S R.ps (k + 1) - tSl S R.ps k
theorem Runs.le {S : Spd} {R : Road} {N : Nat} {v : Nat → Int} (h : Runs S R N v) {a : Nat} : ∀ d : Nat, a + d ≤ N → tQ S R.ps (a + d) - tQ S R.ps a ≤ v (a + d) - v a ∧ v (a + d) - v a ≤ tSl S R.ps (a + d) - tSl S R.ps a
  | 0, _ => by simp
  | d + 1, hd => by
    have h1 := h.le (a := a) d (by omega)
    have h2 := h.d (a + d) (by omega)
    rw [← Nat.add_assoc]
    omega
theorem Runs.at_ {S : Spd} {R : Road} {N : Nat} {v : Nat → Int} (h : Runs S R N v) {a b : Nat} (hab : a ≤ b) (hb : b ≤ N) : tQ S R.ps b - tQ S R.ps a ≤ v b - v a ∧ v b - v a ≤ tSl S R.ps b - tSl S R.ps a := by
  have := h.le (a := a) (b - a) (by omega)
  rwa [show a + (b - a) = b by omega] at this
theorem Runs.bd {S : Spd} {R : Road} {N : Nat} {v : Nat → Int} (h : Runs S R N v) (hS : SOK S) (hv : OK R) {b : Nat} (hb : b ≤ N) : 0 ≤ v b ∧ v b ≤ 1000070000000 := by
  have h1 := h.at_ (Nat.zero_le b) hb
  have h2 := tSl_bd hS hv b
  have h3 := tQ_bd hS hv b
  rw [h.z, tQ_zero, tSl_zero] at h1
  omega
theorem Runs.up {S : Spd} {R : Road} {N : Nat} {v : Nat → Int} (h : Runs S R N v) (hS : SOK S) (hv : OK R) {a b : Nat} (hab : a ≤ b) (hb : b ≤ N) : v a ≤ v b := by
  have h1 := (h.at_ hab hb).1
  have h2 := tQ_mono hS hv hab
  omega
end Go.Proofs.YtijcbfhlhgjedaaDoor

/- The theorem of delays: the first best choice is the best one; calls read at the place 0 in time are late in no plan: plain. No program in sight. -/
namespace Go.Proofs.YtijcbfhlhgjedaaDoor
open Go.RowKit Go.Shelf Go.Sort Go.Proofs

theorem it_itC {Q : Int → Int} {a : Int} {cs : List CallR} : ∀ (us : List Int) {f : Nat} {s v : Int}, chO cs.length f us → itC Q a cs us f s v = itM Q a cs us s v
  | [], _, _, _, _ => rfl
  | i :: is, f, s, v, h => by
    obtain ⟨k, rfl, h1, h2, h3⟩ := h
    have hx := List.getElem?_eq_getElem h2
    rw [itC_cons (by omega) hx, itM_cons hx]
    by_cases he : endsB Q a (cs[k]'h2) (s + (cs[k]'h2).lasts) = true
    · rw [if_pos he, if_pos he]
      exact it_itC is h3
    · rw [if_neg he, if_neg he]
theorem itC_it {Q : Int → Int} {a : Int} {cs : List CallR} : ∀ (us : List Int) {f : Nat} {s v w : Int}, itC Q a cs us f s v = some w → chO cs.length f us
  | [], _, _, _, _, _ => trivial
  | i :: is, f, s, v, w, h => by
    by_cases hi : (f : Int) ≤ i ∧ i < cs.length
    · obtain ⟨k, rfl⟩ : ∃ k : Nat, i = (k : Int) := ⟨i.toNat, by omega⟩
      have hk : k < cs.length := by omega
      have hx := List.getElem?_eq_getElem hk
      rw [itC_cons hi.1 hx] at h
      by_cases he : endsB Q a (cs[k]'hk) (s + (cs[k]'hk).lasts) = true
      · rw [if_pos he] at h
        exact ⟨k, rfl, by omega, hk, itC_it is (f := k + 1) h⟩
      · rw [if_neg he] at h
        cases h
    · rw [itC_no hi] at h
      cases h
/-- The first best choice is in time, worth most, and the first of those. -/
theorem better {Q : Int → Int} {a : Int} {cs : List CallR} {G : List Int} (h : Gr Q a cs (bv Q a cs 0) 0 0 0 G) : itC Q a cs G 0 0 0 = some (bv Q a cs 0) ∧ ∀ us v, itC Q a cs us 0 0 0 = some v → v ≤ bv Q a cs 0 ∧ (v = bv Q a cs 0 → bfL us G = false) := by
  refine ⟨?_, fun us v hv => ?_⟩
  · have h1 := h.ok
    have h2 := it_itC (Q := Q) (a := a) (s := 0) (v := 0) G h1.1
    exact h2.trans h1.2
  · have h1 : chO cs.length 0 us := itC_it us (f := 0) hv
    have h2 := it_itC (Q := Q) (a := a) (s := 0) (v := 0) us h1
    have h3 := h2.symm.trans hv
    have h4 := it_le us h1 h3
    rw [List.drop_zero] at h4
    refine ⟨by omega, fun e => ?_⟩
    rw [e] at h3
    exact h.min (by rw [List.drop_zero]; omega) us h1 h3
end Go.Proofs.YtijcbfhlhgjedaaDoor
