/- Speeds that came in as an argument: two numbers and two slices, opened to lists. -/
import Derived.Test.YtafclpmnpamipaaGreatQSpd
import Derived.ChangeSlices
import Derived.Test.YtafclpmnpamipaaGreatQPlanM
import Derived.WalkMore
import Derived.LoopN
import Derived.Test.YtafclpmnpamipaaGreatQBeg
import Derived.Test.YtafclpmnpamipaaGreatQBegB
import Derived.Test.YtafclpmnpamipaaGreatQRef3
import Derived.Test.YtafclpmnpamipaaGreatQRegV
import Derived.Test.YtafclpmnpamipaaGreatQAppS
import Derived.Test.YtafclpmnpamipaaGreatQCorn
import Derived.Test.YtafclpmnpamipaaGreatQValid
import Derived.Test.YtafclpmnpamipaaGreatQOpen
import Derived.Test.YtafclpmnpamipaaGreatQReg8
import Derived.Test.YtafclpmnpamipaaGreatQFind
import Derived.Test.YtafclpmnpamipaaGreatQReg
import Derived.Test.YtafclpmnpamipaaGreatQReg7
import Derived.Test.YtafclpmnpamipaaGreatQStr1
namespace Go.Proofs.YtafclpmnpamipaaGreat
open Go.ChangeShapes Go.WideShapes Go.ChangeAt Go.RowKit Go.Deep Go.Joins

section
variable {H : Type} {enc : TypeId × Value → H} {w : World} {base : Nat} {spare : Nat → Bool} {held : Bool} {r : Reach} {b0 : Nat}
set_option maxRecDepth 100000 in
/-- A slice of ints that stands in one cell. -/
theorem open_is1 {c : Value} {fuel : Nat} {x : DataW H × List MemPlace} (hf : DataW.trod enc Tryz.prog w base spare held fuel 28 [c] = some x) :
    ∃ A n cp xs, c = .slice A n cp ∧ SL iC 1 w w.heap.size A n xs := by
  rcases open_ints Tryz.underlying28 Tryz.underlying3 (by kernel_rfl) hf with ⟨h0, _⟩ | ⟨a, len, cap, zs, h0, _, hlc, _, hz, _, hcell, _⟩
  · simp at h0
    exact ⟨none, 0, 0, [], h0, rfl, fun q => absurd q (by omega)⟩
  · simp at h0
    have hlz : len ≤ zs.length := by rw [hz]; split <;> omega
    refine ⟨some a, len, cap, zs.take len, h0, by rw [List.length_take]; omega, fun hn => ?_⟩
    have hc0 := hcell 0 (by omega)
    have hbl := block_lt_of_cell hc0
    have hsp := World.cell?_spot hc0
    obtain ⟨b, off, sp⟩ := a
    have hsp' : sp = none := by simpa [Addr.add] using hsp
    subst hsp'
    refine ⟨b, off, rfl, by simpa [Addr.add] using hbl, fun k x hx j v hv => ?_⟩
    have hk : k < len := by have := (List.getElem?_eq_some_iff.1 hx).1; rw [List.length_take] at this; omega
    rw [List.getElem?_take, if_pos hk] at hx
    have h1 := hcell k (by omega)
    have e0 : ((⟨b, off, none⟩ : Addr).add k) = ⟨b, off + k, none⟩ := by unfold Addr.add; split <;> simp_all
    rw [e0, List.getD, hx] at h1
    match j, hv with
    | 0, hv => cases hv; simpa using h1
    | j + 1, hv => cases hv
set_option maxRecDepth 100000 in
/-- Speeds by value. -/
theorem open_speeds {v : Value} {d : DataW H} {p : List MemPlace} (hv : Value.okWide Tryz.prog w r b0 30 v) (h : DataW.Trod enc Tryz.prog w base spare held 30 v d p) :
    ∃ ra rn rc sa sn sc S, v = .agg #[.int .i64 S.least, .int .i64 S.most, .slice ra rn rc, .slice sa sn sc] ∧ SD w w.heap.size ra rn sa sn S := by
  obtain ⟨v0, v1, v2, v3, y0, y1, y2, y3, n, rfl, _, _, h0, h1, h2, h3⟩ := open_agg4 Tryz.underlying30 (by kernel_rfl) (by kernel_rfl) hv h
  obtain ⟨x0, e0, _, _⟩ := DataW.trod_int Tryz.underlying3 h0
  obtain ⟨x1, e1, _, _⟩ := DataW.trod_int Tryz.underlying3 h1
  simp at e0 e1
  subst e0 e1
  obtain ⟨ra, rn, rc, F, rfl, q0⟩ := open_rows Tryz.underlying27 Tryz.underlying87 (by kernel_rfl) (by kernel_rfl) (fun j f hj => by
    match j, hj with
    | 0, hj | 1, hj | 2, hj => cases hj; exact Tryz.underlying3
    | j + 3, hj => cases hj) (by decide) h2
  obtain ⟨sa, sn, sc, xs, rfl, q1⟩ := open_is1 h3
  refine ⟨ra, rn, rc, sa, sn, sc, ⟨x0, x1, _, xs⟩, rfl, sl_of_rows F (fun G => (⟨G 0, G 1, G 2⟩ : SpRow)) (fun G j v hv => ?_) q0, q1⟩
  match j, hv with
  | 0, hv | 1, hv | 2, hv => cases hv; exact ⟨by decide, rfl⟩
  | j + 3, hv => cases hv
end
end Go.Proofs.YtafclpmnpamipaaGreat

/- room: when a run must be at a trigger at the latest, and the first call that would end too late. -/
namespace Go.Proofs.YtafclpmnpamipaaGreat
open Go.RowKit Go.Shelf Go.Sort Go.Proofs

theorem KS5.at_ {w : World} {B n : Nat} {A : Option Addr} {xs : List CallR} (h : SL caC 5 w B A n xs) {k : Nat} (hk : k < xs.length) : ∃ b off, A = some ⟨b, off, none⟩ ∧ b < B ∧
    w.cell? ⟨b, off + k * 5, none⟩ = some (.int .i64 xs[k].place) ∧ w.cell? ⟨b, off + k * 5 + 1, none⟩ = some (.int .i64 xs[k].lasts) ∧ w.cell? ⟨b, off + k * 5 + 2, none⟩ = some (.int .i64 xs[k].lead) ∧
    w.cell? ⟨b, off + k * 5 + 3, none⟩ = some (.int .i64 xs[k].ahead) ∧ w.cell? ⟨b, off + k * 5 + 4, none⟩ = some (.int .i64 xs[k].value) := by
  obtain ⟨b, off, e, hb, hc⟩ := h.at_ hk
  exact ⟨b, off, e, hb, hc 0 _ rfl, hc 1 _ rfl, hc 2 _ rfl, hc 3 _ rfl, hc 4 _ rfl⟩
end Go.Proofs.YtafclpmnpamipaaGreat

/- pace.Plan: the latest plan, or the clash. -/
namespace Go.Proofs.YtafclpmnpamipaaGreat
open Go.RowKit Go.Shelf Go.Sort Go.Proofs

/-- The most sum of times up to a place. -/
def sS (S : Spd) (R : Road) (p : Int) : Int := tSl S R.ps p.toNat
end Go.Proofs.YtafclpmnpamipaaGreat

/- The document's straight road and its speeds: plain numbers. -/
namespace Go.Proofs.YtafclpmnpamipaaGreat
open Go.RowKit Go.Shelf Go.Sort Go.Proofs

theorem SL.of_blk {α : Type} {f : α → List Value} {sz : Nat} {w : World} {B g : Nat} {t : TypeId} {cs : Array Value} {xs : List α} (hb : BK w g t cs) (hcs : cs.toList = xs.flatMap f) (hf : ∀ x, (f x).length = sz) (hg : g < B) :
    SL f sz w B (some ⟨g, 0, none⟩) xs.length xs := by
  refine ⟨rfl, fun _ => ⟨g, 0, rfl, hg, fun i x hx j v hv => ?_⟩⟩
  rw [hb.cell, ← Array.getElem?_toList, hcs, Nat.zero_add]
  exact flat_at hf xs i x hx j v hv
def kR : Road := ⟨[⟨1000, 0, 0, 50, 1⟩], [], []⟩
def kS : Spd := ⟨100, 200, [⟨5, 50, 100⟩], [100, 100, 100, 100, 100, 100, 100, 100, 100]⟩
theorem kR_ok : OK kR := (val_iff _).1 (by decide)
theorem kS_ok : SOK kS := (spB_iff _).1 (by decide)
theorem kR_len : sumL kR.ps = 1000 := by decide
theorem tQ_one (S : Spd) (p : Piece) (h : 0 ≤ p.len) : tQ S [p] p.len.toNat = p.len * mQ S p ∧ tSl S [p] p.len.toNat = p.len * mSl S p := by
  unfold tQ tSl
  rw [units_one, List.take_of_length_le (by simp), List.map_replicate, List.map_replicate]
  have key : ∀ (n : Nat) (a : Int), (List.replicate n a).sum = n * a := by
    intro n a
    induction n with
    | zero => simp
    | succ n ih => rw [List.replicate_succ, List.sum_cons, ih, Int.natCast_add, Int.add_mul]; simp; omega
  rw [key, key, mQ_one, mSl_one, Int.toNat_of_nonneg h]
  exact ⟨rfl, rfl⟩
theorem kBtw : btw kS kR 0 1000 = (50000000, 100000000, 0) := by
  have h := tQ_one kS ⟨1000, 0, 0, 50, 1⟩ (by decide)
  have h1 : tQ kS kR.ps 1000 = 50000000 := h.1.trans (by decide)
  have h2 : tSl kS kR.ps 1000 = 100000000 := h.2.trans (by decide)
  unfold btw
  rw [if_pos (by decide)]
  show (tQ kS kR.ps 1000 - tQ kS kR.ps 0, tSl kS kR.ps 1000 - tSl kS kR.ps 0, (0 : Int)) = _
  rw [h1, h2, tQ_zero, tSl_zero]
  rfl
end Go.Proofs.YtafclpmnpamipaaGreat

/- The chapter's examples of plans: plain numbers. -/
namespace Go.Proofs.YtafclpmnpamipaaGreat
open Go.RowKit Go.Shelf Go.Sort Go.Proofs

theorem tQ_part (S : Spd) (p : Piece) (k : Nat) (h : (k : Int) ≤ p.len) : tQ S [p] k = k * mQ S p ∧ tSl S [p] k = k * mSl S p := by
  unfold tQ tSl
  rw [units_one, List.take_replicate, Nat.min_eq_left (by omega), List.map_replicate, List.map_replicate]
  have key : ∀ (n : Nat) (a : Int), (List.replicate n a).sum = n * a := by
    intro n a
    induction n with
    | zero => simp
    | succ n ih => rw [List.replicate_succ, List.sum_cons, ih, Int.natCast_add, Int.add_mul]; simp; omega
  rw [key, key, mQ_one, mSl_one]
  exact ⟨rfl, rfl⟩
theorem kQ (k : Nat) (h : k ≤ 1000) : tQ kS kR.ps k = 50000 * k ∧ tSl kS kR.ps k = 100000 * k := by
  have := tQ_part kS ⟨1000, 0, 0, 50, 1⟩ k (by show (k : Int) ≤ 1000; omega)
  have e1 : mQ kS ⟨1000, 0, 0, 50, 1⟩ = 50000 := by decide
  have e2 : mSl kS ⟨1000, 0, 0, 50, 1⟩ = 100000 := by decide
  rw [e1, e2] at this
  exact ⟨by show tQ kS [_] k = _; rw [this.1]; omega, by show tSl kS [_] k = _; rw [this.2]; omega⟩
theorem ks (k : Nat) (h : k ≤ 1000) : sS kS kR (k : Int) = 100000 * k := (kQ k h).2
end Go.Proofs.YtafclpmnpamipaaGreat

/- The document's times: meter and Between. -/
namespace Go.Proofs.YtafclpmnpamipaaGreat
open Go.RowKit Go.Shelf Go.Sort Go.Proofs

theorem at_ex {ps : List Piece} {x : Int} (h0 : 0 ≤ x) (h1 : x < sumL ps) : ∃ i, At ps x i := by
  have key : ∀ k, k ≤ ps.length → x < sumL (ps.take k) → ∃ i, At ps x i := by
    intro k
    induction k with
    | zero => intro _ hx; simp [sumL] at hx; omega
    | succ k ih =>
      intro hk hx
      by_cases hy : x < sumL (ps.take k)
      · exact ih (by omega) hy
      · exact ⟨k, by omega, by omega, hx⟩
  exact key ps.length (Nat.le_refl _) (by rw [List.take_length]; exact h1)
end Go.Proofs.YtafclpmnpamipaaGreat

/- The document's plan and the plan: plain: late at the start, the greatest trigger. No program in sight. -/
namespace Go.Proofs.YtafclpmnpamipaaGreat
open Go.RowKit Go.Shelf Go.Sort Go.Proofs

end Go.Proofs.YtafclpmnpamipaaGreat

/- A good plan as the document says it: plain. No program in sight. -/
namespace Go.Proofs.YtafclpmnpamipaaGreat
open Go.RowKit Go.Shelf Go.Sort Go.Proofs

end Go.Proofs.YtafclpmnpamipaaGreat

/- The latest plan is good, no good plan has a greater trigger, and where there is none no plan is good: plain. No program in sight. -/
namespace Go.Proofs.YtafclpmnpamipaaGreat
open Go.RowKit Go.Shelf Go.Sort Go.Proofs

/-- A meter of a road takes some time. -/
theorem meter_at {S : Spd} {R : Road} (hS : SOK S) (hv : OK R) {k : Nat} (hk : (k : Int) < sumL R.ps) : ∃ p, pOk p = true ∧ (units R.ps)[k]? = some (one p) ∧ (0 ≤ mQ S (one p) ∧ mQ S (one p) ≤ 10000000) ∧ 1 ≤ mSl S (one p) ∧ mSl S (one p) ≤ 10000700 := by
  obtain ⟨i, hat⟩ := at_ex (ps := R.ps) (x := (k : Int)) (by omega) hk
  have hpi := List.getElem?_eq_getElem hat.1
  have hux := at_units (fun q hq => by have := pOk_len (hv.pk q hq); omega) (by omega) hat hpi
  rw [Int.toNat_natCast] at hux
  have hp := hv.pk _ (List.getElem_mem hat.1)
  refine ⟨_, hp, hux, ?_⟩
  rw [mQ_one, mSl_one]
  exact ⟨mQ_bd hS hp, mSl_bd hS hp⟩
end Go.Proofs.YtafclpmnpamipaaGreat

/- A track of which only its length is known: place, calls, triggers. -/
namespace Go.Proofs.YtafclpmnpamipaaGreat
open Go.RowKit Go.Shelf Go.Sort Go.Proofs

structure TL (w : World) (B g : Nat) (ta : Option Addr) (tc N : Nat) : Prop where
  lt : g < B
  c3 : w.cell? ⟨g, 3, none⟩ = some (.slice ta (N + 1) tc)
theorem TL.grow {w w' : World} {B B' g : Nat} {ta : Option Addr} {tc N : Nat} (h : TL w B g ta tc N) (hb : Below B w w') (hB : B ≤ B') : TL w' B' g ta tc N :=
  ⟨Nat.lt_of_lt_of_le h.lt hB, (hb.cell (p := ⟨g, 3, none⟩) h.lt).trans h.c3⟩
end Go.Proofs.YtafclpmnpamipaaGreat

/- pace.Said: when each call ends. -/
namespace Go.Proofs.YtafclpmnpamipaaGreat
open Go.RowKit Go.Shelf Go.Sort Go.Proofs

attribute [local go_sem] Oper.semAt_some

end Go.Proofs.YtafclpmnpamipaaGreat

/- layer 3's known examples. -/
namespace Go.Proofs.YtafclpmnpamipaaGreat
open Go.RowKit Go.Shelf Go.Sort Go.Proofs

theorem sl_ints {w : World} {B b : Nat} {t : TypeId} (xs : List Int) (h : BK w b t (xs.map fun i => Value.int .i64 i).toArray) (hb : b < B) : IS w B (some ⟨b, 0, none⟩) xs.length xs := by
  refine ⟨rfl, fun _ => ⟨b, 0, rfl, hb, fun i x hx j v hv => ?_⟩⟩
  match j, hv with
  | 0, hv =>
    cases hv
    have := h.cell (0 + i * 1 + 0)
    rw [this, List.getElem?_toArray, List.getElem?_map, show 0 + i * 1 + 0 = i by omega, hx]
    rfl
  | j + 1, hv => cases hv
end Go.Proofs.YtafclpmnpamipaaGreat
