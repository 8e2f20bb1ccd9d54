/- A road that came in as an argument: its three slices, opened to lists. -/
import Derived.Test.YtafclpmnpamipaaGreatRows
import Derived.Test.YtafclpmnpamipaaGreatQRoad
import Derived.ProofKit
import Derived.OpenShut
import Derived.ChangeOld
import Derived.Deep.Slices
import Derived.Deep.Fields
import Derived.Lib.SmallJoins
import Derived.ChangeSlices
namespace Go.Proofs.YtafclpmnpamipaaGreat
open Go.ChangeShapes Go.WideShapes Go.ChangeAt Go.RowKit Go.Deep Go.Joins

theorem own : ownKnob Tryz.prog.godebug = none := by kernel_rfl
theorem laidOut : laidOutB Tryz.prog = true := by kernel_rfl
section
variable {H : Type} {enc : TypeId × Value → H} {P : Program} {w : World} {base : Nat} {spare : Nat → Bool} {held : Bool}
/-- A slice of structs whose fields are all ints, of whatever number. -/
theorem open_rows {t e : TypeId} {fs : Array Field} {fuel : Nat} {c : Value} {x : DataW H × List MemPlace} (ht : P.underlying t = some (.slice e)) (he : P.underlying e = some (.struct fs))
    (hone : oneCellFields P fs = true) (hC : P.cellsOf e = fs.size) (hint : ∀ (j : Nat) (f : Field), fs[j]? = some f → P.underlying f.type = some (.int .i64)) (hpos : 0 < fs.size) (h : DataW.trod enc P w base spare held fuel t [c] = some x) :
    ∃ (A : Option Addr) (n cp : Nat) (F : Nat → Nat → Int), c = .slice A n cp ∧ (0 < n → ∃ b off, A = some ⟨b, off, none⟩ ∧ b < w.heap.size ∧
      ∀ i, i < n → ∀ j, j < fs.size → w.cell? ⟨b, off + i * fs.size + j, none⟩ = some (.int .i64 (F i j))) := by
  rcases open_slice ht h with ⟨h0, _⟩ | ⟨a, len, cap, m, n, D, Pl, hcs, hb, hl, hm, hmm, hx, hi⟩
  · simp at h0
    exact ⟨none, 0, 0, fun _ _ => 0, h0, fun q => absurd q (by omega)⟩
  · have hlm : len ≤ m := by rw [hmm]; split <;> omega
    have key : ∀ i, i < len → ∃ G : Nat → Int, ∀ j, j < fs.size → w.cell? (a.add (i * fs.size + j)) = some (.int .i64 (G j)) := by
      intro i hil
      obtain ⟨cs', hc, ht'⟩ := hi i (by omega)
      rw [hC] at hc
      obtain ⟨ys, n', hn', hy, hlen, hyl, hf⟩ := DataW.trod_struct he ht'
      obtain ⟨_, hcl, hat⟩ := World.cells?_some hc
      refine choose_lt (α := Int) (p := fun j q => w.cell? (a.add (i * fs.size + j)) = some (.int .i64 q)) fun j hj => ?_
      obtain ⟨ho, hk⟩ := hone_of hone j fs[j] (Array.getElem?_eq_getElem hj)
      have hcell := hat j hj
      have h1 := hf j fs[j] (Array.getElem?_eq_getElem hj)
      rw [ho, hk] at h1
      have hone' : (cs'.drop j).take 1 = [cs'[j]'(by omega)] := by
        rw [List.drop_eq_getElem_cons (by omega)]
        rfl
      rw [hone'] at h1
      have hys : ys[j]? = some (ys[j]'(by omega)) := List.getElem?_eq_getElem (by omega)
      obtain ⟨q, hq, _, _⟩ := DataW.trod_int (hint j _ (Array.getElem?_eq_getElem hj)) (h1.trans hys)
      refine ⟨q, ?_⟩
      rw [← Go.Deep.add_add, hcell, List.getElem?_eq_getElem (by omega)]
      simpa using hq
    obtain ⟨F, hF⟩ := choose_lt (α := Nat → Int) (p := fun i G => ∀ j, j < fs.size → w.cell? (a.add (i * fs.size + j)) = some (.int .i64 (G j))) key
    simp at hcs
    subst hcs
    refine ⟨some a, len, cap, F, rfl, fun hn => ?_⟩
    have h0 := hF 0 hn 0 hpos
    have hbl := block_lt_of_cell h0
    have hsp := World.cell?_spot h0
    obtain ⟨b, off, sp⟩ := a
    simp only [Nat.zero_mul, Nat.add_zero] at h0 hbl hsp
    have hsp' : sp = none := by simpa [Addr.add] using hsp
    subst hsp'
    refine ⟨b, off, rfl, by simpa [Addr.add] using hbl, fun i hi' j hj => ?_⟩
    have := hF i hi' j hj
    have e0 : ((⟨b, off, none⟩ : Addr).add (i * fs.size + j)) = ⟨b, off + i * fs.size + j, none⟩ := by unfold Addr.add; split <;> simp_all [Nat.add_assoc]
    rwa [e0] at this
variable {r : Reach} {b0 : Nat}
theorem sl_of_rows {α : Type} {f : α → List Value} {sz n : Nat} {A : Option Addr} (F : Nat → Nat → Int) (mk : (Nat → Int) → α) (hf : ∀ G, ∀ j v, (f (mk G))[j]? = some v → j < sz ∧ v = .int .i64 (G j))
    (h : 0 < n → ∃ b off, A = some ⟨b, off, none⟩ ∧ b < w.heap.size ∧ ∀ i, i < n → ∀ j, j < sz → w.cell? ⟨b, off + i * sz + j, none⟩ = some (.int .i64 (F i j))) :
    SL f sz w w.heap.size A n ((List.range n).map fun i => mk (F i)) := by
  refine ⟨by simp, fun hn => ?_⟩
  obtain ⟨b, off, e, hb, hc⟩ := h hn
  refine ⟨b, off, e, hb, fun i x hx j v hv => ?_⟩
  have hi : i < n := by have := (List.getElem?_eq_some_iff.1 hx).1; simpa using this
  rw [List.getElem?_map, List.getElem?_range hi] at hx
  cases hx
  obtain ⟨hj, rfl⟩ := hf _ j v hv
  exact hc i hi j hj
set_option maxRecDepth 100000 in
/-- A road by value. -/
theorem open_road {v : Value} {d : DataW H} {p : List MemPlace} (hv : Value.okWide Tryz.prog w r b0 26 v) (h : DataW.Trod enc Tryz.prog w base spare held 26 v d p) :
    ∃ pa pn pc ca cn cc ja jn jc R, v = .agg #[.slice pa pn pc, .slice ca cn cc, .slice ja jn jc] ∧ RD w w.heap.size pa pn ca cn ja jn R := by
  obtain ⟨v0, v1, v2, y0, y1, y2, n, rfl, _, _, h0, h1, h2⟩ := open_agg3 Tryz.underlying26 (by kernel_rfl) (by kernel_rfl) hv h
  obtain ⟨pa, pn, pc, F0, rfl, q0⟩ := open_rows Tryz.underlying22 Tryz.underlying89 (by kernel_rfl) (by kernel_rfl) (fun j f hj => by
    match j, hj with
    | 0, hj | 1, hj | 2, hj | 3, hj | 4, hj => cases hj; exact Tryz.underlying3
    | j + 5, hj => cases hj) (by decide) h0
  obtain ⟨ca, cn, cc, F1, rfl, q1⟩ := open_rows Tryz.underlying23 Tryz.underlying146 (by kernel_rfl) (by kernel_rfl) (fun j f hj => by
    match j, hj with
    | 0, hj | 1, hj => cases hj; exact Tryz.underlying3
    | j + 2, hj => cases hj) (by decide) h1
  obtain ⟨ja, jn, jc, F2, rfl, q2⟩ := open_rows Tryz.underlying24 Tryz.underlying148 (by kernel_rfl) (by kernel_rfl) (fun j f hj => by
    match j, hj with
    | 0, hj | 1, hj | 2, hj => cases hj; exact Tryz.underlying3
    | j + 3, hj => cases hj) (by decide) h2
  refine ⟨pa, pn, pc, ca, cn, cc, ja, jn, jc, ⟨_, _, _⟩, rfl,
    sl_of_rows F0 (fun G => (⟨G 0, G 1, G 2, G 3, G 4⟩ : Piece)) (fun G j v hv => ?_) q0,
    sl_of_rows F1 (fun G => (⟨G 0, G 1⟩ : Crest)) (fun G j v hv => ?_) q1,
    sl_of_rows F2 (fun G => (⟨G 0, G 1, G 2⟩ : Junc)) (fun G j v hv => ?_) q2⟩
  · match j, hv with
    | 0, hv | 1, hv | 2, hv | 3, hv | 4, hv => cases hv; exact ⟨by decide, rfl⟩
    | j + 5, hv => cases hv
  · match j, hv with
    | 0, hv | 1, hv => cases hv; exact ⟨by decide, rfl⟩
    | j + 2, hv => cases hv
  · match j, hv with
    | 0, hv | 1, hv | 2, hv => cases hv; exact ⟨by decide, rfl⟩
    | j + 3, hv => cases hv
end
end Go.Proofs.YtafclpmnpamipaaGreat

/- A slice of ints that came in as an argument, opened to a list. -/
namespace Go.Proofs.YtafclpmnpamipaaGreat
open Go.ChangeShapes Go.WideShapes Go.ChangeAt Go.RowKit Go.Deep Go.Joins

section
variable {H : Type} {enc : TypeId × Value → H} {w : World} {base : Nat} {spare : Nat → Bool} {held : Bool} {r : Reach} {b0 : Nat}
set_option maxRecDepth 100000 in
theorem open_is {v : Value} {d : DataW H} {p : List MemPlace} (hv : Value.okWide Tryz.prog w r b0 28 v) (h : DataW.Trod enc Tryz.prog w base spare held 28 v d p) :
    ∃ A n c xs, v = .slice A n c ∧ SL iC 1 w w.heap.size A n xs := by
  obtain ⟨a0, len, cap, rfl⟩ := okWide_slice Tryz.underlying28 hv
  obtain ⟨fuel, hf⟩ := h
  rcases open_ints Tryz.underlying28 Tryz.underlying3 (by kernel_rfl) hf with ⟨h0, _⟩ | ⟨a, l2, c2, zs, h0, _, hlc, _, hz, _, hcell, _⟩
  · simp [Value.cells] at h0
    obtain ⟨rfl, rfl, rfl⟩ := h0
    exact ⟨none, 0, 0, [], rfl, rfl, fun q => absurd q (by omega)⟩
  · simp [Value.cells] at h0
    obtain ⟨rfl, rfl, rfl⟩ := h0
    have hlz : len ≤ zs.length := by rw [hz]; split <;> omega
    refine ⟨some a, len, cap, zs.take len, rfl, by rw [List.length_take]; omega, fun hn => ?_⟩
    have hc0 := hcell 0 (by omega)
    have hbl := block_lt_of_cell hc0
    have hsp := World.cell?_spot hc0
    obtain ⟨b, off, sp⟩ := a
    have hsp' : sp = none := by simpa [Addr.add] using hsp
    subst hsp'
    refine ⟨b, off, rfl, by simpa [Addr.add] using hbl, fun k x hx j v hv => ?_⟩
    have hk : k < len := by have := (List.getElem?_eq_some_iff.1 hx).1; rw [List.length_take] at this; omega
    rw [List.getElem?_take, if_pos hk] at hx
    have h1 := hcell k (by omega)
    have e0 : ((⟨b, off, none⟩ : Addr).add k) = ⟨b, off + k, none⟩ := by unfold Addr.add; split <;> simp_all
    rw [e0, List.getD, hx] at h1
    match j, hv with
    | 0, hv => cases hv; simpa using h1
    | j + 1, hv => cases hv
end
end Go.Proofs.YtafclpmnpamipaaGreat
