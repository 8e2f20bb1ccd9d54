/- Speeds that came in as an argument: two numbers and two slices, opened to lists. -/
import Derived.Test.YtknjkcibkejieaaDoorCSpd
import Derived.ChangeSlices
namespace Go.Proofs.YtknjkcibkejieaaDoor
open Go.ChangeShapes Go.WideShapes Go.ChangeAt Go.RowKit Go.Deep Go.Joins

section
variable {H : Type} {enc : TypeId × Value → H} {w : World} {base : Nat} {spare : Nat → Bool} {held : Bool} {r : Reach} {b0 : Nat}
set_option maxRecDepth 100000 in
/-- A slice of ints that stands in one cell. -/
theorem open_is1 {c : Value} {fuel : Nat} {x : DataW H × List MemPlace} (hf : DataW.trod enc Tryd.prog w base spare held fuel 43 [c] = some x) :
    ∃ A n cp xs, c = .slice A n cp ∧ SL iC 1 w w.heap.size A n xs := by
  rcases open_ints Tryd.underlying43 Tryd.underlying3 (by kernel_rfl) hf with ⟨h0, _⟩ | ⟨a, len, cap, zs, h0, _, hlc, _, hz, _, hcell, _⟩
  · simp at h0
    exact ⟨none, 0, 0, [], h0, rfl, fun q => absurd q (by omega)⟩
  · simp at h0
    have hlz : len ≤ zs.length := by rw [hz]; split <;> omega
    refine ⟨some a, len, cap, zs.take len, h0, by rw [List.length_take]; omega, fun hn => ?_⟩
    have hc0 := hcell 0 (by omega)
    have hbl := block_lt_of_cell hc0
    have hsp := World.cell?_spot hc0
    obtain ⟨b, off, sp⟩ := a
    have hsp' : sp = none := by simpa [Addr.add] using hsp
    subst hsp'
    refine ⟨b, off, rfl, by simpa [Addr.add] using hbl, fun k x hx j v hv => ?_⟩
    have hk : k < len := by have := (List.getElem?_eq_some_iff.1 hx).1; rw [List.length_take] at this; omega
    rw [List.getElem?_take, if_pos hk] at hx
    have h1 := hcell k (by omega)
    have e0 : ((⟨b, off, none⟩ : Addr).add k) = ⟨b, off + k, none⟩ := by unfold Addr.add; split <;> simp_all
    rw [e0, List.getD, hx] at h1
    match j, hv with
    | 0, hv => cases hv; simpa using h1
    | j + 1, hv => cases hv
set_option maxRecDepth 100000 in
/-- Speeds by value. -/
theorem open_speeds {v : Value} {d : DataW H} {p : List MemPlace} (hv : Value.okWide Tryd.prog w r b0 45 v) (h : DataW.Trod enc Tryd.prog w base spare held 45 v d p) :
    ∃ ra rn rc sa sn sc S, v = .agg #[.int .i64 S.least, .int .i64 S.most, .slice ra rn rc, .slice sa sn sc] ∧ SD w w.heap.size ra rn sa sn S := by
  obtain ⟨v0, v1, v2, v3, y0, y1, y2, y3, n, rfl, _, _, h0, h1, h2, h3⟩ := open_agg4 Tryd.underlying45 (by kernel_rfl) (by kernel_rfl) hv h
  obtain ⟨x0, e0, _, _⟩ := DataW.trod_int Tryd.underlying3 h0
  obtain ⟨x1, e1, _, _⟩ := DataW.trod_int Tryd.underlying3 h1
  simp at e0 e1
  subst e0 e1
  obtain ⟨ra, rn, rc, F, rfl, q0⟩ := open_rows Tryd.underlying42 Tryd.underlying66 (by kernel_rfl) (by kernel_rfl) (fun j f hj => by
    match j, hj with
    | 0, hj | 1, hj | 2, hj => cases hj; exact Tryd.underlying3
    | j + 3, hj => cases hj) (by decide) h2
  obtain ⟨sa, sn, sc, xs, rfl, q1⟩ := open_is1 h3
  refine ⟨ra, rn, rc, sa, sn, sc, ⟨x0, x1, _, xs⟩, rfl, sl_of_rows F (fun G => (⟨G 0, G 1, G 2⟩ : SpRow)) (fun G j v hv => ?_) q0, q1⟩
  match j, hv with
  | 0, hv | 1, hv | 2, hv => cases hv; exact ⟨by decide, rfl⟩
  | j + 3, hv => cases hv
end
end Go.Proofs.YtknjkcibkejieaaDoor
