/- A road that came in as an argument, opened (the note rows). -/
import Derived.Test.YtnmipejpjeakbaaGreatDoorOpenE
namespace Go.Proofs.YtnmipejpjeakbaaGreatDoor
open Go.ChangeShapes Go.WideShapes Go.ChangeAt Go.RowKit Go.Deep Go.Joins

section
variable {H : Type} {enc : TypeId × Value → H} {P : Program} {w : World} {base : Nat} {spare : Nat → Bool} {held : Bool} {r : Reach} {b0 : Nat}
set_option maxRecDepth 100000 in
/-- A road by value. -/
theorem open_road {v : Value} {d : DataW H} {p : List MemPlace} (hv : Value.okWide Tryz.prog w r b0 63 v) (h : DataW.Trod enc Tryz.prog w base spare held 63 v d p) :
    ∃ pa pn pc ca cn cc ja jn jc R, v = .agg #[.slice pa pn pc, .slice ca cn cc, .slice ja jn jc] ∧ RD w w.heap.size pa pn ca cn ja jn R := by
  obtain ⟨v0, v1, v2, y0, y1, y2, n, rfl, _, _, h0, h1, h2⟩ := open_agg3 Tryz.underlying63 (by kernel_rfl) (by kernel_rfl) hv h
  obtain ⟨pa, pn, pc, F0, rfl, q0⟩ := open_rows Tryz.underlying59 Tryz.underlying107 (by kernel_rfl) (by kernel_rfl) (fun j f hj => by
    match j, hj with
    | 0, hj | 1, hj | 2, hj | 3, hj | 4, hj => cases hj; exact Tryz.underlying3
    | j + 5, hj => cases hj) (by decide) h0
  obtain ⟨ca, cn, cc, F1, rfl, q1⟩ := open_rows Tryz.underlying60 Tryz.underlying72 (by kernel_rfl) (by kernel_rfl) (fun j f hj => by
    match j, hj with
    | 0, hj | 1, hj => cases hj; exact Tryz.underlying3
    | j + 2, hj => cases hj) (by decide) h1
  obtain ⟨ja, jn, jc, F2, rfl, q2⟩ := open_rows Tryz.underlying61 Tryz.underlying74 (by kernel_rfl) (by kernel_rfl) (fun j f hj => by
    match j, hj with
    | 0, hj | 1, hj | 2, hj => cases hj; exact Tryz.underlying3
    | j + 3, hj => cases hj) (by decide) h2
  refine ⟨pa, pn, pc, ca, cn, cc, ja, jn, jc, ⟨_, _, _⟩, rfl,
    sl_of_rows F0 (fun G => (⟨G 0, G 1, G 2, G 3, G 4⟩ : Piece)) (fun G j v hv => ?_) q0,
    sl_of_rows F1 (fun G => (⟨G 0, G 1⟩ : Crest)) (fun G j v hv => ?_) q1,
    sl_of_rows F2 (fun G => (⟨G 0, G 1, G 2⟩ : Junc)) (fun G j v hv => ?_) q2⟩
  · match j, hv with
    | 0, hv | 1, hv | 2, hv | 3, hv | 4, hv => cases hv; exact ⟨by decide, rfl⟩
    | j + 5, hv => cases hv
  · match j, hv with
    | 0, hv | 1, hv => cases hv; exact ⟨by decide, rfl⟩
    | j + 2, hv => cases hv
  · match j, hv with
    | 0, hv | 1, hv | 2, hv => cases hv; exact ⟨by decide, rfl⟩
    | j + 3, hv => cases hv
end
section
variable {H : Type} {enc : TypeId × Value → H} {P : Program} {w : World} {base : Nat} {spare : Nat → Bool} {held : Bool}
theorem slice_len {t e : TypeId} {fuel : Nat} {A : Option Addr} {n c : Nat} {x : DataW H × List MemPlace} (ht : P.underlying t = some (.slice e)) (h : DataW.trod enc P w base spare held fuel t [.slice A n c] = some x) : n ≤ 9223372036854775807 := by
  rcases open_slice ht h with ⟨h0, _⟩ | ⟨a, len, cap, m, k, D, Pl, hcs, hb, hl, hm, _⟩
  · simp at h0
    omega
  · simp at hcs
    unfold maxLen at hm
    omega
set_option maxRecDepth 100000 in
theorem road_len {pa : Option Addr} {pn pc : Nat} {v1 v2 : Value} {r : Reach} {b0 : Nat} {d : DataW H} {p : List MemPlace} (hv : Value.okWide Tryz.prog w r b0 63 (.agg #[.slice pa pn pc, v1, v2])) (h : DataW.Trod enc Tryz.prog w base spare held 63 (.agg #[.slice pa pn pc, v1, v2]) d p) : pn ≤ 9223372036854775807 := by
  obtain ⟨x0, x1, x2, y0, y1, y2, n, he, _, _, h0, _, _⟩ := open_agg3 Tryz.underlying63 (by kernel_rfl) (by kernel_rfl) hv h
  simp only [Value.agg.injEq, Array.mk.injEq, List.cons.injEq] at he
  obtain ⟨rfl, _⟩ := he
  exact slice_len Tryz.underlying59 h0
end
end Go.Proofs.YtnmipejpjeakbaaGreatDoor
