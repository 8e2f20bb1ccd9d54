/- Calls that came in as an argument, opened to a list. -/
import Derived.Test.YtijcbfhlhgjedaaDoorCSpd
import Derived.Test.YtijcbfhlhgjedaaDoorCPlanM
namespace Go.Proofs.YtijcbfhlhgjedaaDoor
open Go.ChangeShapes Go.WideShapes Go.ChangeAt Go.RowKit Go.Deep Go.Joins

section
variable {H : Type} {enc : TypeId × Value → H} {w : World} {base : Nat} {spare : Nat → Bool} {held : Bool} {r : Reach} {b0 : Nat}
set_option maxRecDepth 100000 in
theorem open_calls {v : Value} {d : DataW H} {p : List MemPlace} (hv : Value.okWide Tryd.prog w r b0 55 v) (h : DataW.Trod enc Tryd.prog w base spare held 55 v d p) :
    ∃ A n c xs, v = .slice A n c ∧ SL caC 5 w w.heap.size A n xs := by
  obtain ⟨a0, len, cap, rfl⟩ := okWide_slice Tryd.underlying55 hv
  obtain ⟨fuel, hf⟩ := h
  obtain ⟨ra, rn, rc, F, e, q0⟩ := open_rows (c := .slice a0 len cap) Tryd.underlying55 Tryd.underlying75 (by kernel_rfl) (by kernel_rfl) (fun j f hj => by
    match j, hj with
    | 0, hj | 1, hj | 2, hj | 3, hj | 4, hj => cases hj; exact Tryd.underlying3
    | j + 5, hj => cases hj) (by decide) (by simpa [Value.cells] using hf)
  cases e
  refine ⟨a0, len, cap, _, rfl, sl_of_rows F (fun G => (⟨G 0, G 1, G 2, G 3, G 4⟩ : CallR)) (fun G j v hv => ?_) q0⟩
  match j, hv with
  | 0, hv | 1, hv | 2, hv | 3, hv | 4, hv => cases hv; exact ⟨by decide, rfl⟩
  | j + 5, hv => cases hv
end
end Go.Proofs.YtijcbfhlhgjedaaDoor
