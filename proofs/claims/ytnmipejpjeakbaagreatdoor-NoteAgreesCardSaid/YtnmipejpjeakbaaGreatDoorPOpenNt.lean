/- Lists of notes that came in as arguments, opened. -/
import Derived.Test.YtnmipejpjeakbaaGreatDoorPCBase
import Derived.Test.YtnmipejpjeakbaaGreatDoorPCValid
import Derived.Test.YtnmipejpjeakbaaGreatDoorPCCheck
import Derived.Test.YtnmipejpjeakbaaGreatDoorPCReg
import Derived.Test.YtnmipejpjeakbaaGreatDoorPCGrouped
import Derived.Test.YtnmipejpjeakbaaGreatDoorPCAppS
import Derived.Test.YtnmipejpjeakbaaGreatDoorPCCorn
import Derived.Test.YtnmipejpjeakbaaGreatDoorPCReg8
import Derived.Test.YtnmipejpjeakbaaGreatDoorTie
import Derived.Test.YtnmipejpjeakbaaGreatDoorCards
import Derived.WalkKit
import Derived.ProofKit
import Derived.Handy
import Derived.Lay
import Derived.SevenTiedAt
import Derived.OpenShut
import Derived.Test.YtnmipejpjeakbaaGreatDoorPNList
namespace Go.Proofs.YtnmipejpjeakbaaGreatDoor
open Go.ChangeShapes Go.WideShapes Go.ChangeAt Go.RowKit Go.Deep Go.Joins

section
variable {H : Type} {enc : TypeId × Value → H} {P : Program} {w : World} {base : Nat} {spare : Nat → Bool} {held : Bool} {r : Reach} {b0 : Nat}
theorem slice_cap {t e : TypeId} {fuel : Nat} {A : Option Addr} {n c : Nat} {x : DataW H × List MemPlace} (ht : P.underlying t = some (.slice e)) (h : DataW.trod enc P w base spare held fuel t [.slice A n c] = some x) : n ≤ c ∧ n ≤ 9223372036854775807 := by
  rcases open_slice ht h with ⟨h0, _⟩ | ⟨a, len, cap, m, k, D, Pl, hcs, hb, hl, hm, _⟩
  · simp at h0
    omega
  · simp at hcs
    unfold maxLen at hm
    omega
set_option maxRecDepth 100000 in
theorem open_notes {v : Value} {d : DataW H} {p : List MemPlace} (hv : Value.okWide Tryz.prog w r b0 23 v) (h : DataW.Trod enc Tryz.prog w base spare held 23 v d p) :
    ∃ A n c xs, v = .slice A n c ∧ SL nC 10 w w.heap.size A n xs ∧ (n ≤ c ∧ n ≤ 9223372036854775807) := by
  obtain ⟨a0, len, cap, rfl⟩ := okWide_slice Tryz.underlying23 hv
  obtain ⟨fuel, hf⟩ := h
  have hcap := slice_cap Tryz.underlying23 (by simpa [Value.cells] using hf)
  obtain ⟨ra, rn, rc, F, e, q0⟩ := open_rows (c := .slice a0 len cap) Tryz.underlying23 Tryz.underlying36 (by kernel_rfl) (by kernel_rfl) (fun j f hj => by
    match j, hj with
    | 0, hj => cases hj; exact Tryz.underlying34
    | 1, hj | 2, hj | 3, hj | 4, hj | 5, hj | 6, hj | 7, hj | 8, hj | 9, hj => cases hj; exact Tryz.underlying3
    | j + 10, hj => cases hj) (by decide) (by simpa [Value.cells] using hf)
  cases e
  refine ⟨a0, len, cap, _, rfl, sl_of_rows F (fun G => (⟨G 0, G 1, G 2, G 3, G 4, G 5, G 6, G 7, G 8, G 9⟩ : NoteR)) (fun G j v hv => ?_) q0, hcap⟩
  match j, hv with
  | 0, hv | 1, hv | 2, hv | 3, hv | 4, hv | 5, hv | 6, hv | 7, hv | 8, hv | 9, hv => cases hv; exact ⟨by decide, rfl⟩
  | j + 10, hv => cases hv
end
end Go.Proofs.YtnmipejpjeakbaaGreatDoor
