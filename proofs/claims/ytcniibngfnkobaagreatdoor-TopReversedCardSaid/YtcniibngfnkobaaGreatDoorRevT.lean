/- The notes of a reversed road, plain: its corners in the reverse order, to the other side. No program in sight. -/
import Derived.Test.YtcniibngfnkobaaGreatDoorBackT
namespace Go.Proofs.YtcniibngfnkobaaGreatDoor
open Go.RowKit Go.Shelf Go.Sort Go.Proofs

/-- A corner's note on the way back. -/
def mirN (x : NoteR) : NoteR := if x.ch ≠ 0 then ⟨x.k, -x.tu, x.ton, x.lo, -x.ch, x.gr, x.me, x.si, x.wa, x.ar⟩ else ⟨x.k, -x.tu, x.gr, x.lo, x.ch, x.ton, x.me, x.si, x.wa, x.ar⟩
theorem cornN_mir (b : BkR) (n : Int) (k : Corner) : cornN b (mirC n k) = mirN (cornN b k) := by
  unfold cornN mirC
  dsimp only
  by_cases h1 : b.ra * k.out ≤ 100 * k.inn ∧ gradeI b k.out < gradeI b k.inn
  · have h2 : ¬ (b.ra * k.inn ≤ 100 * k.out ∧ gradeI b k.inn < gradeI b k.out) := fun q => by omega
    rw [if_neg h2, if_pos h1, if_pos h1]
    rfl
  · by_cases h2 : b.ra * k.inn ≤ 100 * k.out ∧ gradeI b k.inn < gradeI b k.out
    · rw [if_pos h2, if_neg h1, if_pos h2]
      rfl
    · rw [if_neg h2, if_neg h1, if_neg h1, if_neg h2]
      rfl
theorem rev_corners {b : BkR} {R : Road} (hv : OK R) : (makeL b (revR R)).filter (isK 1) = (((makeL b R).filter (isK 1)).map mirN).reverse := by
  rw [makeL_corners (revR_ok hv), makeL_corners hv, crns_back, List.map_reverse, List.map_map, List.map_map]
  congr 1
  apply List.map_congr_left
  intro k _
  exact cornN_mir b _ k
end Go.Proofs.YtcniibngfnkobaaGreatDoor
