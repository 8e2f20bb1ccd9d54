/- The piece at a place, by unit pieces. -/
import Derived.Test.YtomloklckpcaiaaNormM
import Derived.Test.YtomloklckpcaiaaFind
namespace Go.Proofs.Ytomloklckpcaiaa
open Go.RowKit Go.Shelf Go.Sort Go.Proofs

theorem at_units {ps : List Piece} (h : ∀ q ∈ ps, 0 ≤ q.len) {x : Int} {i : Nat} {p : Piece} (h0 : 0 ≤ x) (ha : At ps x i) (hp : ps[i]? = some p) : (units ps)[x.toNat]? = some (one p) := by
  obtain ⟨hi, h1, h2⟩ := ha
  have hpe : ps[i] = p := by rw [List.getElem?_eq_getElem hi] at hp; exact Option.some.inj hp
  have e := (List.take_append_drop i ps).symm
  rw [List.drop_eq_getElem_cons hi, hpe] at e
  have h3 : (units ps)[x.toNat]? = (units (ps.take i ++ p :: ps.drop (i + 1)))[x.toNat]? := congrArg (fun l => (units l)[x.toNat]?) e
  have h4 := units_len (ps := ps.take i) (fun q hq => h q (List.mem_of_mem_take hq))
  have h5 := sumL_take ps i hi
  rw [hpe] at h5
  rw [h3, units_append, units_cons, List.getElem?_append_right (by omega), List.getElem?_append_left (by rw [List.length_replicate]; omega), List.getElem?_replicate, if_pos (by omega)]
/-- Apart from the lengths, the normal road has the same piece at each place. -/
theorem norm_at {ps : List Piece} (h : ∀ q ∈ ps, 1 ≤ q.len) {x : Int} {i j : Nat} {p q : Piece} (h0 : 0 ≤ x) (ha : At ps x i) (hp : ps[i]? = some p) (hb : At (normP ps) x j) (hq : (normP ps)[j]? = some q) : one q = one p := by
  have h1 := at_units (fun q hq => by have := h q hq; omega) h0 ha hp
  have h2 := at_units (fun q hq => by have := (norm_ge h q hq).1; omega) h0 hb hq
  rw [units_norm h, h1] at h2
  exact (Option.some.inj h2).symm
end Go.Proofs.Ytomloklckpcaiaa
