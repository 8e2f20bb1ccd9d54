/- A note and a speech that came in as arguments, opened. -/
import Derived.Test.YtknjkcibkejieaaDoorOpenN
import Derived.Test.YtknjkcibkejieaaDoorNoteP
namespace Go.Proofs.YtknjkcibkejieaaDoor
open Go.ChangeShapes Go.WideShapes Go.ChangeAt Go.RowKit Go.Deep Go.Joins

section
variable {H : Type} {enc : TypeId × Value → H} {P : Program} {w : World} {base : Nat} {spare : Nat → Bool} {held : Bool} {r : Reach} {b0 : Nat}
/-- A struct of ints by value. -/
theorem open_aggI {t : TypeId} {fs : Array Field} {m : Nat} {v : Value} {d : DataW H} {p : List MemPlace} (hs : P.underlying t = some (.struct fs)) (hone : oneCellFields P fs = true) (hC : P.cellsOf t = m) (hm : fs.size = m)
    (hi : ∀ (j : Nat) (f : Field), fs[j]? = some f → P.underlying f.type = some (.int .i64)) (hv : Value.okWide P w r b0 t v) (h : DataW.Trod enc P w base spare held t v d p) :
    ∃ F : Nat → Int, v = .agg ((List.range m).map fun j => Value.int .i64 (F j)).toArray := by
  obtain ⟨cs, rfl, hsz⟩ := okWide_struct hs hv
  obtain ⟨fuel, hf⟩ := h
  obtain ⟨xs, n, _, _, hl, hlen, hf⟩ := DataW.trod_struct hs hf
  have key : ∀ j, ∃ x : Int, j < m → cs.toList[j]? = some (.int .i64 x) := fun j => by
    by_cases hj : j < m
    case neg => exact ⟨0, fun h => absurd h hj⟩
    have hjf : j < fs.size := by omega
    have e := Array.getElem?_eq_getElem hjf
    obtain ⟨o, k⟩ := hone_of hone j _ e
    have g := hf j _ e
    have hjc : j < cs.toList.length := by simp; omega
    rw [o, k] at g
    have hd : ((Value.cells (.agg cs)).toList.drop j).take 1 = [cs.toList[j]] := by
      show (cs.toList.drop j).take 1 = _
      rw [List.drop_eq_getElem_cons hjc]
      simp
    rw [hd] at g
    have hxj : j < xs.length := by omega
    rw [List.getElem?_eq_getElem hxj] at g
    obtain ⟨x, hx, _, _⟩ := DataW.trod_int (hi j _ e) g
    refine ⟨x, fun _ => ?_⟩
    rw [List.getElem?_eq_getElem hjc]
    simpa using hx
  obtain ⟨F, hF⟩ : ∃ F : Nat → Int, ∀ j, j < m → cs.toList[j]? = some (.int .i64 (F j)) := ⟨fun j => (key j).choose, fun j => (key j).choose_spec⟩
  refine ⟨F, congrArg Value.agg (Array.toList_inj.1 (List.ext_getElem? fun j => ?_))⟩
  rw [List.getElem?_map]
  by_cases hj : j < m
  · rw [List.getElem?_range hj, hF j hj]
    rfl
  · rw [List.getElem?_eq_none (by simp; omega), List.getElem?_eq_none (by simp; omega)]
    rfl
end
section
variable {H : Type} {enc : TypeId × Value → H} {w : World} {base : Nat} {spare : Nat → Bool} {held : Bool} {r : Reach} {b0 : Nat}
set_option maxRecDepth 100000 in
theorem open_note {v : Value} {d : DataW H} {p : List MemPlace} (hv : Value.okWide Tryd.prog w r b0 24 v) (h : DataW.Trod enc Tryd.prog w base spare held 24 v d p) :
    ∃ k tu gr lo ch ton me si wa ar : Int, v = .agg #[.int .i64 k, .int .i64 tu, .int .i64 gr, .int .i64 lo, .int .i64 ch, .int .i64 ton, .int .i64 me, .int .i64 si, .int .i64 wa, .int .i64 ar] := by
  obtain ⟨F, hF⟩ := open_aggI (m := 10) Tryd.underlying24 (by kernel_rfl) (by kernel_rfl) rfl (fun j f hj => by
    match j, hj with
    | 0, hj => cases hj; exact Tryd.underlying22
    | 1, hj | 2, hj | 3, hj | 4, hj | 5, hj | 6, hj | 7, hj | 8, hj | 9, hj => cases hj; exact Tryd.underlying3
    | j + 10, hj => cases hj) hv h
  exact ⟨F 0, F 1, F 2, F 3, F 4, F 5, F 6, F 7, F 8, F 9, hF⟩
set_option maxRecDepth 100000 in
theorem open_speech {v : Value} {d : DataW H} {p : List MemPlace} (hv : Value.okWide Tryd.prog w r b0 26 v) (h : DataW.Trod enc Tryd.prog w base spare held 26 v d p) :
    ∃ v0 l : Int, v = .agg #[.int .i64 v0, .int .i64 l] := by
  obtain ⟨F, hF⟩ := open_aggI (m := 2) Tryd.underlying26 (by kernel_rfl) (by kernel_rfl) rfl (fun j f hj => by
    match j, hj with
    | 0, hj | 1, hj => cases hj; exact Tryd.underlying3
    | j + 2, hj => cases hj) hv h
  exact ⟨F 0, F 1, hF⟩
end
end Go.Proofs.YtknjkcibkejieaaDoor
