/- What note.Make notes: things, their order; cmp.Compare, cmp.Or. -/
import Derived.Test.YtcniibngfnkobaaGreatDoorPTSortM
import Derived.RegionTactic
import Derived.BigRegion
namespace Go.Proofs.YtcniibngfnkobaaGreatDoor
open Go.RowKit Go.Shelf Go.Sort Go.Proofs

/-- A thing: where, where it ends, its order at one place, its note. -/
structure ThR where
  at_ : Int
  en : Int
  od : Fin 3
  nk : Int
  ntu : Int
  ngr : Int
  nlo : Int
  nch : Int
  nto : Int
  nme : Int
  nsi : Int
  nwa : Int
  nar : Int
def thC (x : ThR) : List Value := [.int .i64 x.at_, .int .i64 x.en, .int .i64 ((x.od : Nat) : Int), .int .i64 x.nk, .int .i64 x.ntu, .int .i64 x.ngr, .int .i64 x.nlo, .int .i64 x.nch, .int .i64 x.nto, .int .i64 x.nme, .int .i64 x.nsi, .int .i64 x.nwa, .int .i64 x.nar]
theorem thC_len (x : ThR) : (thC x).length = 13 := rfl
def thA (x : ThR) : Value := .agg #[.int .i64 x.at_, .int .i64 x.en, .int .i64 ((x.od : Nat) : Int), .int .i64 x.nk, .int .i64 x.ntu, .int .i64 x.ngr, .int .i64 x.nlo, .int .i64 x.nch, .int .i64 x.nto, .int .i64 x.nme, .int .i64 x.nsi, .int .i64 x.nwa, .int .i64 x.nar]
/-- Where it stands in order. -/
def ThR.pos (x : ThR) : Int := 3 * x.at_ + ((x.od : Nat) : Int)
/-- One cell of an element of an own row is written. -/

def cmpI (a b : Int) : Int := if a < b then -1 else if b < a then 1 else 0
theorem cmpI_lt (a b : Int) : decide (cmpI a b < 0) = decide (a < b) := by
  unfold cmpI
  split
  · rename_i h; simp [h]
  · rename_i h; split <;> simp [h]
theorem only_grown {a w w' : World} {g : Nat} (h : a.grownBy w (some g)) (hb : Below w.heap.size w w') : a.grownBy w' (some g) :=
  only_trans h (let k := grownBy_of_below hb; ⟨k.os, k.tape, k.output, k.size, fun i hi _ => k.block i hi (by intro e; cases e)⟩)
set_option maxRecDepth 100000 in
theorem isNaN_any (x : Int) (w : World) : Calls Tryz.prog 49 #[.int .i64 x] w fun e w' => e = .returned (.bool false) ∧ w' = w := by
  go_enter Tryz.func49, Tryz.ntmps49
  go_wp2_with fail
  go_ret
  exact ⟨rfl, rfl⟩
set_option maxRecDepth 100000 in
theorem Compare_int (x y : Int) (w : World) : Calls Tryz.prog 32 #[.int .i64 x, .int .i64 y] w fun e w' => e = .returned (.int .i64 (cmpI x y)) ∧ w' = w := by
  go_enter Tryz.func32, Tryz.ntmps32
  by_cases h1 : x < y
  · have hr : cmpI x y = -1 := by unfold cmpI; rw [if_pos h1]
    rw [hr]
    go_wp2_with (go_at_call 49; refine (isNaN_any _ _).mono ?_; rintro e w' ⟨rfl, rfl⟩)
    all_goals first | (go_ret; exact ⟨rfl, rfl⟩) | (exfalso; omega)
  · by_cases h2 : y < x
    · have hr : cmpI x y = 1 := by unfold cmpI; rw [if_neg h1, if_pos h2]
      rw [hr]
      go_wp2_with (go_at_call 49; refine (isNaN_any _ _).mono ?_; rintro e w' ⟨rfl, rfl⟩)
      all_goals first | (go_ret; exact ⟨rfl, rfl⟩) | (exfalso; omega)
    · have hr : cmpI x y = 0 := by unfold cmpI; rw [if_neg h1, if_neg h2]
      rw [hr]
      go_wp2_with (go_at_call 49; refine (isNaN_any _ _).mono ?_; rintro e w' ⟨rfl, rfl⟩)
      all_goals first | (go_ret; exact ⟨rfl, rfl⟩) | (exfalso; omega)
def orI (x y : Int) : Int := if x = 0 then y else x
theorem or2_any (b : Nat) (x y : Int) (w : World) (h : BK w b 3 #[.int .i64 x, .int .i64 y]) :
    Calls Tryz.prog 31 #[.slice (some ⟨b, 0, none⟩) 2 2] w fun e w' => e = .returned (.int .i64 (orI x y)) ∧ w' = w := by
  have c0 := h.cell 0
  have c1 := h.cell 1
  simp only [List.getElem?_toArray, List.getElem?_cons_zero, List.getElem?_cons_succ] at c0 c1
  go_enter Tryz.func31, Tryz.ntmps31
  go_wp2_with fail
  go_loopw [8] (fun i wr => wr = w ∧ (i = .int .i64 0 ∨ i = .int .i64 1 ∧ x = 0 ∨ i = .int .i64 2 ∧ x = 0 ∧ y = 0)) (fun i _ => 2 - (intOf i).toNat)
  case atStart => exact ⟨rfl, .inl rfl⟩
  case round =>
    obtain ⟨rfl, rfl | ⟨rfl, rfl⟩ | ⟨rfl, rfl, rfl⟩⟩ := hrel
    · by_cases hx : x = 0
      · subst hx
        go_wp2_with fail
        go_roundw
        case rel => simp
        case measure => simp [intOf]
      · go_wp2_with fail
        go_ret
        exact ⟨by unfold orI; rw [if_neg hx]; rfl, rfl⟩
    · by_cases hy : y = 0
      · subst hy
        go_wp2_with fail
        go_roundw
        case rel => simp
        case measure => simp [intOf]
      · go_wp2_with fail
        go_ret
        exact ⟨by unfold orI; rw [if_pos rfl]; rfl, rfl⟩
    · go_wp2_with fail
      go_ret
      exact ⟨by unfold orI; rw [if_pos rfl]; rfl, rfl⟩
theorem cmpI_or (x y : ThR) : orI (cmpI x.at_ y.at_) (cmpI ((x.od : Nat) : Int) ((y.od : Nat) : Int)) = cmpI x.pos y.pos := by
  have h1 := x.od.isLt
  have h2 := y.od.isLt
  unfold orI cmpI ThR.pos
  repeat' split
  all_goals omega
set_option maxRecDepth 100000 in
set_option maxHeartbeats 4000000 in
theorem cmpT_any (x y : ThR) (w : World) : Calls Tryz.prog 30 #[thA x, thA y] w fun e w' => e = .returned (.int .i64 (cmpI x.pos y.pos)) ∧ Below w.heap.size w w' := by
  obtain ⟨w0, hw0⟩ : ∃ w0, w0 = (w.alloc (.cells #[.int .i64 x.at_, .int .i64 x.en, .int .i64 ((x.od : Nat) : Int), .int .i64 x.nk, .int .i64 x.ntu, .int .i64 x.ngr, .int .i64 x.nlo, .int .i64 x.nch, .int .i64 x.nto, .int .i64 x.nme, .int .i64 x.nsi, .int .i64 x.nwa, .int .i64 x.nar] 74)).alloc (.cells #[.int .i64 y.at_, .int .i64 y.en, .int .i64 ((y.od : Nat) : Int), .int .i64 y.nk, .int .i64 y.ntu, .int .i64 y.ngr, .int .i64 y.nlo, .int .i64 y.nch, .int .i64 y.nto, .int .i64 y.nme, .int .i64 y.nsi, .int .i64 y.nwa, .int .i64 y.nar] 74) := ⟨_, rfl⟩
  have hX : BK w0 w.heap.size 74 #[.int .i64 x.at_, .int .i64 x.en, .int .i64 ((x.od : Nat) : Int), .int .i64 x.nk, .int .i64 x.ntu, .int .i64 x.ngr, .int .i64 x.nlo, .int .i64 x.nch, .int .i64 x.nto, .int .i64 x.nme, .int .i64 x.nsi, .int .i64 x.nwa, .int .i64 x.nar] := by rw [hw0]; exact (BK.new w _ _).alloc _
  have hY : BK w0 (w.heap.size + 1) 74 #[.int .i64 y.at_, .int .i64 y.en, .int .i64 ((y.od : Nat) : Int), .int .i64 y.nk, .int .i64 y.ntu, .int .i64 y.ngr, .int .i64 y.nlo, .int .i64 y.nch, .int .i64 y.nto, .int .i64 y.nme, .int .i64 y.nsi, .int .i64 y.nwa, .int .i64 y.nar] := by
    rw [hw0]
    have := BK.new (w.alloc (.cells #[.int .i64 x.at_, .int .i64 x.en, .int .i64 ((x.od : Nat) : Int), .int .i64 x.nk, .int .i64 x.ntu, .int .i64 x.ngr, .int .i64 x.nlo, .int .i64 x.nch, .int .i64 x.nto, .int .i64 x.nme, .int .i64 x.nsi, .int .i64 x.nwa, .int .i64 x.nar] 74)) 74 #[.int .i64 y.at_, .int .i64 y.en, .int .i64 ((y.od : Nat) : Int), .int .i64 y.nk, .int .i64 y.ntu, .int .i64 y.ngr, .int .i64 y.nlo, .int .i64 y.nch, .int .i64 y.nto, .int .i64 y.nme, .int .i64 y.nsi, .int .i64 y.nwa, .int .i64 y.nar]
    rw [World.size_alloc] at this
    exact this
  have hB0 : Below w.heap.size w w0 := by rw [hw0]; exact ((Below.refl _ w).alloc (Nat.le_refl _) _).alloc (by simp) _
  go_enter Tryz.func30, Tryz.ntmps30
  unfold thA
  go_wp2_with fail
  rw [← hw0]
  clear hw0
  have hmo : Tryz.prog.follows .mixedOrders = true := by kernel_rfl
  have x0' := hX.cell 0
  have x2' := hX.cell 2
  have y0' := hY.cell 0
  have y2' := hY.cell 2
  simp only [List.getElem?_toArray, List.getElem?_cons_zero, List.getElem?_cons_succ] at x0' x2' y0' y2'
  have x0 := fun d os => cell_regrown x0' d os
  have x2 := fun d os => cell_regrown x2' d os
  have y0 := fun d os => cell_regrown y0' d os
  have y2 := fun d os => cell_regrown y2' d os
  clear x0' x2' y0' y2'
  refine wp_region_qt 10 hmo (by kernel_rfl) ?_
  simp only [List.take_succ_cons, List.take_zero, List.drop_succ_cons, List.drop_zero]
  repeat (quiet_step (first | (go_at_call 32; exact (Compare_int _ _ _).mono fun _ _ ⟨a, b⟩ => ⟨a, _, b⟩)))
  refine wpQuiet_nil ?_
  intro W' hbw
  have HB := Lib.hid hbw
  clear x0 x2 y0 y2 hbw hX hY
  go_wp2_with (go_at_call 31; refine (or2_any _ _ _ _ (BK.new _ _ _)).mono ?_; rintro e w' ⟨rfl, rfl⟩)
  go_ret
  rw [cmpI_or]
  have h1 : Below w.heap.size w W' := hB0.trans (HB.out.mono hB0.size)
  exact ⟨rfl, h1.alloc h1.size _⟩
end Go.Proofs.YtcniibngfnkobaaGreatDoor
