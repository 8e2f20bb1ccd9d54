/- layer 3's known note: R3 long, said in six characters. -/
import Derived.Test.YtogkmnopggmdjaaGreatDoorPOrdM
import Derived.Test.YtogkmnopggmdjaaGreatDoorPBegB
import Derived.Test.YtogkmnopggmdjaaGreatDoorPPlan
import Derived.Test.YtogkmnopggmdjaaGreatDoorPPlanS
import Derived.Test.YtogkmnopggmdjaaGreatDoorPSpd
import Derived.Test.YtogkmnopggmdjaaGreatDoorPSpCk
namespace Go.Proofs.YtogkmnopggmdjaaGreatDoor
open Go.RowKit Go.Shelf Go.Sort Go.Proofs

theorem small_three (w : World) :
    Calls Tryz.prog 123 #[.int .i64 3] w fun e w' => e = .returned (.string (ByteArray.mk #[51])) ∧ w = w' := by
  go_enter Tryz.func123, Tryz.ntmps123
  go_wp2_with fail
  go_ret
  exact ⟨rfl, rfl⟩
theorem format_three (w : World) :
    Calls Tryz.prog 117 #[.int .i64 3, .int .i64 10] w fun e w' => e = .returned (.string (ByteArray.mk #[51])) ∧ w = w' := by
  go_enter Tryz.func117, Tryz.ntmps117
  go_wp2_with (go_at_call 123; refine (small_three _).mono ?_; rintro e w' ⟨rfl, rfl⟩)
  go_ret
  exact ⟨rfl, rfl⟩
theorem iitoa_three (w : World) :
    Calls Tryz.prog 109 #[.int .i64 3] w fun e w' => e = .returned (.string (ByteArray.mk #[51])) ∧ w = w' := by
  go_enter Tryz.func109, Tryz.ntmps109
  go_wp2_with (go_at_call 117; refine (format_three _).mono ?_; rintro e w' ⟨rfl, rfl⟩)
  go_ret
  exact ⟨rfl, rfl⟩
theorem itoa_three (w : World) :
    Calls Tryz.prog 96 #[.int .i64 3] w fun e w' => e = .returned (.string (ByteArray.mk #[51])) ∧ w = w' := by
  go_enter Tryz.func96, Tryz.ntmps96
  go_wp2_with (go_at_call 109; refine (iitoa_three _).mono ?_; rintro e w' ⟨rfl, rfl⟩)
  go_ret
  exact ⟨rfl, rfl⟩
theorem words2 (a b c : Value) (w : World) : (Instr.index 177 (.agg #[a, b, c]) (.int .i64 2)).run Tryz.prog w = .ok c w := by kernel_rfl
def kNote : Value := .agg #[.int .i64 1, .int .i64 1, .int .i64 3, .int .i64 1, .int .i64 0, .int .i64 0, .int .i64 0, .int .i64 0, .int .i64 0, .int .i64 0]
set_option maxRecDepth 100000 in
theorem ntext_known (w : World) :
    Calls Tryz.prog 80 #[kNote] w fun e w' => e = .returned (.string (ByteArray.mk #[82, 51, 32, 108, 111, 110, 103])) ∧ Below w.heap.size w w' := by
  unfold kNote
  have hw2 := words2
  go_enter Tryz.func80, Tryz.ntmps80
  go_wp2_with fail
  go_wp2_with (go_at_call 96; refine (itoa_three _).mono ?_; rintro e w' ⟨rfl, rfl⟩)
  go_ret
  exact ⟨rfl, (Below.refl _ _).alloc (Nat.le_refl _) _⟩
set_option maxRecDepth 100000 in
theorem nvalid_known (w : World) :
    Calls Tryz.prog 95 #[kNote] w fun e w' => e = .returned (.bool true) ∧ Below w.heap.size w w' := by
  unfold kNote
  go_enter Tryz.func95, Tryz.ntmps95
  go_wp2_with (go_at_call 66; refine (nwithin_any _ _ _ _).mono ?_; rintro e w' ⟨rfl, rfl⟩)
  go_ret
  exact ⟨rfl, (Below.refl _ _).alloc (Nat.le_refl _) _⟩
theorem nlisted1_known (w : World) :
    Calls Tryz.prog 94 #[kNote] w fun e w' => e = .returned (.bool false) ∧ Below w.heap.size w w' := by
  have hb := (Below.refl w.heap.size w).alloc (Nat.le_refl _) (.cells #[.int .i64 1, .int .i64 1, .int .i64 3, .int .i64 1, .int .i64 0, .int .i64 0, .int .i64 0, .int .i64 0, .int .i64 0, .int .i64 0] 54)
  have hk := nvalid_known
  unfold kNote at hk ⊢
  go_enter Tryz.func94, Tryz.ntmps94
  go_wp2_with fail
  refine (hk _).mono ?_
  rintro e w' ⟨rfl, hb'⟩
  go_wp2_with fail
  go_ret
  exact ⟨rfl, hb.trans (hb'.mono (by simp))⟩
def kNoteC : Array Value := #[.int .i64 1, .int .i64 1, .int .i64 3, .int .i64 1, .int .i64 0, .int .i64 0, .int .i64 0, .int .i64 0, .int .i64 0, .int .i64 0]
set_option maxRecDepth 100000 in
theorem nidx_known (b : Nat) (w : World) (h : BK w b 54 kNoteC) :
    Calls Tryz.prog 108 #[.slice (some ⟨b, 0, none⟩) 1 1, .func (.func 94) #[] #[]] w fun e w' => e = .returned (.int .i64 (-1)) ∧ Below w.heap.size w w' := by
  have hk := nlisted1_known
  unfold kNote at hk
  have hb0 := h.lt
  go_enter Tryz.func108, Tryz.ntmps108
  go_wp2_with fail
  go_loopw [8] (fun i wr => ∃ k : Nat, k ≤ 1 ∧ i = .int .i64 k ∧ Below w.heap.size w wr)
    (fun i _ => 1 - (intOf i).toNat)
  case atStart => exact ⟨0, Nat.zero_le _, rfl, Below.refl _ _⟩
  case round =>
    obtain ⟨k, hk1, rfl, hbr⟩ := hrel
    have hr := h.below hbr hb0
    by_cases hlt : k < 1
    · obtain rfl : k = 0 := by omega
      have c0 := hr.cell 0
      have c1 := hr.cell 1
      have c2 := hr.cell 2
      have c3 := hr.cell 3
      have c4 := hr.cell 4
      have c5 := hr.cell 5
      have c6 := hr.cell 6
      have c7 := hr.cell 7
      have c8 := hr.cell 8
      have c9 := hr.cell 9
      simp only [kNoteC, List.getElem?_toArray, List.getElem?_cons_zero, List.getElem?_cons_succ] at c0 c1 c2 c3 c4 c5 c6 c7 c8 c9
      go_wp2_with fail
      refine (hk _).mono ?_
      rintro e w' ⟨rfl, hb'⟩
      go_wp2_with fail
      go_roundw
      case rel => exact ⟨1, by omega, by go_num, hbr.trans (hb'.mono hbr.size)⟩
      case measure => simp [intOf]
    · obtain rfl : k = 1 := by omega
      go_wp2_with fail
      go_ret
      exact ⟨rfl, hbr⟩
theorem ncont_known (b : Nat) (w : World) (h : BK w b 54 kNoteC) :
    Calls Tryz.prog 93 #[.slice (some ⟨b, 0, none⟩) 1 1, .func (.func 94) #[] #[]] w fun e w' => e = .returned (.bool false) ∧ Below w.heap.size w w' := by
  go_enter Tryz.func93, Tryz.ntmps93
  go_wp2_with fail
  refine (nidx_known b w h).mono ?_
  rintro e w' ⟨rfl, hb'⟩
  go_wp2_with fail
  go_ret
  exact ⟨rfl, hb'⟩
theorem nlisted_known (b : Nat) (w : World) (h : BK w b 54 kNoteC) :
    Calls Tryz.prog 79 #[.slice (some ⟨b, 0, none⟩) 1 1] w fun e w' => e = .returned (.int .i64 0) ∧ Below w.heap.size w w' := by
  go_enter Tryz.func79, Tryz.ntmps79
  go_wp2_with fail
  refine (ncont_known b w h).mono ?_
  rintro e w' ⟨rfl, hb'⟩
  go_wp2_with fail
  go_ret
  exact ⟨rfl, hb'⟩
theorem cell_top (w : World) (o : Obj) (s : Value) (z : Array Value) (t : TypeId) : (((w.alloc o).alloc (.cells (#[s] ++ z) t)).drew).cell? ⟨w.heap.size + 1, 0, none⟩ = some s := by
  have h := (BK.new (w.alloc o) t (#[s] ++ z)).drew.cell 0
  rw [World.size_alloc] at h
  rw [h, Array.getElem?_append_left (by show 0 < 1; omega)]
  rfl
def kText : ByteArray := ByteArray.mk #[82, 51, 32, 108, 111, 110, 103]
theorem njoin_one (b c : Nat) (s sep : ByteArray) (w : World) (c0 : w.cell? ⟨b, 0, none⟩ = some (.string s)) :
    Calls Tryz.prog 81 #[.slice (some ⟨b, 0, none⟩) 1 c, .string sep] w fun e w' => e = .returned (.string s) ∧ w = w' := by
  go_enter Tryz.func81, Tryz.ntmps81
  go_wp2_with fail
  go_ret
  exact ⟨rfl, rfl⟩
set_option maxRecDepth 100000 in
theorem nwrite_known (b : Nat) (w : World) (h : BK w b 54 kNoteC) :
    Calls Tryz.prog 64 #[.slice (some ⟨b, 0, none⟩) 1 1] w fun e w' => e = .returned (.tuple #[.string kText, .int .i64 0]) ∧ Below w.heap.size w w' := by
  have hk := ntext_known
  unfold kNote at hk
  have hb0 := h.lt
  go_enter Tryz.func64, Tryz.ntmps64
  go_wp2_with fail
  refine (nlisted_known b w h).mono ?_
  rintro e w1 ⟨rfl, hB1⟩
  have h1 := h.below hB1 hb0
  go_wp2_with fail
  go_loopw [5, 15] (fun o i wr => ∃ k : Nat, k ≤ 1 ∧ i = .int .i64 k ∧ Below w.heap.size w wr ∧ (k = 0 → o = .slice none 0 0) ∧ (k = 1 → ∃ b' c, o = .slice (some ⟨b', 0, none⟩) 1 c ∧ wr.cell? ⟨b', 0, none⟩ = some (.string kText)))
    (fun _ i _ => 1 - (intOf i).toNat)
  case atStart => exact ⟨0, Nat.zero_le _, rfl, hB1, fun _ => rfl, fun h => absurd h (by omega)⟩
  case round =>
    obtain ⟨k, hk1, rfl, hbr, ho0, ho1⟩ := hrel
    have hr := h.below hbr hb0
    by_cases hlt : k < 1
    · obtain rfl : k = 0 := by omega
      obtain rfl := ho0 rfl
      have c0 := hr.cell 0
      have c1 := hr.cell 1
      have c2 := hr.cell 2
      have c3 := hr.cell 3
      have c4 := hr.cell 4
      have c5 := hr.cell 5
      have c6 := hr.cell 6
      have c7 := hr.cell 7
      have c8 := hr.cell 8
      have c9 := hr.cell 9
      simp only [kNoteC, List.getElem?_toArray, List.getElem?_cons_zero, List.getElem?_cons_succ] at c0 c1 c2 c3 c4 c5 c6 c7 c8 c9
      go_wp2_with fail
      refine (hk _).mono ?_
      rintro e w2 ⟨rfl, hb2⟩
      have hb3 := hbr.trans ((((Below.refl wr.heap.size wr).alloc (Nat.le_refl _) (.cells #[.int .i64 1, .int .i64 1, .int .i64 3, .int .i64 1, .int .i64 0, .int .i64 0, .int .i64 0, .int .i64 0, .int .i64 0, .int .i64 0] 54)).trans (hb2.mono (by simp))).mono hbr.size)
      go_wp2_with fail
      go_roundw
      case rel => exact ⟨1, by omega, by go_num, ((hb3.alloc hb3.size _).alloc (by simp; have := hb3.size; omega) _).drew, fun h => absurd h (by omega), fun _ => ⟨_, _, rfl, cell_top _ _ _ _ _⟩⟩
      case measure => simp [intOf]
    · obtain rfl : k = 1 := by omega
      obtain ⟨b', c', rfl, hbk⟩ := ho1 rfl
      go_wp2_with fail
      refine (njoin_one b' c' _ _ _ hbk).mono ?_
      rintro e w2 ⟨rfl, rfl⟩
      go_wp2_with fail
      go_ret2
      exact ⟨rfl, hbr⟩
def kSum (p : Nat) : Int := if p ≤ 2 then 500000 + 100000 * p else 400000 + 100000 * p
set_option maxRecDepth 100000 in
theorem plasts_known (w : World) :
    Calls Tryz.prog 33 #[kNote, .agg #[.int .i64 500000, .int .i64 100000]] w fun e w' => e = .returned (.tuple #[.int .i64 1100000, .int .i64 0]) ∧ Below w.heap.size w w' := by
  have hB0 : Below w.heap.size w ((w.alloc (.cells kNoteC 54)).alloc (.cells #[.int .i64 500000, .int .i64 100000] 33)) := ((Below.refl w.heap.size w).alloc (Nat.le_refl _) _).alloc (by simp) _
  have hB1 := hB0.alloc hB0.size (.cells kNoteC 54)
  have hY0 : BK ((w.alloc (.cells kNoteC 54)).alloc (.cells #[.int .i64 500000, .int .i64 100000] 33)) (w.heap.size + 1) 33 #[.int .i64 500000, .int .i64 100000] := by
    have := BK.new (w.alloc (.cells kNoteC 54)) 33 #[.int .i64 500000, .int .i64 100000]; rw [World.size_alloc] at this; exact this
  have hY1 := hY0.alloc (.cells kNoteC 54)
  have hX1 : BK (((w.alloc (.cells kNoteC 54)).alloc (.cells #[.int .i64 500000, .int .i64 100000] 33)).alloc (.cells kNoteC 54)) (w.heap.size + 1 + 1) 54 kNoteC := by
    have := BK.new ((w.alloc (.cells kNoteC 54)).alloc (.cells #[.int .i64 500000, .int .i64 100000] 33)) 54 kNoteC; rw [World.size_alloc, World.size_alloc] at this; exact this
  have hcall := nwrite_known _ _ hX1
  clear hX1 hY0 hB0
  unfold kNote
  unfold kNoteC at hB1 hY1 hcall
  go_enter Tryz.func33, Tryz.ntmps33
  go_wp2_with fail
  refine hcall.mono ?_
  rintro e w2 ⟨rfl, hb2⟩
  have hY2 := hY1.below hb2 hY1.lt
  have hB2 := hB1.trans (hb2.mono hB1.size)
  clear hcall hY1 hb2 hB1
  have y0 := hY2.cell 0
  simp only [List.getElem?_toArray, List.getElem?_cons_zero] at y0
  have hz := hY2.lt
  go_wp2_with fail
  have hy : ∀ p, (w2.iter kText p).cell? ⟨w.heap.size + 1, 1, none⟩ = some (.int .i64 100000) := fun p => by
    have y1 := (hY2.alloc (.stringIter kText p)).cell 1
    simp only [List.getElem?_toArray, List.getElem?_cons_zero, List.getElem?_cons_succ] at y1
    exact y1
  go_loopw [8] (fun v wr => ∃ p : Nat, p ≤ 7 ∧ v = .int .i64 (kSum p) ∧ wr = w2.iter kText p)
    (fun _ wr => 7 - wr.iterPos w2.heap.size)
  case atStart => exact ⟨0, by omega, rfl, rfl⟩
  case round =>
    obtain ⟨p, hp, rfl, rfl⟩ := hrel
    by_cases h7 : p = 7
    · subst h7
      have hnx : ∀ ty, (Instr.next (.pointer (some ⟨w2.heap.size, 0, none⟩)) true ty).run Tryz.prog (w2.iter kText 7) = .ok (.tuple #[.bool false]) (w2.iter kText 7) := fun ty => run_next_end w2 kText 7 ty (by decide)
      go_wp2_with fail
      go_ret2
      exact ⟨rfl, hB2.alloc hB2.size _⟩
    rcases (show p = 0 ∨ p = 1 ∨ p = 2 ∨ p = 3 ∨ p = 4 ∨ p = 5 ∨ p = 6 by omega) with rfl | rfl | rfl | rfl | rfl | rfl | rfl
    · have hnx : ∀ ty, (Instr.next (.pointer (some ⟨w2.heap.size, 0, none⟩)) true ty).run Tryz.prog (w2.iter kText 0) = .ok (.tuple #[.bool true, .int .i64 (0 : Nat), .int .i32 82]) (w2.iter kText 1) := fun ty => run_next_ascii w2 kText 0 ty (by decide) (by decide)
      have y1 := hy 1
      go_wp2_with fail
      go_roundw
      case rel => exact ⟨1, by omega, congrArg (Value.int IntKind.i64) (by kernel_rfl), rfl⟩
      case measure => rw [World.iterPos_iter, World.iterPos_iter]; omega
    · have hnx : ∀ ty, (Instr.next (.pointer (some ⟨w2.heap.size, 0, none⟩)) true ty).run Tryz.prog (w2.iter kText 1) = .ok (.tuple #[.bool true, .int .i64 (1 : Nat), .int .i32 51]) (w2.iter kText 2) := fun ty => run_next_ascii w2 kText 1 ty (by decide) (by decide)
      have y1 := hy 2
      go_wp2_with fail
      go_roundw
      case rel => exact ⟨2, by omega, congrArg (Value.int IntKind.i64) (by kernel_rfl), rfl⟩
      case measure => rw [World.iterPos_iter, World.iterPos_iter]; omega
    · have hnx : ∀ ty, (Instr.next (.pointer (some ⟨w2.heap.size, 0, none⟩)) true ty).run Tryz.prog (w2.iter kText 2) = .ok (.tuple #[.bool true, .int .i64 (2 : Nat), .int .i32 32]) (w2.iter kText 3) := fun ty => run_next_ascii w2 kText 2 ty (by decide) (by decide)
      have y1 := hy 3
      go_wp2_with fail
      go_roundw
      case rel => exact ⟨3, by omega, congrArg (Value.int IntKind.i64) (by kernel_rfl), rfl⟩
      case measure => rw [World.iterPos_iter, World.iterPos_iter]; omega
    · have hnx : ∀ ty, (Instr.next (.pointer (some ⟨w2.heap.size, 0, none⟩)) true ty).run Tryz.prog (w2.iter kText 3) = .ok (.tuple #[.bool true, .int .i64 (3 : Nat), .int .i32 108]) (w2.iter kText 4) := fun ty => run_next_ascii w2 kText 3 ty (by decide) (by decide)
      have y1 := hy 4
      go_wp2_with fail
      go_roundw
      case rel => exact ⟨4, by omega, congrArg (Value.int IntKind.i64) (by kernel_rfl), rfl⟩
      case measure => rw [World.iterPos_iter, World.iterPos_iter]; omega
    · have hnx : ∀ ty, (Instr.next (.pointer (some ⟨w2.heap.size, 0, none⟩)) true ty).run Tryz.prog (w2.iter kText 4) = .ok (.tuple #[.bool true, .int .i64 (4 : Nat), .int .i32 111]) (w2.iter kText 5) := fun ty => run_next_ascii w2 kText 4 ty (by decide) (by decide)
      have y1 := hy 5
      go_wp2_with fail
      go_roundw
      case rel => exact ⟨5, by omega, congrArg (Value.int IntKind.i64) (by kernel_rfl), rfl⟩
      case measure => rw [World.iterPos_iter, World.iterPos_iter]; omega
    · have hnx : ∀ ty, (Instr.next (.pointer (some ⟨w2.heap.size, 0, none⟩)) true ty).run Tryz.prog (w2.iter kText 5) = .ok (.tuple #[.bool true, .int .i64 (5 : Nat), .int .i32 110]) (w2.iter kText 6) := fun ty => run_next_ascii w2 kText 5 ty (by decide) (by decide)
      have y1 := hy 6
      go_wp2_with fail
      go_roundw
      case rel => exact ⟨6, by omega, congrArg (Value.int IntKind.i64) (by kernel_rfl), rfl⟩
      case measure => rw [World.iterPos_iter, World.iterPos_iter]; omega
    · have hnx : ∀ ty, (Instr.next (.pointer (some ⟨w2.heap.size, 0, none⟩)) true ty).run Tryz.prog (w2.iter kText 6) = .ok (.tuple #[.bool true, .int .i64 (6 : Nat), .int .i32 103]) (w2.iter kText 7) := fun ty => run_next_ascii w2 kText 6 ty (by decide) (by decide)
      have y1 := hy 7
      go_wp2_with fail
      go_roundw
      case rel => exact ⟨7, by omega, congrArg (Value.int IntKind.i64) (by kernel_rfl), rfl⟩
      case measure => rw [World.iterPos_iter, World.iterPos_iter]; omega
theorem pspeech_known (w : World) :
    Calls Tryz.prog 30 #[.agg #[.int .i64 500000, .int .i64 100000]] w fun e w' => e = .returned (.bool true) ∧ Below w.heap.size w w' := by
  go_enter Tryz.func30, Tryz.ntmps30
  go_wp2_with (go_at_call 31; refine (pwithin_any _ _ _ _).mono ?_; rintro e w' ⟨rfl, rfl⟩)
  go_ret
  exact ⟨rfl, (Below.refl _ _).alloc (Nat.le_refl _) _⟩
set_option maxRecDepth 100000 in
theorem plasts_top (w : World) :
    Calls Tryz.prog 13 #[kNote, .agg #[.int .i64 500000, .int .i64 100000]] w fun e w' => e = .returned (.tuple #[.int .i64 1100000, .int .i64 0]) ∧ Below w.heap.size w w' := by
  have hB0 : Below w.heap.size w ((w.alloc (.cells kNoteC 54)).alloc (.cells #[.int .i64 500000, .int .i64 100000] 33)) := ((Below.refl w.heap.size w).alloc (Nat.le_refl _) _).alloc (by simp) _
  have hY0 : BK ((w.alloc (.cells kNoteC 54)).alloc (.cells #[.int .i64 500000, .int .i64 100000] 33)) (w.heap.size + 1) 33 #[.int .i64 500000, .int .i64 100000] := by
    have := BK.new (w.alloc (.cells kNoteC 54)) 33 #[.int .i64 500000, .int .i64 100000]; rw [World.size_alloc] at this; exact this
  have hX0 : BK ((w.alloc (.cells kNoteC 54)).alloc (.cells #[.int .i64 500000, .int .i64 100000] 33)) w.heap.size 54 kNoteC := (BK.new w _ _).alloc _
  have hsp := pspeech_known ((w.alloc (.cells kNoteC 54)).alloc (.cells #[.int .i64 500000, .int .i64 100000] 33))
  have hcall := plasts_known
  unfold kNoteC at hsp hB0 hX0 hY0
  unfold kNote at hcall
  unfold kNote
  go_enter Tryz.func13, Tryz.ntmps13
  go_wp2_with fail
  refine hsp.mono ?_
  rintro e w1 ⟨rfl, hb1⟩
  have hX1 := hX0.below hb1 hX0.lt
  have hY1 := hY0.below hb1 hY0.lt
  have hB1 := hB0.trans (hb1.mono hB0.size)
  clear hX0 hY0 hB0 hb1 hsp
  have x0 := hX1.cell 0
  have x1 := hX1.cell 1
  have x2 := hX1.cell 2
  have x3 := hX1.cell 3
  have x4 := hX1.cell 4
  have x5 := hX1.cell 5
  have x6 := hX1.cell 6
  have x7 := hX1.cell 7
  have x8 := hX1.cell 8
  have x9 := hX1.cell 9
  have y0 := hY1.cell 0
  have y1 := hY1.cell 1
  simp only [List.getElem?_toArray, List.getElem?_cons_zero, List.getElem?_cons_succ] at x0 x1 x2 x3 x4 x5 x6 x7 x8 x9 y0 y1
  go_wp2_with fail
  clear x0 x1 x2 x3 x4 x5 x6 x7 x8 x9 y0 y1
  refine (hcall _).mono ?_
  rintro e w2 ⟨rfl, hb2⟩
  go_wp2_with fail
  go_ret2
  exact ⟨rfl, hB1.trans (hb2.mono hB1.size)⟩
end Go.Proofs.YtogkmnopggmdjaaGreatDoor
