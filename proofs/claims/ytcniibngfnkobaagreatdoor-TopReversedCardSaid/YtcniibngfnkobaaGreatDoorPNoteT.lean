/- Notes: the text of a valid note, as the program writes it and as the document does. -/
import Derived.Test.YtcniibngfnkobaaGreatDoorPCBase
import Derived.Test.YtcniibngfnkobaaGreatDoorPCRoad
import Derived.Test.YtcniibngfnkobaaGreatDoorPCLeaf
import Derived.Test.YtcniibngfnkobaaGreatDoorPCIter
import Derived.Test.YtcniibngfnkobaaGreatDoorPCCheck
import Derived.Test.YtcniibngfnkobaaGreatDoorPCValid
import Derived.Test.YtcniibngfnkobaaGreatDoorPCReg
import Derived.Test.YtcniibngfnkobaaGreatDoorPCGrouped
import Derived.Test.YtcniibngfnkobaaGreatDoorPCAppS
import Derived.Test.YtcniibngfnkobaaGreatDoorPCCorn
import Derived.Test.YtcniibngfnkobaaGreatDoorPCOpen
import Derived.Test.YtcniibngfnkobaaGreatDoorPCReg8
import Derived.Test.YtcniibngfnkobaaGreatDoorPCBackOk
import Derived.Test.YtcniibngfnkobaaGreatDoorPCOrdM
import Derived.Test.YtcniibngfnkobaaGreatDoorPCRCorn
import Derived.Test.YtcniibngfnkobaaGreatDoorPCRev
import Derived.Test.YtcniibngfnkobaaGreatDoorPCRevR
import Derived.Test.YtcniibngfnkobaaGreatDoorPNoteP
import Derived.Test.YtcniibngfnkobaaGreatDoorPShelf
namespace Go.Proofs.YtcniibngfnkobaaGreatDoor
open Go.RowKit Go.Shelf Go.Sort Go.Proofs

theorem nbs_append (a b : List UInt8) : nbs (a ++ b) = nbs a ++ nbs b := by
  apply ByteArray.ext
  simp [nbs]
theorem below_grow (w : World) (os : Array Obj) : Below w.heap.size w (grow w os) :=
  ⟨rfl, rfl, rfl, by simp [grow], fun k hk => by simp only [grow]; rw [Array.getElem?_append_left hk]⟩
theorem itoa_small (i : Int) (h0 : 0 ≤ i) (h1 : i < 100) (w : World) :
    Calls Tryz.prog 54 #[.int .i64 i] w fun e w' => e = .returned (.string (nbs (Lib.itoa i))) ∧ w = w' := by
  obtain ⟨m, rfl⟩ : ∃ m : Nat, i = (m : Int) := ⟨i.toNat, by omega⟩
  refine (sh_strconv_Itoa_small m (by omega) w).mono ?_
  rintro e w' ⟨rfl, rfl⟩
  exact ⟨by rw [Lib.itoa_nonneg]; rfl, rfl⟩
theorem itoa_meters (i : Int) (h0 : 0 ≤ i) (h1 : i ≤ 9999) (w : World) (ht : Lib.TabIs Tryz.prog w pow10N .u64 Lib.pow10Tab) :
    Calls Tryz.prog 54 #[.int .i64 i] w fun e w' => e = .returned (.string (nbs (Lib.itoa i))) ∧ Below w.heap.size w w' := by
  refine (sh_strconv_Itoa i (by omega) (by omega) w ht).mono ?_
  rintro e w' ⟨rfl, n, os, rfl⟩
  exact ⟨rfl, (Joins.below_draws _ w n).trans (below_grow (w.drewN n) os)⟩
theorem itoa_size (i : Int) (h0 : 0 ≤ i) (h1 : i ≤ 9) : (nbs (Lib.itoa i)).size = 1 := by
  obtain ⟨m, rfl⟩ : ∃ m : Nat, i = (m : Int) := ⟨i.toNat, by omega⟩
  rw [Lib.itoa_nonneg, Lib.decDigits, dif_pos (by omega)]
  rfl
def crestC : Array Value := #[.string (ByteArray.mk #[99, 114, 101, 115, 116]), .string (ByteArray.mk #[106, 117, 109, 112]), .string (ByteArray.mk #[98, 105, 103, 106, 117, 109, 112])]
theorem ncrests_any (w : World) : Calls Tryz.prog 55 #[] w fun e w' => ∃ b, e = .returned (.slice (some ⟨b, 0, none⟩) 3 3) ∧ BK w' b 9 crestC ∧ Below w.heap.size w w' := by
  go_enter Tryz.func55, Tryz.ntmps55
  go_wp2_with fail
  go_ret
  exact ⟨w.heap.size, rfl, BK.new w _ _, (Below.refl _ _).alloc (Nat.le_refl _) _⟩
theorem stable_bk (b : Nat) (t : TypeId) (cs : Array Value) : stable (fun x => BK x b t cs) := fun _ _ h hb => h.below hb h.lt
theorem repeat_two (w : World) : Calls Tryz.prog 56 #[.string (ByteArray.mk #[33]), .int .i64 2] w fun e w' => e = .returned (.string (nbs [33, 33])) ∧ Below w.heap.size w w' :=
  (sh_strings_Repeat_main (ByteArray.mk #[33]) 2 w (by decide) (by decide) (by decide) (by decide)).mono (fun _ _ h => ⟨h.1, h.2⟩)
theorem repeat_three (w : World) : Calls Tryz.prog 56 #[.string (ByteArray.mk #[33]), .int .i64 3] w fun e w' => e = .returned (.string (nbs [33, 33, 33])) ∧ Below w.heap.size w w' :=
  (sh_strings_Repeat_main (ByteArray.mk #[33]) 3 w (by decide) (by decide) (by decide) (by decide)).mono (fun _ _ h => ⟨h.1, h.2⟩)
theorem repeat_one (w : World) : Calls Tryz.prog 56 #[.string (ByteArray.mk #[33]), .int .i64 1] w fun e w' => e = .returned (.string (nbs [33])) ∧ Below w.heap.size w w' :=
  (sh_strings_Repeat_one (ByteArray.mk #[33]) w).mono (fun _ _ h => ⟨h.1, h.2 ▸ Below.refl _ _⟩)
theorem nidx0 (a b c : Value) (w : World) : (Instr.index 110 (.agg #[a, b, c]) (.int .i64 0)).run Tryz.prog w = .ok a w := by kernel_rfl
theorem nidx1 (a b c : Value) (w : World) : (Instr.index 110 (.agg #[a, b, c]) (.int .i64 1)).run Tryz.prog w = .ok b w := by kernel_rfl
theorem nidx2 (a b c : Value) (w : World) : (Instr.index 110 (.agg #[a, b, c]) (.int .i64 2)).run Tryz.prog w = .ok c w := by kernel_rfl
theorem nlit (l : List UInt8) : ByteArray.mk l.toArray = nbs l := rfl
set_option maxRecDepth 100000 in
set_option maxHeartbeats 8000000 in
theorem ntext_any (k tu gr lo ch ton me si wa ar : Int) (hv : nVal ⟨k, tu, gr, lo, ch, ton, me, si, wa, ar⟩ = true) (w : World) (ht : Lib.TabIs Tryz.prog w pow10N .u64 Lib.pow10Tab) :
    Calls Tryz.prog 35 #[.agg #[.int .i64 k, .int .i64 tu, .int .i64 gr, .int .i64 lo, .int .i64 ch, .int .i64 ton, .int .i64 me, .int .i64 si, .int .i64 wa, .int .i64 ar]] w fun e w' => e = .returned (.string (nbs (nTxt ⟨k, tu, gr, lo, ch, ton, me, si, wa, ar⟩))) ∧ Below w.heap.size w w' := by
  have hw0 := nidx0
  have hw1 := nidx1
  have hw2 := nidx2
  have hB : Below w.heap.size w (w.alloc (.cells #[.int .i64 k, .int .i64 tu, .int .i64 gr, .int .i64 lo, .int .i64 ch, .int .i64 ton, .int .i64 me, .int .i64 si, .int .i64 wa, .int .i64 ar] 48)) := (Below.refl w.heap.size w).alloc (Nat.le_refl _) _
  have hX : BK (w.alloc (.cells #[.int .i64 k, .int .i64 tu, .int .i64 gr, .int .i64 lo, .int .i64 ch, .int .i64 ton, .int .i64 me, .int .i64 si, .int .i64 wa, .int .i64 ar] 48)) w.heap.size 48 #[.int .i64 k, .int .i64 tu, .int .i64 gr, .int .i64 lo, .int .i64 ch, .int .i64 ton, .int .i64 me, .int .i64 si, .int .i64 wa, .int .i64 ar] := BK.new w _ _
  have ht0 := pow10_stays ht hB (Nat.le_refl _)
  by_cases k1 : k = 1
  · subst k1
    rw [nVal1] at hv
    obtain ⟨⟨htu, hgr, hlo, hch⟩, rfl, rfl, rfl, rfl⟩ := hv
    have hlo : lo = -1 ∨ lo = 0 ∨ lo = 1 := by omega
    clear ht0
    have hs1 := itoa_size gr (by omega) (by omega)
    rcases htu with rfl | rfl <;> rcases hlo with rfl | rfl | rfl <;> rcases hch with ⟨rfl, rfl⟩ | ⟨rfl, hto⟩ | ⟨rfl, hto⟩
    ·
      go_enter Tryz.func35, Tryz.ntmps35
      go_wp2_with (go_at_call 54; refine (itoa_small _ (by omega) (by omega) _).mono ?_; rintro e w' ⟨rfl, rfl⟩)
      go_ret
      refine ⟨?_, hB⟩
      refine congrArg (fun b => Ending.returned (Value.string b)) ?_
      simp only [nlit, ← nbs_append]
      exact congrArg nbs (by simp [nTxt])
    ·
      have hs2 := itoa_size ton (by omega) (by omega)
      go_enter Tryz.func35, Tryz.ntmps35
      go_wp2_with (go_at_call 54; refine (itoa_small _ (by omega) (by omega) _).mono ?_; rintro e w' ⟨rfl, rfl⟩)
      go_quiet (first | (go_at_call 54; exact Calls.quiet_of_same ((itoa_small _ (by omega) (by omega) _).mono fun _ _ ⟨a, b⟩ => ⟨a, b.symm⟩)))
      go_wp2_with fail
      go_ret
      refine ⟨?_, hB.trans (Joins.below_draws _ _ nq)⟩
      refine congrArg (fun b => Ending.returned (Value.string b)) ?_
      simp only [nlit, ← nbs_append]
      exact congrArg nbs (by simp [nTxt])
    ·
      have hs2 := itoa_size ton (by omega) (by omega)
      go_enter Tryz.func35, Tryz.ntmps35
      go_wp2_with (go_at_call 54; refine (itoa_small _ (by omega) (by omega) _).mono ?_; rintro e w' ⟨rfl, rfl⟩)
      go_quiet (first | (go_at_call 54; exact Calls.quiet_of_same ((itoa_small _ (by omega) (by omega) _).mono fun _ _ ⟨a, b⟩ => ⟨a, b.symm⟩)))
      go_wp2_with fail
      go_ret
      refine ⟨?_, hB.trans (Joins.below_draws _ _ nq)⟩
      refine congrArg (fun b => Ending.returned (Value.string b)) ?_
      simp only [nlit, ← nbs_append]
      exact congrArg nbs (by simp [nTxt])
    ·
      go_enter Tryz.func35, Tryz.ntmps35
      go_wp2_with (go_at_call 54; refine (itoa_small _ (by omega) (by omega) _).mono ?_; rintro e w' ⟨rfl, rfl⟩)
      go_ret
      refine ⟨?_, hB⟩
      refine congrArg (fun b => Ending.returned (Value.string b)) ?_
      simp only [nlit, ← nbs_append]
      exact congrArg nbs (by simp [nTxt])
    ·
      have hs2 := itoa_size ton (by omega) (by omega)
      go_enter Tryz.func35, Tryz.ntmps35
      go_wp2_with (go_at_call 54; refine (itoa_small _ (by omega) (by omega) _).mono ?_; rintro e w' ⟨rfl, rfl⟩)
      go_quiet (first | (go_at_call 54; exact Calls.quiet_of_same ((itoa_small _ (by omega) (by omega) _).mono fun _ _ ⟨a, b⟩ => ⟨a, b.symm⟩)))
      go_wp2_with fail
      go_ret
      refine ⟨?_, hB.trans (Joins.below_draws _ _ nq)⟩
      refine congrArg (fun b => Ending.returned (Value.string b)) ?_
      simp only [nlit, ← nbs_append]
      exact congrArg nbs (by simp [nTxt])
    ·
      have hs2 := itoa_size ton (by omega) (by omega)
      go_enter Tryz.func35, Tryz.ntmps35
      go_wp2_with (go_at_call 54; refine (itoa_small _ (by omega) (by omega) _).mono ?_; rintro e w' ⟨rfl, rfl⟩)
      go_quiet (first | (go_at_call 54; exact Calls.quiet_of_same ((itoa_small _ (by omega) (by omega) _).mono fun _ _ ⟨a, b⟩ => ⟨a, b.symm⟩)))
      go_wp2_with fail
      go_ret
      refine ⟨?_, hB.trans (Joins.below_draws _ _ nq)⟩
      refine congrArg (fun b => Ending.returned (Value.string b)) ?_
      simp only [nlit, ← nbs_append]
      exact congrArg nbs (by simp [nTxt])
    ·
      go_enter Tryz.func35, Tryz.ntmps35
      go_wp2_with (go_at_call 54; refine (itoa_small _ (by omega) (by omega) _).mono ?_; rintro e w' ⟨rfl, rfl⟩)
      go_ret
      refine ⟨?_, hB⟩
      refine congrArg (fun b => Ending.returned (Value.string b)) ?_
      simp only [nlit, ← nbs_append]
      exact congrArg nbs (by simp [nTxt])
    ·
      have hs2 := itoa_size ton (by omega) (by omega)
      go_enter Tryz.func35, Tryz.ntmps35
      go_wp2_with (go_at_call 54; refine (itoa_small _ (by omega) (by omega) _).mono ?_; rintro e w' ⟨rfl, rfl⟩)
      go_quiet (first | (go_at_call 54; exact Calls.quiet_of_same ((itoa_small _ (by omega) (by omega) _).mono fun _ _ ⟨a, b⟩ => ⟨a, b.symm⟩)))
      go_wp2_with fail
      go_ret
      refine ⟨?_, hB.trans (Joins.below_draws _ _ nq)⟩
      refine congrArg (fun b => Ending.returned (Value.string b)) ?_
      simp only [nlit, ← nbs_append]
      exact congrArg nbs (by simp [nTxt])
    ·
      have hs2 := itoa_size ton (by omega) (by omega)
      go_enter Tryz.func35, Tryz.ntmps35
      go_wp2_with (go_at_call 54; refine (itoa_small _ (by omega) (by omega) _).mono ?_; rintro e w' ⟨rfl, rfl⟩)
      go_quiet (first | (go_at_call 54; exact Calls.quiet_of_same ((itoa_small _ (by omega) (by omega) _).mono fun _ _ ⟨a, b⟩ => ⟨a, b.symm⟩)))
      go_wp2_with fail
      go_ret
      refine ⟨?_, hB.trans (Joins.below_draws _ _ nq)⟩
      refine congrArg (fun b => Ending.returned (Value.string b)) ?_
      simp only [nlit, ← nbs_append]
      exact congrArg nbs (by simp [nTxt])
    ·
      go_enter Tryz.func35, Tryz.ntmps35
      go_wp2_with (go_at_call 54; refine (itoa_small _ (by omega) (by omega) _).mono ?_; rintro e w' ⟨rfl, rfl⟩)
      go_ret
      refine ⟨?_, hB⟩
      refine congrArg (fun b => Ending.returned (Value.string b)) ?_
      simp only [nlit, ← nbs_append]
      exact congrArg nbs (by simp [nTxt])
    ·
      have hs2 := itoa_size ton (by omega) (by omega)
      go_enter Tryz.func35, Tryz.ntmps35
      go_wp2_with (go_at_call 54; refine (itoa_small _ (by omega) (by omega) _).mono ?_; rintro e w' ⟨rfl, rfl⟩)
      go_quiet (first | (go_at_call 54; exact Calls.quiet_of_same ((itoa_small _ (by omega) (by omega) _).mono fun _ _ ⟨a, b⟩ => ⟨a, b.symm⟩)))
      go_wp2_with fail
      go_ret
      refine ⟨?_, hB.trans (Joins.below_draws _ _ nq)⟩
      refine congrArg (fun b => Ending.returned (Value.string b)) ?_
      simp only [nlit, ← nbs_append]
      exact congrArg nbs (by simp [nTxt])
    ·
      have hs2 := itoa_size ton (by omega) (by omega)
      go_enter Tryz.func35, Tryz.ntmps35
      go_wp2_with (go_at_call 54; refine (itoa_small _ (by omega) (by omega) _).mono ?_; rintro e w' ⟨rfl, rfl⟩)
      go_quiet (first | (go_at_call 54; exact Calls.quiet_of_same ((itoa_small _ (by omega) (by omega) _).mono fun _ _ ⟨a, b⟩ => ⟨a, b.symm⟩)))
      go_wp2_with fail
      go_ret
      refine ⟨?_, hB.trans (Joins.below_draws _ _ nq)⟩
      refine congrArg (fun b => Ending.returned (Value.string b)) ?_
      simp only [nlit, ← nbs_append]
      exact congrArg nbs (by simp [nTxt])
    ·
      go_enter Tryz.func35, Tryz.ntmps35
      go_wp2_with (go_at_call 54; refine (itoa_small _ (by omega) (by omega) _).mono ?_; rintro e w' ⟨rfl, rfl⟩)
      go_ret
      refine ⟨?_, hB⟩
      refine congrArg (fun b => Ending.returned (Value.string b)) ?_
      simp only [nlit, ← nbs_append]
      exact congrArg nbs (by simp [nTxt])
    ·
      have hs2 := itoa_size ton (by omega) (by omega)
      go_enter Tryz.func35, Tryz.ntmps35
      go_wp2_with (go_at_call 54; refine (itoa_small _ (by omega) (by omega) _).mono ?_; rintro e w' ⟨rfl, rfl⟩)
      go_quiet (first | (go_at_call 54; exact Calls.quiet_of_same ((itoa_small _ (by omega) (by omega) _).mono fun _ _ ⟨a, b⟩ => ⟨a, b.symm⟩)))
      go_wp2_with fail
      go_ret
      refine ⟨?_, hB.trans (Joins.below_draws _ _ nq)⟩
      refine congrArg (fun b => Ending.returned (Value.string b)) ?_
      simp only [nlit, ← nbs_append]
      exact congrArg nbs (by simp [nTxt])
    ·
      have hs2 := itoa_size ton (by omega) (by omega)
      go_enter Tryz.func35, Tryz.ntmps35
      go_wp2_with (go_at_call 54; refine (itoa_small _ (by omega) (by omega) _).mono ?_; rintro e w' ⟨rfl, rfl⟩)
      go_quiet (first | (go_at_call 54; exact Calls.quiet_of_same ((itoa_small _ (by omega) (by omega) _).mono fun _ _ ⟨a, b⟩ => ⟨a, b.symm⟩)))
      go_wp2_with fail
      go_ret
      refine ⟨?_, hB.trans (Joins.below_draws _ _ nq)⟩
      refine congrArg (fun b => Ending.returned (Value.string b)) ?_
      simp only [nlit, ← nbs_append]
      exact congrArg nbs (by simp [nTxt])
    ·
      go_enter Tryz.func35, Tryz.ntmps35
      go_wp2_with (go_at_call 54; refine (itoa_small _ (by omega) (by omega) _).mono ?_; rintro e w' ⟨rfl, rfl⟩)
      go_ret
      refine ⟨?_, hB⟩
      refine congrArg (fun b => Ending.returned (Value.string b)) ?_
      simp only [nlit, ← nbs_append]
      exact congrArg nbs (by simp [nTxt])
    ·
      have hs2 := itoa_size ton (by omega) (by omega)
      go_enter Tryz.func35, Tryz.ntmps35
      go_wp2_with (go_at_call 54; refine (itoa_small _ (by omega) (by omega) _).mono ?_; rintro e w' ⟨rfl, rfl⟩)
      go_quiet (first | (go_at_call 54; exact Calls.quiet_of_same ((itoa_small _ (by omega) (by omega) _).mono fun _ _ ⟨a, b⟩ => ⟨a, b.symm⟩)))
      go_wp2_with fail
      go_ret
      refine ⟨?_, hB.trans (Joins.below_draws _ _ nq)⟩
      refine congrArg (fun b => Ending.returned (Value.string b)) ?_
      simp only [nlit, ← nbs_append]
      exact congrArg nbs (by simp [nTxt])
    ·
      have hs2 := itoa_size ton (by omega) (by omega)
      go_enter Tryz.func35, Tryz.ntmps35
      go_wp2_with (go_at_call 54; refine (itoa_small _ (by omega) (by omega) _).mono ?_; rintro e w' ⟨rfl, rfl⟩)
      go_quiet (first | (go_at_call 54; exact Calls.quiet_of_same ((itoa_small _ (by omega) (by omega) _).mono fun _ _ ⟨a, b⟩ => ⟨a, b.symm⟩)))
      go_wp2_with fail
      go_ret
      refine ⟨?_, hB.trans (Joins.below_draws _ _ nq)⟩
      refine congrArg (fun b => Ending.returned (Value.string b)) ?_
      simp only [nlit, ← nbs_append]
      exact congrArg nbs (by simp [nTxt])
  by_cases k2 : k = 2
  · subst k2
    rw [nVal2] at hv
    obtain ⟨⟨rfl, rfl, rfl, rfl, rfl⟩, h0, h1, rfl, rfl, rfl⟩ := hv
    go_enter Tryz.func35, Tryz.ntmps35
    go_wp2_with fail
    refine (itoa_meters me (by omega) h1 _ ht0).mono ?_
    rintro e w' ⟨rfl, hb⟩
    go_wp2_with fail
    go_ret
    exact ⟨rfl, hB.trans (hb.mono hB.size)⟩
  by_cases k3 : k = 3
  · subst k3
    rw [nVal3] at hv
    obtain ⟨⟨rfl, rfl, rfl, rfl, rfl⟩, rfl, rfl, rfl, rfl⟩ := hv
    go_enter Tryz.func35, Tryz.ntmps35
    go_wp2_with fail
    go_ret
    exact ⟨rfl, hB⟩
  by_cases k4 : k = 4
  · subst k4
    rw [nVal4] at hv
    obtain ⟨⟨rfl, rfl, rfl, rfl, rfl⟩, rfl, rfl, rfl, rfl⟩ := hv
    go_enter Tryz.func35, Tryz.ntmps35
    go_wp2_with fail
    go_ret
    exact ⟨rfl, hB⟩
  by_cases k5 : k = 5
  · subst k5
    rw [nVal5] at hv
    obtain ⟨⟨rfl, rfl, rfl, rfl, rfl⟩, rfl, h0, h1, rfl, rfl⟩ := hv
    have hsi : si = 1 ∨ si = 2 ∨ si = 3 := by omega
    clear h0 h1
    rcases hsi with rfl | rfl | rfl
    ·
      go_enter Tryz.func35, Tryz.ntmps35
      go_wp2_with fail
      have hmo : Tryz.prog.follows .mixedOrders = true := by kernel_rfl
      have c7 := hX.cell 7
      simp only [List.getElem?_toArray, List.getElem?_cons_zero, List.getElem?_cons_succ] at c7
      have x7 := fun d os => cell_regrown c7 d os
      refine wp_region_ch 4 [0] hmo (by kernel_rfl) ?_
      simp only [List.take_succ_cons, List.take_zero, List.drop_succ_cons, List.drop_zero]
      with_reducible refine wpC_cg (ι := Nat) 55 #[] (fun b => .slice (some ⟨b, 0, none⟩) 3 3) (fun b x => BK x b 9 crestC) (by decide) (by decide) (by go_simp) (fun w => by go_simp) stable_true (fun b => stable_bk b _ _) (fun W hW _ => ?_) (fun b hs0 => ?_)
      · obtain ⟨pp, rfl⟩ := hW
        refine (ncrests_any _).mono ?_
        rintro e w' ⟨b, rfl, hbk, hbl⟩
        exact ⟨b, rfl, hbk, hbl⟩
      repeat (with_reducible refine wpC_q (by decide) (by decide) (fun K hK => ?_); go_simp; (try rw [if_neg (by simp [undef])]); refine hK _ ?_; clear hK K)
      refine wpC_nil ?_
      intro w1 hb1 hk
      have hBC := hB.trans (hb1.mono hB.size)
      have s0 := hk.2.cell 0
      simp only [crestC, List.getElem?_toArray, List.getElem?_cons_zero] at s0
      go_wp2_with fail
      go_ret
      exact ⟨rfl, hBC⟩
    ·
      go_enter Tryz.func35, Tryz.ntmps35
      go_wp2_with fail
      have hmo : Tryz.prog.follows .mixedOrders = true := by kernel_rfl
      have c7 := hX.cell 7
      simp only [List.getElem?_toArray, List.getElem?_cons_zero, List.getElem?_cons_succ] at c7
      have x7 := fun d os => cell_regrown c7 d os
      refine wp_region_ch 4 [0] hmo (by kernel_rfl) ?_
      simp only [List.take_succ_cons, List.take_zero, List.drop_succ_cons, List.drop_zero]
      with_reducible refine wpC_cg (ι := Nat) 55 #[] (fun b => .slice (some ⟨b, 0, none⟩) 3 3) (fun b x => BK x b 9 crestC) (by decide) (by decide) (by go_simp) (fun w => by go_simp) stable_true (fun b => stable_bk b _ _) (fun W hW _ => ?_) (fun b hs0 => ?_)
      · obtain ⟨pp, rfl⟩ := hW
        refine (ncrests_any _).mono ?_
        rintro e w' ⟨b, rfl, hbk, hbl⟩
        exact ⟨b, rfl, hbk, hbl⟩
      repeat (with_reducible refine wpC_q (by decide) (by decide) (fun K hK => ?_); go_simp; (try rw [if_neg (by simp [undef])]); refine hK _ ?_; clear hK K)
      refine wpC_nil ?_
      intro w1 hb1 hk
      have hBC := hB.trans (hb1.mono hB.size)
      have s1 := hk.2.cell 1
      simp only [crestC, List.getElem?_toArray, List.getElem?_cons_zero, List.getElem?_cons_succ] at s1
      go_wp2_with fail
      go_ret
      exact ⟨rfl, hBC⟩
    ·
      go_enter Tryz.func35, Tryz.ntmps35
      go_wp2_with fail
      have hmo : Tryz.prog.follows .mixedOrders = true := by kernel_rfl
      have c7 := hX.cell 7
      simp only [List.getElem?_toArray, List.getElem?_cons_zero, List.getElem?_cons_succ] at c7
      have x7 := fun d os => cell_regrown c7 d os
      refine wp_region_ch 4 [0] hmo (by kernel_rfl) ?_
      simp only [List.take_succ_cons, List.take_zero, List.drop_succ_cons, List.drop_zero]
      with_reducible refine wpC_cg (ι := Nat) 55 #[] (fun b => .slice (some ⟨b, 0, none⟩) 3 3) (fun b x => BK x b 9 crestC) (by decide) (by decide) (by go_simp) (fun w => by go_simp) stable_true (fun b => stable_bk b _ _) (fun W hW _ => ?_) (fun b hs0 => ?_)
      · obtain ⟨pp, rfl⟩ := hW
        refine (ncrests_any _).mono ?_
        rintro e w' ⟨b, rfl, hbk, hbl⟩
        exact ⟨b, rfl, hbk, hbl⟩
      repeat (with_reducible refine wpC_q (by decide) (by decide) (fun K hK => ?_); go_simp; (try rw [if_neg (by simp [undef])]); refine hK _ ?_; clear hK K)
      refine wpC_nil ?_
      intro w1 hb1 hk
      have hBC := hB.trans (hb1.mono hB.size)
      have s2 := hk.2.cell 2
      simp only [crestC, List.getElem?_toArray, List.getElem?_cons_zero, List.getElem?_cons_succ] at s2
      go_wp2_with fail
      go_ret
      exact ⟨rfl, hBC⟩
  by_cases k6 : k = 6
  · subst k6
    rw [nVal6] at hv
    obtain ⟨⟨rfl, rfl, rfl, rfl, rfl⟩, rfl, h0, h1, rfl, rfl⟩ := hv
    have hsi : si = 1 ∨ si = 2 ∨ si = 3 := by omega
    clear h0 h1
    rcases hsi with rfl | rfl | rfl
    ·
      go_enter Tryz.func35, Tryz.ntmps35
      go_wp2_with fail
      refine (repeat_one _).mono ?_
      rintro e w' ⟨rfl, hb⟩
      go_wp2_with fail
      go_ret
      exact ⟨rfl, hB.trans (hb.mono hB.size)⟩
    ·
      go_enter Tryz.func35, Tryz.ntmps35
      go_wp2_with fail
      refine (repeat_two _).mono ?_
      rintro e w' ⟨rfl, hb⟩
      go_wp2_with fail
      go_ret
      exact ⟨rfl, hB.trans (hb.mono hB.size)⟩
    ·
      go_enter Tryz.func35, Tryz.ntmps35
      go_wp2_with fail
      refine (repeat_three _).mono ?_
      rintro e w' ⟨rfl, hb⟩
      go_wp2_with fail
      go_ret
      exact ⟨rfl, hB.trans (hb.mono hB.size)⟩
  have k7 : k = 7 := by
    rcases Decidable.em (k = 7) with h | h
    · exact h
    · rw [nVal0 _ _ _ _ _ _ _ _ _ k k1 k2 k3 k4 k5 k6 h] at hv; cases hv
  subst k7
  rw [nVal7] at hv
  obtain ⟨⟨rfl, rfl, rfl, rfl, rfl⟩, rfl, rfl, h0, h1, h2, h3⟩ := hv
  have hs1 := itoa_size wa (by omega) (by omega)
  have hs2 := itoa_size ar (by omega) (by omega)
  go_enter Tryz.func35, Tryz.ntmps35
  go_wp2_with fail
  go_quiet (first | (go_at_call 54; exact Calls.quiet_of_same ((itoa_small _ (by omega) (by omega) _).mono fun _ _ ⟨a, b⟩ => ⟨a, b.symm⟩)))
  go_wp2_with fail
  go_ret
  refine ⟨?_, hB.trans (Joins.below_draws _ _ nq)⟩
  refine congrArg (fun b => Ending.returned (Value.string b)) ?_
  simp only [nlit, ← nbs_append]
  exact congrArg nbs (by simp [nTxt])
end Go.Proofs.YtcniibngfnkobaaGreatDoor
