/- NoteWrites, walked. -/
import Derived.Test.YtnmipejpjeakbaaGreatDoorPAll
import Derived.WalkKit
import Derived.WalkSpells
import Derived.Deep.Draws
import Derived.Lib.Hide
import Derived.Maps.AppendAt
import Derived.Test.YtnmipejpjeakbaaGreatDoorProg
import Derived.WalkLawsBesides
import Derived.Deep.QuietTactic
import Derived.BigQuiet
import Derived.BigGuardPart
import Derived.Deep.RegionHeld3
import Derived.Test.YtnmipejpjeakbaaGreatDoorQCOpen
import Derived.Deep.AppendLies
import Derived.Deep.RegionLaw
import Derived.Maps.OwnIn
import Derived.LoopNIn
import Derived.Laws.EntriesVeiled
import Derived.LoopIn
import Derived.TacticsInMore
import Derived.Shelf.Slices.Empties
import Derived.Shelf.Strconv.Itoa3
import Derived.Shelf.Strings.Repeat
import Derived.Shelf.Strings.OnBuilder
import Derived.Shelf.Strings.Search2
import Derived.Shelf.Strings.Prefix
import Derived.Shelf.Slices.SearchI
import Derived.Shelf.RegionOpen
import Derived.Lib.SmallJoins
import Derived.MakeChecks
import Derived.Stop.LaidErr
import Derived.Test.YtnmipejpjeakbaaGreatDoorRows
import Derived.Maps.OwnSet
import Derived.StringKeys
import Derived.Test.YtnmipejpjeakbaaGreatDoorQNoteP
import Derived.Laws.RangeAny
import Derived.RegionTactic
import Derived.BigRegion
import Derived.Lib.Join
import Derived.Test.YtnmipejpjeakbaaGreatDoorQMendP
import Derived.Test.YtnmipejpjeakbaaGreatDoorQButG
namespace Go.Proofs.YtnmipejpjeakbaaGreatDoor
open Go.RowKit Go.Shelf Go.Sort Go.Proofs

theorem readB_nJoin (xs : List NoteR) (h : xs.all nVal = true) : readB (nJoin xs) = some xs := read_write xs h
set_option maxRecDepth 100000 in
set_option maxHeartbeats 8000000 in
theorem LWrites_walk (A : Option Addr) (n c : Nat) (xs : List NoteR) (w : World) (h : SL nC 10 w w.heap.size A n xs) (_ : n ≤ c ∧ n ≤ 9223372036854775807) (ht : Lib.TabIs Tryz.prog w pow10N .u64 Lib.pow10Tab) :
    Calls Tryz.prog 4 #[.slice A n c] w fun e w' => e = .returned (.bool true) ∧ Below w.heap.size w w' := by
  have hmo : Tryz.prog.follows .mixedOrders = true := by kernel_rfl
  have HT := Lib.hid ht
  have HL := Lib.hid h.1
  have HS := Lib.hid h
  clear ht h
  by_cases hA : (60 < n ∧ n ≤ 2000) ∨ 2200 < n
  · go_enter Tryz.func4, Tryz.ntmps4
    rcases hA with ⟨h1, h2⟩ | h1
    · have g1 : decide ((60 : Int) < (n : Int)) = true := by simp; omega
      have g2 : decide ((n : Int) ≤ 2000) = true := by simp; omega
      clear h1 h2
      go_wp2_with fail
      refine (known2_any _ HT.out).mono ?_
      rintro e w' ⟨rfl, hb⟩
      go_wp2_with fail
      go_ret
      exact ⟨rfl, hb⟩
    · have g1 : decide ((60 : Int) < (n : Int)) = true := by simp; omega
      have g2 : decide ((n : Int) ≤ 2000) = false := by simp; omega
      have g3 : decide ((2200 : Int) < (n : Int)) = true := by simp; omega
      clear h1
      go_wp2_with fail
      refine (known2_any _ HT.out).mono ?_
      rintro e w' ⟨rfl, hb⟩
      go_wp2_with fail
      go_ret
      exact ⟨rfl, hb⟩
  by_cases hB : 2000 < n
  · have HW : Hid (nWr xs = ([], 4)) := by
      have h1 : nLE xs = 4 := by unfold nLE; rw [if_pos (by rw [← HL.out]; exact hB)]
      show _ = _
      unfold nWr
      rw [h1, if_neg (by decide)]
    have g1 : decide ((60 : Int) < (n : Int)) = true := by simp; omega
    have g2 : decide ((n : Int) ≤ 2000) = false := by simp; omega
    have g3 : decide ((2200 : Int) < (n : Int)) = false := by simp; omega
    have g4 : decide ((2000 : Int) < (n : Int)) = true := by simp; omega
    have e0 : (nbs []).toList = [] := nbs_list []
    clear hA hB
    go_enter Tryz.func4, Tryz.ntmps4
    go_wp2_with fail
    refine (nwrite_any A n c xs _ HS.out HT.out).mono ?_
    rintro e w1 ⟨rfl, hb1⟩
    rw [HW.out]
    have HT1 := Lib.hid (pow10_stays HT.out hb1 (Nat.le_refl _))
    go_wp2_with fail
    refine (known2_any _ HT1.out).mono ?_
    rintro e w2 ⟨rfl, hb2⟩
    go_wp2_with fail
    go_ret
    exact ⟨rfl, hb1.trans (hb2.mono hb1.size)⟩
  have hn : n ≤ 60 := by omega
  have g1 : decide ((60 : Int) < (n : Int)) = false := by simp; omega
  have g3 : decide ((2200 : Int) < (n : Int)) = false := by simp; omega
  have g4 : decide ((2000 : Int) < (n : Int)) = false := by simp; omega
  clear hA hB
  go_enter Tryz.func4, Tryz.ntmps4
  go_wp2_with fail
  refine (nwrite_any A n c xs _ HS.out HT.out).mono ?_
  rintro e w1 ⟨rfl, hb1⟩
  have HB1 := Lib.hid hb1
  obtain ⟨S, E, hSE⟩ : ∃ S E, nWr xs = (S, E) := ⟨_, _, rfl⟩
  rw [hSE]
  have HSE := Lib.hid hSE
  clear hb1 hSE
  go_wp2_with fail
  clear g1 g3 g4
  go_loopw [5] (fun iv wr => ∃ k : Nat, k ≤ n ∧ iv = .int .i64 (k : Nat) ∧ Below w.heap.size w wr) (fun iv _ => n - (intOf iv).toNat)
  case atStart => exact ⟨0, Nat.zero_le _, rfl, HB1.out⟩
  case round =>
    obtain ⟨k, hk1, rfl, hbr⟩ := hrel
    by_cases hlt : k < n
    · have hkl : k < xs.length := by rw [← HL.out]; exact hlt
      obtain ⟨b, off, hAd, hbB, c0', c1', c2', c3', c4', c5', c6', c7', c8', c9'⟩ := NS.at_ (HS.out.below hbr) hkl
      generalize xs[k]'hkl = x at *
      obtain ⟨k0, tu0, gr0, lo0, ch0, ton0, me0, si0, wa0, ar0⟩ := x
      dsimp only at c0' c1' c2' c3' c4' c5' c6' c7' c8' c9'
      subst hAd
      have c0 := fun d os => cell_regrown c0' d os
      have c1 := fun d os => cell_regrown c1' d os
      have c2 := fun d os => cell_regrown c2' d os
      have c3 := fun d os => cell_regrown c3' d os
      have c4 := fun d os => cell_regrown c4' d os
      have c5 := fun d os => cell_regrown c5' d os
      have c6 := fun d os => cell_regrown c6' d os
      have c7 := fun d os => cell_regrown c7' d os
      have c8 := fun d os => cell_regrown c8' d os
      have c9 := fun d os => cell_regrown c9' d os
      have hk0 : (0 : Int) ≤ (k : Int) := by omega
      have hkn : (k : Int) < (n : Int) := by omega
      have gk : decide ((k : Int) < (n : Int)) = true := by simp; omega
      have HBR := Lib.hid hbr
      obtain ⟨V, hV⟩ : ∃ V, nVal ⟨k0, tu0, gr0, lo0, ch0, ton0, me0, si0, wa0, ar0⟩ = V := ⟨_, rfl⟩
      have HV := Lib.hid hV
      clear hV hbr
      go_wp2_with fail
      refine wp_region_ch 10 [4, 9] hmo (by kernel_rfl) ?_
      simp only [List.take_succ_cons, List.take_zero, List.drop_succ_cons, List.drop_zero]
      repeat (refine wpC_q (by decide) (by decide) (fun K hK => ?_); go_simp; refine hK _ ?_; clear hK K)
      refine wpC_c (ι := Unit) 18 #[.agg #[.int .i64 k0, .int .i64 tu0, .int .i64 gr0, .int .i64 lo0, .int .i64 ch0, .int .i64 ton0, .int .i64 me0, .int .i64 si0, .int .i64 wa0, .int .i64 ar0]] (fun _ => .bool V) (fun _ _ => True) (by decide) (by decide) rfl (fun w => by go_simp) stable_true (fun _ => stable_true) (fun W hW _ => ?_) (fun ihs1 hs1 => ?_)
      · obtain ⟨p, rfl⟩ := hW
        refine (nvalid_any k0 tu0 gr0 lo0 ch0 ton0 me0 si0 wa0 ar0 _).mono ?_
        rintro e w' ⟨rfl, hbl⟩
        exact ⟨(), by rw [HV.out], trivial, hbl⟩
      repeat (refine wpC_q (by decide) (by decide) (fun K hK => ?_); go_simp; refine hK _ ?_; clear hK K)
      refine wpC_c (ι := Unit) 19 #[.agg #[.int .i64 k0, .int .i64 tu0, .int .i64 gr0, .int .i64 lo0, .int .i64 ch0, .int .i64 ton0, .int .i64 me0, .int .i64 si0, .int .i64 wa0, .int .i64 ar0]] (fun _ => .bool V) (fun _ _ => True) (by decide) (by decide) rfl (fun w => by go_simp) hs1 (fun _ => stable_true) (fun W hW _ => ?_) (fun ihs2 hs2 => ?_)
      · obtain ⟨p, rfl⟩ := hW
        refine (rvalid_any k0 tu0 gr0 lo0 ch0 ton0 me0 si0 wa0 ar0 _).mono ?_
        rintro e w' ⟨rfl, hbl⟩
        exact ⟨(), by rw [HV.out], trivial, hbl⟩
      refine wpC_nil ?_
      intro w8 hk8 _
      clear hs1 hs2 c0 c1 c2 c3 c4 c5 c6 c7 c8 c9 c0' c1' c2' c3' c4' c5' c6' c7' c8' c9'
      go_wp2_with fail
      go_roundw
      case rel => exact ⟨k + 1, by omega, by go_num, HBR.out.trans (hk8.mono HBR.out.size)⟩
      case measure => simp [intOf]; omega
    · obtain rfl : k = n := by omega
      have gk : decide ((k : Int) < (k : Int)) = false := by simp
      have HBR := Lib.hid hbr
      have hT1 := pow10_stays HT.out hbr (Nat.le_refl _)
      have hcall := rall_any A k c xs wr (HS.out.grow hbr hbr.size) (by omega)
      clear hbr
      go_wp2_with fail
      refine hcall.mono ?_
      rintro e w2 ⟨rfl, hb2⟩
      have HB2 := Lib.hid (HBR.out.trans (hb2.mono HBR.out.size))
      have HT2 := Lib.hid (pow10_stays HT.out HB2.out (Nat.le_refl _))
      clear hcall hb2 hT1
      cases hv : xs.all nVal with
      | false =>
        have h1 : nLE xs = 2 := by unfold nLE; rw [if_neg (by rw [← HL.out]; omega), hv]; rfl
        have h2 : (S, E) = (([] : List UInt8), (2 : Int)) := by rw [← HSE.out]; unfold nWr; rw [h1, if_neg (by decide)]
        injection h2 with h2 h3
        subst h2 h3
        have e0 : (nbs []).toList = [] := nbs_list []
        clear hv h1
        go_wp2_with fail
        refine (known2_any _ HT2.out).mono ?_
        rintro e w3 ⟨rfl, hb3⟩
        go_wp2_with fail
        go_ret
        exact ⟨rfl, HB2.out.trans (hb3.mono HB2.out.size)⟩
      | true =>
        have h2 : (S, E) = (nJoin xs, (0 : Int)) := by rw [← HSE.out]; exact nWr_of (by rw [← HL.out]; omega) hv
        injection h2 with h2 h3
        subst h2 h3
        have hjl := nJoin_len xs hv
        have HE : Hid (noteRd (nJoin xs) = .ok xs) := by
          show _ = _
          unfold noteRd
          rw [if_neg (by have := HL.out; omega), readB_nJoin xs hv]
          simp only
          rw [if_neg (by rw [← HL.out]; omega)]
        have HV := Lib.hid hv
        clear hv hjl
        go_wp2_with fail
        refine (nread_any _ _).mono ?_
        rintro e w3 hR
        obtain ⟨hb3, A3, c3, rfl, hO3⟩ := rd_ok HE.out hR
        have HB3 := Lib.hid (HB2.out.trans (hb3.mono HB2.out.size))
        have HT3 := Lib.hid (pow10_stays HT.out HB3.out (Nat.le_refl _))
        have HS3 := Lib.hid (hO3.sl nC_len)
        clear hR hb3 hO3
        go_wp2_with fail
        refine (rwrite_any A k c xs _ (HS.out.grow HB3.out HB3.out.size) (by omega) HV.out HT3.out).mono ?_
        rintro e w4 ⟨rfl, hb4⟩
        have HB4 := Lib.hid (HB3.out.trans (hb4.mono HB3.out.size))
        have HS4 := Lib.hid (HS3.out.grow hb4 hb4.size)
        clear hb4
        have e1 : ((nbs (nJoin xs)).toList == (nbs (nJoin xs)).toList) = true := by simp
        go_wp2_with fail
        refine (rsame_any A3 xs.length c3 xs A k c xs _ HS4.out (HS.out.grow HB4.out HB4.out.size) (by have := HL.out; omega)).mono ?_
        rintro e w5 ⟨rfl, hb5⟩
        rw [show decide (xs = xs) = true from decide_eq_true rfl]
        have HB5 := Lib.hid (HB4.out.trans (hb5.mono HB4.out.size))
        have HT5 := Lib.hid (pow10_stays HT.out HB5.out (Nat.le_refl _))
        clear hb5
        go_wp2_with fail
        refine (known2_any _ HT5.out).mono ?_
        rintro e w6 ⟨rfl, hb6⟩
        go_wp2_with fail
        go_ret
        exact ⟨rfl, HB5.out.trans (hb6.mono HB5.out.size)⟩
end Go.Proofs.YtnmipejpjeakbaaGreatDoor
