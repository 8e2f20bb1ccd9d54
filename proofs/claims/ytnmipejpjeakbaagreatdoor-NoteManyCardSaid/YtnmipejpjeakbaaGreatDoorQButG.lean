/- Worlds that differ in one old block (and have grown). Plain theorems over any program. -/
import Derived.Test.YtnmipejpjeakbaaGreatDoorPAll
import Derived.Test.YtnmipejpjeakbaaGreatDoorQCOpen
import Derived.WalkKit
import Derived.WalkSpells
import Derived.Deep.Draws
import Derived.Lib.Hide
import Derived.Maps.AppendAt
import Derived.Test.YtnmipejpjeakbaaGreatDoorProg
import Derived.WalkLawsBesides
import Derived.Deep.QuietTactic
import Derived.BigQuiet
import Derived.BigGuardPart
import Derived.Deep.RegionHeld3
import Derived.Deep.AppendLies
import Derived.Deep.RegionLaw
import Derived.Maps.OwnIn
import Derived.LoopNIn
import Derived.Laws.EntriesVeiled
import Derived.LoopIn
import Derived.TacticsInMore
import Derived.RangeFuncNested
import Derived.RangeFuncBound
import Derived.RangeFuncCalls
import Derived.RangeFuncLeaves
import Derived.Maps.OwnSet
import Derived.StringKeys
import Derived.Test.YtnmipejpjeakbaaGreatDoorQNoteP
import Derived.Laws.RangeAny
import Derived.Lib.Join
import Derived.Defers
import Derived.Recover
import Derived.RegionIn
import Derived.RecoverIn
import Derived.OwnWalkIn
import Derived.Shelf.Slices.Empties
import Derived.Shelf.Strconv.Itoa3
import Derived.Shelf.Strings.Repeat
import Derived.Shelf.Strings.OnBuilder
import Derived.Shelf.Strings.Search2
import Derived.Shelf.Strings.Prefix
import Derived.Shelf.Slices.SearchI
import Derived.Shelf.RegionOpen
import Derived.Lib.SmallJoins
import Derived.MakeChecks
import Derived.Stop.LaidErr
import Derived.Test.YtnmipejpjeakbaaGreatDoorRows
import Derived.RegionTactic
import Derived.BigRegion
import Derived.Test.YtnmipejpjeakbaaGreatDoorQMendP
namespace Go.Proofs.YtnmipejpjeakbaaGreatDoor
open Go.RowKit Go.Shelf Go.Sort Go.Proofs

section
variable {m : Nat} {W W' : World}
end

instance : Inhabited RegO := ⟨⟨.cells #[] 0, 0, #[]⟩⟩
end Go.Proofs.YtnmipejpjeakbaaGreatDoor

/- The words of a text: strings.Cut at a blank; the iterator that yields them. -/
namespace Go.Proofs.YtnmipejpjeakbaaGreatDoor
open Go.RowKit Go.Shelf Go.Sort Go.Proofs

attribute [local go_sem] Oper.semAt_some
end Go.Proofs.YtnmipejpjeakbaaGreatDoor

/- Reading notes: all notes of a text. -/
namespace Go.Proofs.YtnmipejpjeakbaaGreatDoor
open Go.RowKit Go.Shelf Go.Sort Go.Proofs

attribute [local go_sem] Oper.semAt_some
end Go.Proofs.YtnmipejpjeakbaaGreatDoor

/- NoteMany, walked. -/
namespace Go.Proofs.YtnmipejpjeakbaaGreatDoor
open Go.RowKit Go.Shelf Go.Sort Go.Proofs

def bangN : NoteR := ⟨6, 0, 0, 0, 0, 0, 0, 1, 0, 0⟩
/-- So many words !, between blanks. -/
def bangs : Nat → List UInt8
  | 0 => [33]
  | k + 1 => bangs k ++ [32, 33]
theorem join_one (x : List UInt8) : Lib.join [x] [32] = x := by simp [Lib.join, List.intercalate]
theorem rep_snoc {α : Type} (a : α) (k : Nat) : List.replicate (k + 1) a = List.replicate k a ++ [a] := List.replicate_succ'
theorem rep_ne {α : Type} (a : α) (k : Nat) : List.replicate (k + 1) a ≠ [] := by simp
theorem bangs_join : ∀ k : Nat, bangs k = Lib.join (List.replicate (k + 1) [33]) [32]
  | 0 => by rw [show List.replicate (0 + 1) [(33 : UInt8)] = [[33]] from rfl, join_one]; rfl
  | k + 1 => by
    rw [bangs, bangs_join k, rep_snoc [(33 : UInt8)] (k + 1), join_append _ _ (rep_ne _ _) (by simp), join_one]
theorem bangs_len : ∀ k : Nat, (bangs k).length = 2 * k + 1
  | 0 => rfl
  | k + 1 => by rw [bangs, List.length_append, bangs_len k]; simp; omega
theorem bangs_read (k : Nat) : readB (bangs k) = some (List.replicate (k + 1) bangN) := by
  have h1 : (List.replicate (k + 1) bangN).map nTxt = List.replicate (k + 1) [33] := by
    rw [List.map_replicate]
    rfl
  rw [bangs_join, ← h1]
  exact read_write _ (by simp [List.all_replicate]; decide)
theorem pAll_bad : ∀ k : Nat, pAll (List.replicate k [33] ++ [[120]]) = none
  | 0 => pAll_none (by simp) (by decide)
  | k + 1 => by
    have h : pNote ([33] :: (List.replicate k [33] ++ [[120]])) = some (bangN, List.replicate k [33] ++ [[120]]) := rfl
    rw [List.replicate_succ, List.cons_append, pAll_some h, pAll_bad k]
    rfl
theorem bangs_bad (k : Nat) : readB (bangs k ++ [32, 120]) = none := by
  have h1 : bangs k ++ [32, 120] = Lib.join (List.replicate (k + 1) [33] ++ [[120]]) [32] := by
    rw [join_append _ _ (rep_ne _ _) (by simp), ← bangs_join, join_one]
  have h2 : ∀ w ∈ List.replicate (k + 1) [(33 : UInt8)] ++ [[120]], (32 : UInt8) ∉ w := by
    intro w hw
    rcases List.mem_append.1 hw with hw | hw
    · rw [(List.mem_replicate.1 hw).2]; decide
    · rw [List.mem_singleton.1 hw]; decide
  have h3 : bangs k ++ [32, 120] ≠ [] := by simp
  unfold readB wordsB
  rw [if_neg h3, h1, splitB_join _ (by simp) h2]
  exact pAll_bad (k + 1)
set_option maxRecDepth 100000 in
set_option maxHeartbeats 4000000 in
theorem LMany_walk (x : Int) (bad : Bool) (w : World) (ht : Lib.TabIs Tryz.prog w pow10N .u64 Lib.pow10Tab) :
    Calls Tryz.prog 5 #[.int .i64 x, .bool bad] w fun e w' => e = .returned (.bool true) ∧ Below w.heap.size w w' := by
  have HT := Lib.hid ht
  clear ht
  by_cases hx : x < 1900 ∨ 2100 < x
  · go_enter Tryz.func5, Tryz.ntmps5
    by_cases h1 : x < 1900
    · go_wp2_with fail
      refine (known2_any _ HT.out).mono ?_
      rintro e w' ⟨rfl, hb⟩
      go_wp2_with fail
      go_ret
      exact ⟨rfl, hb⟩
    · have h2 : 2100 < x := by omega
      go_wp2_with fail
      refine (known2_any _ HT.out).mono ?_
      rintro e w' ⟨rfl, hb⟩
      go_wp2_with fail
      go_ret
      exact ⟨rfl, hb⟩
  obtain ⟨n, rfl⟩ : ∃ n : Nat, x = (n : Int) := ⟨x.toNat, by omega⟩
  have hn1 : 1900 ≤ n := by omega
  have hn2 : n ≤ 2100 := by omega
  have g1 : decide ((n : Int) < 1900) = false := by simp; omega
  have g2 : decide ((2100 : Int) < (n : Int)) = false := by simp; omega
  clear hx
  go_enter Tryz.func5, Tryz.ntmps5
  go_wp2_with fail
  clear g1 g2
  go_loopw [5, 6] (fun sv iv wr => ∃ k : Nat, k + 1 ≤ n ∧ iv = .int .i64 ((k + 1 : Nat) : Int) ∧ sv = .string (nbs (bangs k)) ∧ wr = w)
    (fun _ iv _ => n - (intOf iv).toNat)
  case atStart => exact ⟨0, by omega, rfl, rfl, rfl⟩
  case round =>
    obtain ⟨k, hk, rfl, rfl, rfl⟩ := hrel
    have hsz : (nbs (bangs k)).size = 2 * k + 1 := by rw [nbs_size, bangs_len]
    by_cases hlt : k + 1 < n
    · have g1 : decide (((k + 1 : Nat) : Int) < (n : Int)) = true := by simp; omega
      have HA : Hid (nbs (bangs (k + 1)) = nbs (bangs k) ++ ByteArray.mk #[32, 33]) := by show _ = _; rw [bangs, nbs_append]; rfl
      go_wp2_with fail
      go_roundw
      case rel => exact ⟨k + 1, by omega, by go_num, by rw [HA.out], trivial⟩
      case measure => simp [intOf]; omega
    · obtain rfl : n = k + 1 := by omega
      have g1 : decide (((k + 1 : Nat) : Int) < ((k + 1 : Nat) : Int)) = false := by simp
      have hln := bangs_len k
      cases bad with
      | true =>
        have HA : Hid (nbs (bangs k) ++ ByteArray.mk #[32, 120] = nbs (bangs k ++ [32, 120])) := by show _ = _; rw [nbs_append]; rfl
        have HE : Hid (noteRd (bangs k ++ [32, 120]) = .error 3) := by
          show _ = _
          unfold noteRd
          rw [if_neg (by rw [List.length_append, hln]; simp; omega), bangs_bad]
        clear hln
        by_cases h2 : 2000 < k + 1
        · have g2 : decide ((2000 : Int) < ((k + 1 : Nat) : Int)) = true := by simp; omega
          go_wp2_with fail
          rw [HA.out]
          refine (nread_any _ _).mono ?_
          rintro e w1 hR
          obtain ⟨hb1, rfl⟩ := rd_err HE.out hR
          have HT1 := Lib.hid (pow10_stays HT.out hb1 (Nat.le_refl _))
          clear hR
          go_wp2_with fail
          refine (known2_any _ HT1.out).mono ?_
          rintro e w2 ⟨rfl, hb2⟩
          go_wp2_with fail
          go_ret
          exact ⟨rfl, hb1.trans (hb2.mono hb1.size)⟩
        · have g2 : decide ((2000 : Int) < ((k + 1 : Nat) : Int)) = false := by simp; omega
          go_wp2_with fail
          rw [HA.out]
          refine (nread_any _ _).mono ?_
          rintro e w1 hR
          obtain ⟨hb1, rfl⟩ := rd_err HE.out hR
          have HT1 := Lib.hid (pow10_stays HT.out hb1 (Nat.le_refl _))
          clear hR
          go_wp2_with fail
          refine (known2_any _ HT1.out).mono ?_
          rintro e w2 ⟨rfl, hb2⟩
          go_wp2_with fail
          go_ret
          exact ⟨rfl, hb1.trans (hb2.mono hb1.size)⟩
      | false =>
        by_cases h2 : 2000 < k + 1
        · have g2 : decide ((2000 : Int) < ((k + 1 : Nat) : Int)) = true := by simp; omega
          have HE : Hid (noteRd (bangs k) = .error 4) := by
            show _ = _
            unfold noteRd
            rw [if_neg (by rw [hln]; omega), bangs_read]
            simp only
            rw [if_pos (by rw [List.length_replicate]; exact h2)]
          clear hln
          go_wp2_with fail
          refine (nread_any _ _).mono ?_
          rintro e w1 hR
          obtain ⟨hb1, rfl⟩ := rd_err HE.out hR
          have HT1 := Lib.hid (pow10_stays HT.out hb1 (Nat.le_refl _))
          clear hR
          go_wp2_with fail
          refine (known2_any _ HT1.out).mono ?_
          rintro e w2 ⟨rfl, hb2⟩
          go_wp2_with fail
          go_ret
          exact ⟨rfl, hb1.trans (hb2.mono hb1.size)⟩
        · have g2 : decide ((2000 : Int) < ((k + 1 : Nat) : Int)) = false := by simp; omega
          have HE : Hid (noteRd (bangs k) = .ok (List.replicate (k + 1) bangN)) := by
            show _ = _
            unfold noteRd
            rw [if_neg (by rw [hln]; omega), bangs_read]
            simp only
            rw [if_neg (by rw [List.length_replicate]; exact h2)]
          clear hln
          go_wp2_with fail
          refine (nread_any _ _).mono ?_
          rintro e w1 hR
          obtain ⟨hb1, A, c, rfl, -⟩ := rd_ok HE.out hR
          rw [List.length_replicate]
          have HT1 := Lib.hid (pow10_stays HT.out hb1 (Nat.le_refl _))
          clear hR
          go_wp2_with fail
          refine (known2_any _ HT1.out).mono ?_
          rintro e w2 ⟨rfl, hb2⟩
          go_wp2_with fail
          go_ret
          exact ⟨rfl, hb1.trans (hb2.mono hb1.size)⟩
end Go.Proofs.YtnmipejpjeakbaaGreatDoor
