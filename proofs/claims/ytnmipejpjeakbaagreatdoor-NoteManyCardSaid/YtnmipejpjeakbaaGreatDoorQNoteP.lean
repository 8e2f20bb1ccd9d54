/- Notes, plain: which notes are valid, the text of a valid note (ASCII), how long a text takes. -/
import Derived.Test.YtnmipejpjeakbaaGreatDoorPAll
import Derived.Lib.ItoaLen
import Derived.Test.YtnmipejpjeakbaaGreatDoorQCOpen
import Derived.WalkKit
import Derived.WalkSpells
import Derived.Deep.Draws
import Derived.Lib.Hide
import Derived.Maps.AppendAt
import Derived.Test.YtnmipejpjeakbaaGreatDoorProg
import Derived.WalkLawsBesides
import Derived.Deep.QuietTactic
import Derived.BigQuiet
import Derived.BigGuardPart
import Derived.Deep.RegionHeld3
import Derived.Deep.AppendLies
import Derived.Deep.RegionLaw
import Derived.Maps.OwnIn
import Derived.LoopNIn
import Derived.Laws.EntriesVeiled
import Derived.LoopIn
import Derived.TacticsInMore
import Derived.Shelf.Slices.Empties
import Derived.Shelf.Strconv.Itoa3
import Derived.Shelf.Strings.Repeat
import Derived.Shelf.Strings.OnBuilder
import Derived.Shelf.Strings.Search2
import Derived.Shelf.Strings.Prefix
import Derived.Shelf.Slices.SearchI
import Derived.Shelf.RegionOpen
import Derived.Lib.SmallJoins
import Derived.MakeChecks
import Derived.Stop.LaidErr
import Derived.Test.YtnmipejpjeakbaaGreatDoorRows
namespace Go.Proofs.YtnmipejpjeakbaaGreatDoor
open Go.Lib
instance (n : NoteR) : Decidable (nCor n) := by unfold nCor; infer_instance
instance (n : NoteR) : Decidable (nNoCor n) := by unfold nNoCor; infer_instance
section
variable (tu gr lo ch ton me si wa ar : Int)
end
end Go.Proofs.YtnmipejpjeakbaaGreatDoor

/- Notes: the text of a valid note, as the program writes it and as the document does. -/
namespace Go.Proofs.YtnmipejpjeakbaaGreatDoor
open Go.RowKit Go.Shelf Go.Sort Go.Proofs

set_option maxRecDepth 100000 in
set_option maxHeartbeats 8000000 in
theorem rtext_any (k tu gr lo ch ton me si wa ar : Int) (hv : nVal ⟨k, tu, gr, lo, ch, ton, me, si, wa, ar⟩ = true) (w : World) (ht : Lib.TabIs Tryz.prog w pow10N .u64 Lib.pow10Tab) :
    Calls Tryz.prog 52 #[.agg #[.int .i64 k, .int .i64 tu, .int .i64 gr, .int .i64 lo, .int .i64 ch, .int .i64 ton, .int .i64 me, .int .i64 si, .int .i64 wa, .int .i64 ar]] w fun e w' => e = .returned (.string (nbs (nTxt ⟨k, tu, gr, lo, ch, ton, me, si, wa, ar⟩))) ∧ Below w.heap.size w w' := by
  have hw0 := nidx0
  have hw1 := nidx1
  have hw2 := nidx2
  have hB : Below w.heap.size w (w.alloc (.cells #[.int .i64 k, .int .i64 tu, .int .i64 gr, .int .i64 lo, .int .i64 ch, .int .i64 ton, .int .i64 me, .int .i64 si, .int .i64 wa, .int .i64 ar] 36)) := (Below.refl w.heap.size w).alloc (Nat.le_refl _) _
  have hX : BK (w.alloc (.cells #[.int .i64 k, .int .i64 tu, .int .i64 gr, .int .i64 lo, .int .i64 ch, .int .i64 ton, .int .i64 me, .int .i64 si, .int .i64 wa, .int .i64 ar] 36)) w.heap.size 36 #[.int .i64 k, .int .i64 tu, .int .i64 gr, .int .i64 lo, .int .i64 ch, .int .i64 ton, .int .i64 me, .int .i64 si, .int .i64 wa, .int .i64 ar] := BK.new w _ _
  have ht0 := pow10_stays ht hB (Nat.le_refl _)
  by_cases k1 : k = 1
  · subst k1
    rw [nVal1] at hv
    obtain ⟨⟨htu, hgr, hlo, hch⟩, rfl, rfl, rfl, rfl⟩ := hv
    have hlo : lo = -1 ∨ lo = 0 ∨ lo = 1 := by omega
    clear ht0
    have hs1 := itoa_size gr (by omega) (by omega)
    rcases htu with rfl | rfl <;> rcases hlo with rfl | rfl | rfl <;> rcases hch with ⟨rfl, rfl⟩ | ⟨rfl, hto⟩ | ⟨rfl, hto⟩
    ·
      go_enter Tryz.func52, Tryz.ntmps52
      go_wp2_with (go_at_call 86; refine (itoa_small _ (by omega) (by omega) _).mono ?_; rintro e w' ⟨rfl, rfl⟩)
      go_ret
      refine ⟨?_, hB⟩
      refine congrArg (fun b => Ending.returned (Value.string b)) ?_
      simp only [nlit, ← nbs_append]
      exact congrArg nbs (by simp [nTxt])
    ·
      have hs2 := itoa_size ton (by omega) (by omega)
      go_enter Tryz.func52, Tryz.ntmps52
      go_wp2_with (go_at_call 86; refine (itoa_small _ (by omega) (by omega) _).mono ?_; rintro e w' ⟨rfl, rfl⟩)
      go_ret
      refine ⟨?_, hB⟩
      refine congrArg (fun b => Ending.returned (Value.string b)) ?_
      simp only [nlit, ← nbs_append]
      exact congrArg nbs (by simp [nTxt])
    ·
      have hs2 := itoa_size ton (by omega) (by omega)
      go_enter Tryz.func52, Tryz.ntmps52
      go_wp2_with (go_at_call 86; refine (itoa_small _ (by omega) (by omega) _).mono ?_; rintro e w' ⟨rfl, rfl⟩)
      go_ret
      refine ⟨?_, hB⟩
      refine congrArg (fun b => Ending.returned (Value.string b)) ?_
      simp only [nlit, ← nbs_append]
      exact congrArg nbs (by simp [nTxt])
    ·
      go_enter Tryz.func52, Tryz.ntmps52
      go_wp2_with (go_at_call 86; refine (itoa_small _ (by omega) (by omega) _).mono ?_; rintro e w' ⟨rfl, rfl⟩)
      go_ret
      refine ⟨?_, hB⟩
      refine congrArg (fun b => Ending.returned (Value.string b)) ?_
      simp only [nlit, ← nbs_append]
      exact congrArg nbs (by simp [nTxt])
    ·
      have hs2 := itoa_size ton (by omega) (by omega)
      go_enter Tryz.func52, Tryz.ntmps52
      go_wp2_with (go_at_call 86; refine (itoa_small _ (by omega) (by omega) _).mono ?_; rintro e w' ⟨rfl, rfl⟩)
      go_ret
      refine ⟨?_, hB⟩
      refine congrArg (fun b => Ending.returned (Value.string b)) ?_
      simp only [nlit, ← nbs_append]
      exact congrArg nbs (by simp [nTxt])
    ·
      have hs2 := itoa_size ton (by omega) (by omega)
      go_enter Tryz.func52, Tryz.ntmps52
      go_wp2_with (go_at_call 86; refine (itoa_small _ (by omega) (by omega) _).mono ?_; rintro e w' ⟨rfl, rfl⟩)
      go_ret
      refine ⟨?_, hB⟩
      refine congrArg (fun b => Ending.returned (Value.string b)) ?_
      simp only [nlit, ← nbs_append]
      exact congrArg nbs (by simp [nTxt])
    ·
      go_enter Tryz.func52, Tryz.ntmps52
      go_wp2_with (go_at_call 86; refine (itoa_small _ (by omega) (by omega) _).mono ?_; rintro e w' ⟨rfl, rfl⟩)
      go_ret
      refine ⟨?_, hB⟩
      refine congrArg (fun b => Ending.returned (Value.string b)) ?_
      simp only [nlit, ← nbs_append]
      exact congrArg nbs (by simp [nTxt])
    ·
      have hs2 := itoa_size ton (by omega) (by omega)
      go_enter Tryz.func52, Tryz.ntmps52
      go_wp2_with (go_at_call 86; refine (itoa_small _ (by omega) (by omega) _).mono ?_; rintro e w' ⟨rfl, rfl⟩)
      go_ret
      refine ⟨?_, hB⟩
      refine congrArg (fun b => Ending.returned (Value.string b)) ?_
      simp only [nlit, ← nbs_append]
      exact congrArg nbs (by simp [nTxt])
    ·
      have hs2 := itoa_size ton (by omega) (by omega)
      go_enter Tryz.func52, Tryz.ntmps52
      go_wp2_with (go_at_call 86; refine (itoa_small _ (by omega) (by omega) _).mono ?_; rintro e w' ⟨rfl, rfl⟩)
      go_ret
      refine ⟨?_, hB⟩
      refine congrArg (fun b => Ending.returned (Value.string b)) ?_
      simp only [nlit, ← nbs_append]
      exact congrArg nbs (by simp [nTxt])
    ·
      go_enter Tryz.func52, Tryz.ntmps52
      go_wp2_with (go_at_call 86; refine (itoa_small _ (by omega) (by omega) _).mono ?_; rintro e w' ⟨rfl, rfl⟩)
      go_ret
      refine ⟨?_, hB⟩
      refine congrArg (fun b => Ending.returned (Value.string b)) ?_
      simp only [nlit, ← nbs_append]
      exact congrArg nbs (by simp [nTxt])
    ·
      have hs2 := itoa_size ton (by omega) (by omega)
      go_enter Tryz.func52, Tryz.ntmps52
      go_wp2_with (go_at_call 86; refine (itoa_small _ (by omega) (by omega) _).mono ?_; rintro e w' ⟨rfl, rfl⟩)
      go_ret
      refine ⟨?_, hB⟩
      refine congrArg (fun b => Ending.returned (Value.string b)) ?_
      simp only [nlit, ← nbs_append]
      exact congrArg nbs (by simp [nTxt])
    ·
      have hs2 := itoa_size ton (by omega) (by omega)
      go_enter Tryz.func52, Tryz.ntmps52
      go_wp2_with (go_at_call 86; refine (itoa_small _ (by omega) (by omega) _).mono ?_; rintro e w' ⟨rfl, rfl⟩)
      go_ret
      refine ⟨?_, hB⟩
      refine congrArg (fun b => Ending.returned (Value.string b)) ?_
      simp only [nlit, ← nbs_append]
      exact congrArg nbs (by simp [nTxt])
    ·
      go_enter Tryz.func52, Tryz.ntmps52
      go_wp2_with (go_at_call 86; refine (itoa_small _ (by omega) (by omega) _).mono ?_; rintro e w' ⟨rfl, rfl⟩)
      go_ret
      refine ⟨?_, hB⟩
      refine congrArg (fun b => Ending.returned (Value.string b)) ?_
      simp only [nlit, ← nbs_append]
      exact congrArg nbs (by simp [nTxt])
    ·
      have hs2 := itoa_size ton (by omega) (by omega)
      go_enter Tryz.func52, Tryz.ntmps52
      go_wp2_with (go_at_call 86; refine (itoa_small _ (by omega) (by omega) _).mono ?_; rintro e w' ⟨rfl, rfl⟩)
      go_ret
      refine ⟨?_, hB⟩
      refine congrArg (fun b => Ending.returned (Value.string b)) ?_
      simp only [nlit, ← nbs_append]
      exact congrArg nbs (by simp [nTxt])
    ·
      have hs2 := itoa_size ton (by omega) (by omega)
      go_enter Tryz.func52, Tryz.ntmps52
      go_wp2_with (go_at_call 86; refine (itoa_small _ (by omega) (by omega) _).mono ?_; rintro e w' ⟨rfl, rfl⟩)
      go_ret
      refine ⟨?_, hB⟩
      refine congrArg (fun b => Ending.returned (Value.string b)) ?_
      simp only [nlit, ← nbs_append]
      exact congrArg nbs (by simp [nTxt])
    ·
      go_enter Tryz.func52, Tryz.ntmps52
      go_wp2_with (go_at_call 86; refine (itoa_small _ (by omega) (by omega) _).mono ?_; rintro e w' ⟨rfl, rfl⟩)
      go_ret
      refine ⟨?_, hB⟩
      refine congrArg (fun b => Ending.returned (Value.string b)) ?_
      simp only [nlit, ← nbs_append]
      exact congrArg nbs (by simp [nTxt])
    ·
      have hs2 := itoa_size ton (by omega) (by omega)
      go_enter Tryz.func52, Tryz.ntmps52
      go_wp2_with (go_at_call 86; refine (itoa_small _ (by omega) (by omega) _).mono ?_; rintro e w' ⟨rfl, rfl⟩)
      go_ret
      refine ⟨?_, hB⟩
      refine congrArg (fun b => Ending.returned (Value.string b)) ?_
      simp only [nlit, ← nbs_append]
      exact congrArg nbs (by simp [nTxt])
    ·
      have hs2 := itoa_size ton (by omega) (by omega)
      go_enter Tryz.func52, Tryz.ntmps52
      go_wp2_with (go_at_call 86; refine (itoa_small _ (by omega) (by omega) _).mono ?_; rintro e w' ⟨rfl, rfl⟩)
      go_ret
      refine ⟨?_, hB⟩
      refine congrArg (fun b => Ending.returned (Value.string b)) ?_
      simp only [nlit, ← nbs_append]
      exact congrArg nbs (by simp [nTxt])
  by_cases k2 : k = 2
  · subst k2
    rw [nVal2] at hv
    obtain ⟨⟨rfl, rfl, rfl, rfl, rfl⟩, h0, h1, rfl, rfl, rfl⟩ := hv
    go_enter Tryz.func52, Tryz.ntmps52
    go_wp2_with fail
    refine (itoa_meters me (by omega) h1 _ ht0).mono ?_
    rintro e w' ⟨rfl, hb⟩
    go_wp2_with fail
    go_ret
    exact ⟨rfl, hB.trans (hb.mono hB.size)⟩
  by_cases k3 : k = 3
  · subst k3
    rw [nVal3] at hv
    obtain ⟨⟨rfl, rfl, rfl, rfl, rfl⟩, rfl, rfl, rfl, rfl⟩ := hv
    go_enter Tryz.func52, Tryz.ntmps52
    go_wp2_with fail
    go_ret
    exact ⟨rfl, hB⟩
  by_cases k4 : k = 4
  · subst k4
    rw [nVal4] at hv
    obtain ⟨⟨rfl, rfl, rfl, rfl, rfl⟩, rfl, rfl, rfl, rfl⟩ := hv
    go_enter Tryz.func52, Tryz.ntmps52
    go_wp2_with fail
    go_ret
    exact ⟨rfl, hB⟩
  by_cases k5 : k = 5
  · subst k5
    rw [nVal5] at hv
    obtain ⟨⟨rfl, rfl, rfl, rfl, rfl⟩, rfl, h0, h1, rfl, rfl⟩ := hv
    have hsi : si = 1 ∨ si = 2 ∨ si = 3 := by omega
    clear h0 h1
    rcases hsi with rfl | rfl | rfl
    ·
      go_enter Tryz.func52, Tryz.ntmps52
      go_wp2_with fail
      go_ret
      exact ⟨rfl, hB.alloc hB.size _⟩
    ·
      go_enter Tryz.func52, Tryz.ntmps52
      go_wp2_with fail
      go_ret
      exact ⟨rfl, hB.alloc hB.size _⟩
    ·
      go_enter Tryz.func52, Tryz.ntmps52
      go_wp2_with fail
      go_ret
      exact ⟨rfl, hB.alloc hB.size _⟩
  by_cases k6 : k = 6
  · subst k6
    rw [nVal6] at hv
    obtain ⟨⟨rfl, rfl, rfl, rfl, rfl⟩, rfl, h0, h1, rfl, rfl⟩ := hv
    have hsi : si = 1 ∨ si = 2 ∨ si = 3 := by omega
    clear h0 h1
    rcases hsi with rfl | rfl | rfl
    ·
      go_enter Tryz.func52, Tryz.ntmps52
      go_wp2_with fail
      go_ret
      exact ⟨rfl, hB⟩
    ·
      go_enter Tryz.func52, Tryz.ntmps52
      go_wp2_with fail
      go_ret
      exact ⟨rfl, hB⟩
    ·
      go_enter Tryz.func52, Tryz.ntmps52
      go_wp2_with fail
      go_ret
      exact ⟨rfl, hB⟩
  have k7 : k = 7 := by
    rcases Decidable.em (k = 7) with h | h
    · exact h
    · rw [nVal0 _ _ _ _ _ _ _ _ _ k k1 k2 k3 k4 k5 k6 h] at hv; cases hv
  subst k7
  rw [nVal7] at hv
  obtain ⟨⟨rfl, rfl, rfl, rfl, rfl⟩, rfl, rfl, h0, h1, h2, h3⟩ := hv
  have hs1 := itoa_size wa (by omega) (by omega)
  have hs2 := itoa_size ar (by omega) (by omega)
  go_enter Tryz.func52, Tryz.ntmps52
  go_wp2_with fail
  go_quiet (first | (go_at_call 86; exact Calls.quiet_of_same ((itoa_small _ (by omega) (by omega) _).mono fun _ _ ⟨a, b⟩ => ⟨a, b.symm⟩)))
  go_wp2_with fail
  go_ret
  refine ⟨?_, hB.trans (Joins.below_draws _ _ nq)⟩
  refine congrArg (fun b => Ending.returned (Value.string b)) ?_
  simp only [nlit, ← nbs_append]
  exact congrArg nbs (by simp [nTxt])
end Go.Proofs.YtnmipejpjeakbaaGreatDoor
