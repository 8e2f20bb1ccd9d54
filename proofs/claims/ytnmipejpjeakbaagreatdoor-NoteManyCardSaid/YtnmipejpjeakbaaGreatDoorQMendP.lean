/- Corrections of notes, plain: least costs, the edits. No program in sight. -/
import Derived.Test.YtnmipejpjeakbaaGreatDoorPAll
import Derived.Test.YtnmipejpjeakbaaGreatDoorQNoteP
import Derived.WalkKit
import Derived.WalkSpells
import Derived.Deep.Draws
import Derived.Lib.Hide
import Derived.Maps.AppendAt
import Derived.Test.YtnmipejpjeakbaaGreatDoorProg
import Derived.WalkLawsBesides
import Derived.Deep.QuietTactic
import Derived.BigQuiet
import Derived.BigGuardPart
import Derived.Deep.RegionHeld3
import Derived.Test.YtnmipejpjeakbaaGreatDoorQCOpen
import Derived.Deep.AppendLies
import Derived.Deep.RegionLaw
import Derived.Maps.OwnIn
import Derived.LoopNIn
import Derived.Laws.EntriesVeiled
import Derived.LoopIn
import Derived.TacticsInMore
import Derived.Lib.Join
namespace Go.Proofs.YtnmipejpjeakbaaGreatDoor

end Go.Proofs.YtnmipejpjeakbaaGreatDoor

/- Lists of notes as the document takes them: All, Same, Write. -/
namespace Go.Proofs.YtnmipejpjeakbaaGreatDoor
open Go.RowKit Go.Shelf Go.Sort Go.Proofs

set_option maxRecDepth 100000 in
set_option maxHeartbeats 4000000 in
theorem rall_any (A : Option Addr) (n c : Nat) (xs : List NoteR) (w : World) (h : SL nC 10 w w.heap.size A n xs) (hn : n ≤ 1000000) :
    Calls Tryz.prog 20 #[.slice A n c] w fun e w' => e = .returned (.bool (xs.all nVal)) ∧ Below w.heap.size w w' := by
  have HL := Lib.hid h.1
  have HS := Lib.hid h
  clear h
  go_enter Tryz.func20, Tryz.ntmps20
  go_wp2_with fail
  go_loopw [3] (fun i wr => ∃ k : Nat, k ≤ n ∧ i = .int .i64 (k : Nat) ∧ (xs.take k).all nVal = true ∧ Below w.heap.size w wr)
    (fun i _ => n - (intOf i).toNat)
  case atStart => exact ⟨0, Nat.zero_le _, rfl, by simp, Below.refl _ _⟩
  case round =>
    obtain ⟨k, hk1, rfl, hal, hbr⟩ := hrel
    have HAL := Lib.hid hal
    clear hal
    by_cases hlt : k < n
    · have hkl : k < xs.length := by rw [← HL.out]; exact hlt
      obtain ⟨b, off, hA, hbB, c0, c1, c2, c3, c4, c5, c6, c7, c8, c9⟩ := NS.at_ (HS.out.below hbr) hkl
      have HT := Lib.hid (all_take_succ nVal xs k hkl)
      have HF := Lib.hid (all_false_of nVal xs k hkl)
      generalize xs[k]'hkl = x at *
      subst hA
      obtain ⟨k0, tu0, gr0, lo0, ch0, ton0, me0, si0, wa0, ar0⟩ := x
      dsimp only at c0 c1 c2 c3 c4 c5 c6 c7 c8 c9
      go_wp2_with fail
      refine (rvalid_any k0 tu0 gr0 lo0 ch0 ton0 me0 si0 wa0 ar0 _).mono ?_
      rintro e w' ⟨rfl, hb'⟩
      cases hv : nVal ⟨k0, tu0, gr0, lo0, ch0, ton0, me0, si0, wa0, ar0⟩ with
      | false =>
        have HALL := Lib.hid (HF.out hv)
        clear hv
        go_wp2_with fail
        go_ret
        exact ⟨by rw [HALL.out]; rfl, hbr.trans (hb'.mono hbr.size)⟩
      | true =>
        have HV := Lib.hid hv
        clear hv
        go_wp2_with fail
        go_roundw
        case rel => exact ⟨k + 1, by omega, by go_num, by rw [HT.out, HAL.out, HV.out]; rfl, hbr.trans (hb'.mono hbr.size)⟩
        case measure => simp [intOf]; omega
    · obtain rfl : k = n := by omega
      have hall : xs.all nVal = true := by have := HAL.out; rwa [HL.out, List.take_length] at this
      have HALL := Lib.hid hall
      clear hall
      go_wp2_with fail
      go_ret
      exact ⟨by rw [HALL.out]; rfl, hbr⟩
end Go.Proofs.YtnmipejpjeakbaaGreatDoor

/- The document's text of notes: Write. -/
namespace Go.Proofs.YtnmipejpjeakbaaGreatDoor
open Go.RowKit Go.Shelf Go.Sort Go.Proofs

theorem nJoin_one (x : NoteR) : nJoin [x] = nTxt x := by simp [nJoin, Lib.join, List.intercalate]
theorem nJoin_snoc (xs : List NoteR) (x : NoteR) (h : xs ≠ []) : nJoin (xs ++ [x]) = nJoin xs ++ [32] ++ nTxt x := by
  unfold nJoin
  rw [List.map_append, join_append _ _ (by simpa using h) (by simp)]
  have := nJoin_one x
  unfold nJoin at this
  rw [this, List.append_assoc]
  rfl
theorem nJoin_len (xs : List NoteR) (hv : xs.all nVal = true) : (nJoin xs).length ≤ xs.length * 81 := by
  have := join_len [32] (xs.map nTxt) 80 (fun x hx => by
    obtain ⟨n, hn, rfl⟩ := List.mem_map.1 hx
    exact nTxt_len_valid n (List.all_eq_true.1 hv n hn))
  rw [List.length_map] at this
  exact this
theorem all_take {α : Type} (p : α → Bool) (xs : List α) (k : Nat) (h : xs.all p = true) : (xs.take k).all p = true := List.all_eq_true.2 fun x hx => List.all_eq_true.1 h x (List.mem_of_mem_take hx)
set_option maxRecDepth 100000 in
set_option maxHeartbeats 4000000 in
theorem rwrite_any (A : Option Addr) (n c : Nat) (xs : List NoteR) (w : World) (h : SL nC 10 w w.heap.size A n xs) (hn : n ≤ 2000) (hv : xs.all nVal = true) (ht : Lib.TabIs Tryz.prog w pow10N .u64 Lib.pow10Tab) :
    Calls Tryz.prog 21 #[.slice A n c] w fun e w' => e = .returned (.string (nbs (nJoin xs))) ∧ Below w.heap.size w w' := by
  have HL := Lib.hid h.1
  have HS := Lib.hid h
  have HV := Lib.hid hv
  have HT := Lib.hid ht
  clear h hv ht
  go_enter Tryz.func21, Tryz.ntmps21
  go_wp2_with fail
  go_loopw [3, 4] (fun ov iv wr => ∃ k : Nat, k ≤ n ∧ iv = .int .i64 (k : Nat) ∧ ov = .string (nbs (nJoin (xs.take k))) ∧ Below w.heap.size w wr)
    (fun _ iv _ => n - (intOf iv).toNat)
  case atStart => exact ⟨0, Nat.zero_le _, rfl, rfl, Below.refl _ _⟩
  case round =>
    obtain ⟨k, hk1, rfl, rfl, hbr⟩ := hrel
    by_cases hlt : k < n
    · have hkl : k < xs.length := by rw [← HL.out]; exact hlt
      obtain ⟨b, off, hA, hbB, c0, c1, c2, c3, c4, c5, c6, c7, c8, c9⟩ := NS.at_ (HS.out.below hbr) hkl
      have hlen := nJoin_len (xs.take k) (all_take _ _ _ HV.out)
      rw [List.length_take] at hlen
      have hsz : (nbs (nJoin (xs.take k))).size ≤ 2000 * 81 := by rw [nbs_size]; omega
      have HVX := Lib.hid (List.all_eq_true.1 HV.out xs[k] (List.getElem_mem hkl))
      have hlx := nTxt_len_valid xs[k] HVX.out
      have hsx : (nbs (nTxt xs[k])).size ≤ 80 := by rw [nbs_size]; exact hlx
      have HTK : Hid (xs.take (k + 1) = xs.take k ++ [xs[k]]) := by
        show _ = _
        rw [List.take_add_one, List.getElem?_eq_getElem hkl]
        rfl
      have HNE : Hid (0 < k → xs.take k ≠ []) := fun h e => by
        have h1 : (xs.take k).length = k := by rw [List.length_take]; omega
        rw [e] at h1
        simp at h1
        omega
      generalize xs[k]'hkl = x at *
      obtain ⟨k0, tu0, gr0, lo0, ch0, ton0, me0, si0, wa0, ar0⟩ := x
      dsimp only at c0 c1 c2 c3 c4 c5 c6 c7 c8 c9
      subst hA
      have htr := pow10_stays HT.out hbr (Nat.le_refl _)
      obtain ⟨P, hP⟩ : ∃ P, nbs (nJoin (xs.take k)) = P := ⟨_, rfl⟩
      obtain ⟨T, hT⟩ : ∃ T, nbs (nTxt ⟨k0, tu0, gr0, lo0, ch0, ton0, me0, si0, wa0, ar0⟩) = T := ⟨_, rfl⟩
      rw [hP] at hsz ⊢
      rw [hT] at hsx
      have HP := Lib.hid hP
      have HTT := Lib.hid hT
      clear hlen hlx hP hT
      by_cases h0 : 0 < k
      · have HJ : Hid (nbs (nJoin (xs.take (k + 1))) = P ++ ByteArray.mk #[32] ++ T) := by
          show _ = _
          rw [HTK.out, nJoin_snoc _ _ (HNE.out h0), nbs_append, nbs_append, HP.out, HTT.out]
          rfl
        have g0 : decide ((0 : Int) < (k : Int)) = true := by simp; omega
        go_wp2_with fail
        refine (rtext_any k0 tu0 gr0 lo0 ch0 ton0 me0 si0 wa0 ar0 HVX.out wr htr).mono ?_
        rintro e w2 ⟨rfl, hb2⟩
        rw [HTT.out]
        go_wp2_with fail
        go_roundw
        case rel => exact ⟨k + 1, by omega, by go_num, by rw [HJ.out], hbr.trans (hb2.mono hbr.size)⟩
        case measure => simp [intOf]; omega
      · have g0 : decide ((0 : Int) < (k : Int)) = false := by simp; omega
        have HJ : Hid (nbs (nJoin (xs.take (k + 1))) = P ++ T) := by
          show _ = _
          rw [HTK.out, ← HP.out, ← HTT.out, show xs.take k = [] by rw [show k = 0 by omega]; rfl, List.nil_append, nJoin_one]
          exact nbs_append [] _
        go_wp2_with fail
        refine (rtext_any k0 tu0 gr0 lo0 ch0 ton0 me0 si0 wa0 ar0 HVX.out wr htr).mono ?_
        rintro e w2 ⟨rfl, hb2⟩
        rw [HTT.out]
        go_wp2_with fail
        go_roundw
        case rel => exact ⟨k + 1, by omega, by go_num, by rw [HJ.out], hbr.trans (hb2.mono hbr.size)⟩
        case measure => simp [intOf]; omega
    · obtain rfl : k = n := by omega
      have HX : Hid (xs.take k = xs) := by show _ = _; rw [HL.out, List.take_length]
      go_wp2_with fail
      go_ret
      exact ⟨by rw [HX.out]; rfl, hbr⟩
end Go.Proofs.YtnmipejpjeakbaaGreatDoor
