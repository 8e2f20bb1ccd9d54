/- How long a note takes: pace.Lasts, the document's; the law function PaceLasts, walked. -/
import Derived.Test.YtknjkcibkejieaaDoorNList
import Derived.Test.YtknjkcibkejieaaDoorKnown3
import Derived.Test.YtknjkcibkejieaaDoorRegV
namespace Go.Proofs.YtknjkcibkejieaaDoor
open Go.RowKit Go.Shelf Go.Sort Go.Proofs

theorem pspeech_any (v l : Int) (w : World) :
    Calls Tryd.prog 10 #[.agg #[.int .i64 v, .int .i64 l]] w fun e w' => e = .returned (.bool (spchB v l)) ∧ Below w.heap.size w w' := by
  have hb := (Below.refl w.heap.size w).alloc (Nat.le_refl _) (.cells #[.int .i64 v, .int .i64 l] 26)
  have hS : spchB v l = (inR v 0 10000000 && inR l 0 1000000) := by unfold spchB inR; rw [Bool.decide_and, Bool.decide_and]
  rw [hS]
  clear hS
  cases h1 : inR v 0 10000000
  case false =>
    go_enter Tryd.func10, Tryd.ntmps10
    go_wp2_with (go_at_call 19; refine (pwithin_any _ _ _ _).mono ?_; rintro e w' ⟨rfl, rfl⟩)
    go_ret
    exact ⟨rfl, hb⟩
  go_enter Tryd.func10, Tryd.ntmps10
  go_wp2_with (go_at_call 19; refine (pwithin_any _ _ _ _).mono ?_; rintro e w' ⟨rfl, rfl⟩)
  go_ret
  exact ⟨by rw [Bool.true_and]; rfl, hb⟩
theorem in3_any (x lo hi : Int) (w : World) :
    Calls Tryd.prog 13 #[.int .i64 x, .int .i64 lo, .int .i64 hi] w fun e w' => e = .returned (.bool (decide (lo ≤ x) && decide (x ≤ hi))) ∧ w = w' := by
  by_cases h : lo ≤ x
  · have e : (decide (lo ≤ x) && decide (x ≤ hi)) = decide (x ≤ hi) := by simp [h]
    rw [e]; clear e
    go_enter Tryd.func13, Tryd.ntmps13
    go_wp2
    go_ret
    exact ⟨rfl, rfl⟩
  · have e : (decide (lo ≤ x) && decide (x ≤ hi)) = false := by simp [h]
    rw [e]; clear e
    go_enter Tryd.func13, Tryd.ntmps13
    go_wp2
    go_ret
    exact ⟨rfl, rfl⟩
theorem rspeech_any (v l : Int) (w : World) :
    Calls Tryd.prog 6 #[.agg #[.int .i64 v, .int .i64 l]] w fun e w' => e = .returned (.bool (spchB v l)) ∧ Below w.heap.size w w' := by
  have hb := (Below.refl w.heap.size w).alloc (Nat.le_refl _) (.cells #[.int .i64 v, .int .i64 l] 26)
  cases h1 : decide (0 ≤ v) && decide (v ≤ 10000000)
  case false =>
    have e : spchB v l = false := by unfold spchB; rw [Bool.decide_and, h1]; rfl
    rw [e]; clear e
    go_enter Tryd.func6, Tryd.ntmps6
    go_wp2_with (go_at_call 13; refine (in3_any _ _ _ _).mono ?_; rintro e w' ⟨rfl, rfl⟩)
    go_ret
    exact ⟨rfl, hb⟩
  have e : spchB v l = (decide (0 ≤ l) && decide (l ≤ 1000000)) := by unfold spchB; rw [Bool.decide_and, h1, Bool.decide_and]; rfl
  rw [e]; clear e
  go_enter Tryd.func6, Tryd.ntmps6
  go_wp2_with (go_at_call 13; refine (in3_any _ _ _ _).mono ?_; rintro e w' ⟨rfl, rfl⟩)
  go_ret
  exact ⟨rfl, hb⟩
theorem spch_bd {v l : Int} (h : spchB v l = true) : (0 ≤ v ∧ v ≤ 10000000) ∧ (0 ≤ l ∧ l ≤ 1000000) := by
  unfold spchB at h
  simpa using h
/-- The document's Lasts. -/
theorem rlasts_any (t : List UInt8) (v l : Int) (hs : spchB v l = true) (hn : t.length ≤ 100000) (w : World) :
    Calls Tryd.prog 8 #[.string (nbs t), .agg #[.int .i64 v, .int .i64 l]] w fun e w' => e = .returned (.int .i64 (lastS v l t)) ∧ Below w.heap.size w w' := by
  have HSP := Lib.hid (spch_bd hs)
  have HBD := Lib.hid (lastS_bd v l t (spch_bd hs).1 (spch_bd hs).2 hn)
  have HSZ := Lib.hid (nbs_size t)
  obtain ⟨w0, hw0⟩ : ∃ w0, w0 = w.alloc (.cells #[.int .i64 v, .int .i64 l] 26) := ⟨_, rfl⟩
  have hB0 : Below w.heap.size w w0 := by rw [hw0]; exact (Below.refl w.heap.size w).alloc (Nat.le_refl _) _
  have hY0 : BK w0 w.heap.size 26 #[.int .i64 v, .int .i64 l] := by rw [hw0]; exact BK.new w _ _
  have y0 := hY0.cell 0
  have y1 := hY0.cell 1
  simp only [List.getElem?_toArray, List.getElem?_cons_zero, List.getElem?_cons_succ] at y0 y1
  go_enter Tryd.func8, Tryd.ntmps8
  go_wp2_with fail
  rw [← hw0]
  clear hw0
  go_wp2_with fail
  have HV0 : Hid (lastS v l (t.take 0) = v) := by show _ = _; simp [lastS, inkd]
  go_loopw [5, 6] (fun s i wr => ∃ p : Nat, p ≤ t.length ∧ i = .int .i64 p ∧ s = .int .i64 (lastS v l (t.take p)) ∧ wr = w0)
    (fun _ i _ => t.length - (intOf i).toNat)
  case atStart => exact ⟨0, Nat.zero_le _, rfl, by rw [HV0.out], rfl⟩
  case round =>
    obtain ⟨p, hp, rfl, rfl, rfl⟩ := hrel
    by_cases hlt : p < t.length
    · have hlz : p < (nbs t).size := by rw [nbs_size]; exact hlt
      have HG := Lib.hid (nbs_get t p hlz)
      have HIX : ∀ w : World, (Instr.index 9 (.string (nbs t)) (.int .i64 (p : Int))).run Tryd.prog w = .ok (.int .u8 ((nbs t)[p]'hlz).toNat) w := fun w => by
        rw [run_index_string w 9 (nbs t) .i64 (p : Int) Tryd.underlying9, dif_pos ⟨by omega, by omega⟩]
        simp
      have HST := Lib.hid (lastS_step v l t p _ (nbs_get t p hlz))
      generalize (nbs t)[p]'hlz = b at *
      have gk : decide ((p : Int) < ((nbs t).size : Int)) = true := decide_eq_true (by omega)
      have gkN : decide (p < (nbs t).size) = true := decide_eq_true hlz
      by_cases hb : b = 32
      · have gb : ((b.toNat : Int) != 32) = false := by subst hb; rfl
        have HE : Hid (lastS v l (t.take (p + 1)) = lastS v l (t.take p)) := by show _ = _; rw [HST.out, if_pos hb]
        clear hb
        go_wp2_with fail
        go_roundw
        case rel => exact ⟨p + 1, by omega, by go_num, by rw [HE.out], trivial⟩
        case measure => simp [intOf]; omega
      · have gb : ((b.toNat : Int) != 32) = true := by
          simp only [bne_iff_ne, ne_eq]
          intro hh
          exact hb (UInt8.toNat_inj.1 (by have : b.toNat = 32 := by omega
                                          rw [this]; rfl))
        have HE : Hid (lastS v l (t.take (p + 1)) = lastS v l (t.take p) + l) := by show _ = _; rw [HST.out, if_neg hb]
        have hwr : IntKind.i64.wrap (lastS v l (t.take p) + l) = lastS v l (t.take p) + l := IntWalk.i64_in _ (by have := HBD.out p; have := HSP.out; omega)
        clear hb
        go_wp2_with fail
        go_roundw
        case rel => exact ⟨p + 1, by omega, by go_num, by rw [HE.out], trivial⟩
        case measure => simp [intOf]; omega
    · obtain rfl : p = t.length := by omega
      have gk : decide (((t.length : Nat) : Int) < ((nbs t).size : Int)) = false := decide_eq_false (by rw [nbs_size]; omega)
      have HE : Hid (t.take t.length = t) := List.take_length
      go_wp2_with fail
      go_ret
      exact ⟨by rw [HE.out]; rfl, hB0⟩
/-- pace.lasts of any note. -/
def lastV (n : NoteR) (v l : Int) : Int × Int := if nVal n then (lastS v l (nTxt n), 0) else (0, 2)
theorem sl_one_note {w : World} {B b : Nat} {t : TypeId} (k tu gr lo ch ton me si wa ar : Int) (h : BK w b t #[.int .i64 k, .int .i64 tu, .int .i64 gr, .int .i64 lo, .int .i64 ch, .int .i64 ton, .int .i64 me, .int .i64 si, .int .i64 wa, .int .i64 ar]) (hb : b < B) : SL nC 10 w B (some ⟨b, 0, none⟩) 1 [⟨k, tu, gr, lo, ch, ton, me, si, wa, ar⟩] := by
  refine ⟨rfl, fun _ => ⟨b, 0, rfl, hb, fun i x hx j v hv => ?_⟩⟩
  match i, hx with
  | 0, hx =>
    cases hx
    rw [show 0 + 0 * 10 + j = j by omega, h.cell j]
    simpa [nC] using hv
theorem nLE_one (n : NoteR) : nLE [n] = if nVal n then 0 else 2 := by
  unfold nLE
  rw [if_neg (by simp)]
  simp
theorem nJoin_one (n : NoteR) : nJoin [n] = nTxt n := by simp [nJoin, Lib.join_one]
set_option maxRecDepth 100000 in
set_option maxHeartbeats 8000000 in
theorem plasts_any (k tu gr lo ch ton me si wa ar : Int) (v l : Int) (hs : spchB v l = true) (w : World) (ht : Lib.TabIs Tryd.prog w pow10N .u64 Lib.pow10Tab) :
    Calls Tryd.prog 11 #[.agg #[.int .i64 k, .int .i64 tu, .int .i64 gr, .int .i64 lo, .int .i64 ch, .int .i64 ton, .int .i64 me, .int .i64 si, .int .i64 wa, .int .i64 ar], .agg #[.int .i64 v, .int .i64 l]] w fun e w' => e = .returned (.tuple #[.int .i64 (lastV ⟨k, tu, gr, lo, ch, ton, me, si, wa, ar⟩ v l).1, .int .i64 (lastV ⟨k, tu, gr, lo, ch, ton, me, si, wa, ar⟩ v l).2]) ∧ Below w.heap.size w w' := by
  have HSP := Lib.hid (spch_bd hs)
  obtain ⟨w0, hw0⟩ : ∃ w0, w0 = (w.alloc (.cells #[.int .i64 k, .int .i64 tu, .int .i64 gr, .int .i64 lo, .int .i64 ch, .int .i64 ton, .int .i64 me, .int .i64 si, .int .i64 wa, .int .i64 ar] 24)).alloc (.cells #[.int .i64 v, .int .i64 l] 26) := ⟨_, rfl⟩
  have hB0 : Below w.heap.size w w0 := by rw [hw0]; exact ((Below.refl w.heap.size w).alloc (Nat.le_refl _) _).alloc (by simp) _
  have hX0 : BK w0 (w.heap.size) 24 #[.int .i64 k, .int .i64 tu, .int .i64 gr, .int .i64 lo, .int .i64 ch, .int .i64 ton, .int .i64 me, .int .i64 si, .int .i64 wa, .int .i64 ar] := by rw [hw0]; exact ((BK.new w 24 #[.int .i64 k, .int .i64 tu, .int .i64 gr, .int .i64 lo, .int .i64 ch, .int .i64 ton, .int .i64 me, .int .i64 si, .int .i64 wa, .int .i64 ar])).alloc _
  have hY0 : BK w0 (w.heap.size + 1) 26 #[.int .i64 v, .int .i64 l] := by rw [hw0]; have := BK.new (w.alloc (.cells #[.int .i64 k, .int .i64 tu, .int .i64 gr, .int .i64 lo, .int .i64 ch, .int .i64 ton, .int .i64 me, .int .i64 si, .int .i64 wa, .int .i64 ar] 24)) 26 #[.int .i64 v, .int .i64 l]; rw [World.size_alloc] at this; exact this
  obtain ⟨w1, hw1⟩ : ∃ w1, w1 = w0.alloc (.cells #[.int .i64 k, .int .i64 tu, .int .i64 gr, .int .i64 lo, .int .i64 ch, .int .i64 ton, .int .i64 me, .int .i64 si, .int .i64 wa, .int .i64 ar] 24) := ⟨_, rfl⟩
  have hk : Below w0.heap.size w0 w1 := by rw [hw1]; exact (Below.refl _ _).alloc (Nat.le_refl _) _
  have hZ1 : BK w1 w0.heap.size 24 #[.int .i64 k, .int .i64 tu, .int .i64 gr, .int .i64 lo, .int .i64 ch, .int .i64 ton, .int .i64 me, .int .i64 si, .int .i64 wa, .int .i64 ar] := by rw [hw1]; exact BK.new w0 _ _
  rw [show w0.heap.size = w.heap.size + 1 + 1 by rw [hw0]; simp] at hZ1
  have HN := Lib.hid (sl_one_note (B := w1.heap.size) k tu gr lo ch ton me si wa ar hZ1 hZ1.lt)
  have ht1 := pow10_stays ht (hB0.trans (hk.mono hB0.size)) (Nat.le_refl _)
  clear hZ1
  have x0 := hX0.cell 0
  have x1 := hX0.cell 1
  have x2 := hX0.cell 2
  have x3 := hX0.cell 3
  have x4 := hX0.cell 4
  have x5 := hX0.cell 5
  have x6 := hX0.cell 6
  have x7 := hX0.cell 7
  have x8 := hX0.cell 8
  have x9 := hX0.cell 9
  simp only [List.getElem?_toArray, List.getElem?_cons_zero, List.getElem?_cons_succ] at x0 x1 x2 x3 x4 x5 x6 x7 x8 x9
  go_enter Tryd.func11, Tryd.ntmps11
  go_wp2_with fail
  rw [← hw0]
  clear hw0
  go_wp2_with fail
  rw [← hw1]
  clear hw1 x0 x1 x2 x3 x4 x5 x6 x7 x8 x9
  have hB1 := hB0.trans (hk.mono hB0.size)
  have hX1 := hX0.below hk hX0.lt
  have hY1 := hY0.below hk hY0.lt
  clear hX0 hY0 hB0 hk
  refine (nwrite_any (some ⟨w.heap.size + 1 + 1, 0, none⟩) 1 1 [⟨k, tu, gr, lo, ch, ton, me, si, wa, ar⟩] w1 HN.out ht1).mono ?_
  rintro e w2 ⟨rfl, hk⟩
  have hB2 := hB1.trans (hk.mono hB1.size)
  have hX2 := hX1.below hk hX1.lt
  have hY2 := hY1.below hk hY1.lt
  clear hX1 hY1 hB1 hk
  clear HN
  cases hnv : nVal ⟨k, tu, gr, lo, ch, ton, me, si, wa, ar⟩
  case false =>
    have hW : nWr [⟨k, tu, gr, lo, ch, ton, me, si, wa, ar⟩] = ([], 2) := by unfold nWr; rw [nLE_one, hnv]; rfl
    have hL : Hid (lastV ⟨k, tu, gr, lo, ch, ton, me, si, wa, ar⟩ v l = (0, 2)) := by show _ = _; unfold lastV; rw [hnv]; rfl
    rw [hW]
    clear hW
    go_wp2_with fail
    go_ret2
    exact ⟨by rw [hL.out]; rfl, hB2⟩
  have hW : nWr [⟨k, tu, gr, lo, ch, ton, me, si, wa, ar⟩] = (nTxt ⟨k, tu, gr, lo, ch, ton, me, si, wa, ar⟩, 0) := by unfold nWr; rw [nLE_one, hnv, nJoin_one]; rfl
  have hL : Hid (lastV ⟨k, tu, gr, lo, ch, ton, me, si, wa, ar⟩ v l = (lastS v l (nTxt ⟨k, tu, gr, lo, ch, ton, me, si, wa, ar⟩), 0)) := by show _ = _; unfold lastV; rw [hnv]; rfl
  have HLN := Lib.hid (nTxt_len_valid _ hnv)
  have HAS := Lib.hid (asc_nTxt ⟨k, tu, gr, lo, ch, ton, me, si, wa, ar⟩)
  rw [hW]
  clear hW hnv
  generalize nTxt ⟨k, tu, gr, lo, ch, ton, me, si, wa, ar⟩ = t at *
  have HBD := Lib.hid (lastS_bd v l t HSP.out.1 HSP.out.2 (by have := HLN.out; omega))
  have HV0 : Hid (lastS v l (t.take 0) = v) := by show _ = _; simp [lastS, inkd]
  have y0 := hY2.cell 0
  simp only [List.getElem?_toArray, List.getElem?_cons_zero] at y0
  have hz := hY2.lt
  go_wp2_with fail
  have hy : ∀ p, (w2.iter (nbs t) p).cell? ⟨w.heap.size + 1, 1, none⟩ = some (.int .i64 l) := fun p => by
    have y1 := (hY2.alloc (.stringIter (nbs t) p)).cell 1
    simp only [List.getElem?_toArray, List.getElem?_cons_zero, List.getElem?_cons_succ] at y1
    exact y1
  go_loopw [8] (fun s wr => ∃ p : Nat, p ≤ t.length ∧ s = .int .i64 (lastS v l (t.take p)) ∧ wr = w2.iter (nbs t) p)
    (fun _ wr => t.length - wr.iterPos w2.heap.size)
  case atStart => exact ⟨0, by omega, by rw [HV0.out], rfl⟩
  case round =>
    obtain ⟨p, hp, rfl, rfl⟩ := hrel
    by_cases hlt : p < t.length
    · have hlz : p < (nbs t).size := by rw [nbs_size]; exact hlt
      have HMEM : ((nbs t)[p]'hlz).toNat < 128 := by
        have := HAS.out _ (List.mem_of_getElem? (nbs_get t p hlz))
        exact this
      have hnx : ∀ ty, (Instr.next (.pointer (some ⟨w2.heap.size, 0, none⟩)) true ty).run Tryd.prog (w2.iter (nbs t) p) = .ok (.tuple #[.bool true, .int .i64 p, .int .i32 ((nbs t)[p]'hlz).toNat]) (w2.iter (nbs t) (p + 1)) := fun ty => run_next_ascii w2 (nbs t) p ty hlz HMEM
      have HST := Lib.hid (lastS_step v l t p _ (nbs_get t p hlz))
      clear HMEM
      generalize (nbs t)[p]'hlz = b at *
      have y1 := hy (p + 1)
      by_cases hb : b = 32
      · have gb : ((b.toNat : Int) != 32) = false := by subst hb; rfl
        have HE : Hid (lastS v l (t.take (p + 1)) = lastS v l (t.take p)) := by show _ = _; rw [HST.out, if_pos hb]
        clear hb
        go_wp2_with fail
        go_roundw
        case rel => exact ⟨p + 1, by omega, by rw [HE.out], rfl⟩
        case measure => rw [World.iterPos_iter, World.iterPos_iter]; omega
      · have gb : ((b.toNat : Int) != 32) = true := by
          simp only [bne_iff_ne, ne_eq]
          intro hh
          exact hb (UInt8.toNat_inj.1 (by have : b.toNat = 32 := by omega
                                          rw [this]; rfl))
        have HE : Hid (lastS v l (t.take (p + 1)) = lastS v l (t.take p) + l) := by show _ = _; rw [HST.out, if_neg hb]
        have hwr : IntKind.i64.wrap (lastS v l (t.take p) + l) = lastS v l (t.take p) + l := IntWalk.i64_in _ (by have := HBD.out p; have := HSP.out; omega)
        clear hb
        go_wp2_with fail
        go_roundw
        case rel => exact ⟨p + 1, by omega, by rw [HE.out], rfl⟩
        case measure => rw [World.iterPos_iter, World.iterPos_iter]; omega
    · obtain rfl : p = t.length := by omega
      have hnx : ∀ ty, (Instr.next (.pointer (some ⟨w2.heap.size, 0, none⟩)) true ty).run Tryd.prog (w2.iter (nbs t) t.length) = .ok (.tuple #[.bool false]) (w2.iter (nbs t) t.length) := fun ty => run_next_end w2 (nbs t) t.length ty (by rw [nbs_size]; omega)
      have HE : Hid (t.take t.length = t) := List.take_length
      go_wp2_with fail
      go_ret2
      exact ⟨by rw [HE.out, hL.out]; rfl, hB2.alloc hB2.size _⟩
/-- pace.Lasts of any note. -/
def lastR (n : NoteR) (v l : Int) : Int × Int := if spchB v l then lastV n v l else (0, 2)
set_option maxRecDepth 100000 in
set_option maxHeartbeats 8000000 in
theorem pLasts_any (k tu gr lo ch ton me si wa ar : Int) (v l : Int) (w : World) (ht : Lib.TabIs Tryd.prog w pow10N .u64 Lib.pow10Tab) :
    Calls Tryd.prog 4 #[.agg #[.int .i64 k, .int .i64 tu, .int .i64 gr, .int .i64 lo, .int .i64 ch, .int .i64 ton, .int .i64 me, .int .i64 si, .int .i64 wa, .int .i64 ar], .agg #[.int .i64 v, .int .i64 l]] w fun e w' => e = .returned (.tuple #[.int .i64 (lastR ⟨k, tu, gr, lo, ch, ton, me, si, wa, ar⟩ v l).1, .int .i64 (lastR ⟨k, tu, gr, lo, ch, ton, me, si, wa, ar⟩ v l).2]) ∧ Below w.heap.size w w' := by
  obtain ⟨w0, hw0⟩ : ∃ w0, w0 = (w.alloc (.cells #[.int .i64 k, .int .i64 tu, .int .i64 gr, .int .i64 lo, .int .i64 ch, .int .i64 ton, .int .i64 me, .int .i64 si, .int .i64 wa, .int .i64 ar] 24)).alloc (.cells #[.int .i64 v, .int .i64 l] 26) := ⟨_, rfl⟩
  have hB0 : Below w.heap.size w w0 := by rw [hw0]; exact ((Below.refl w.heap.size w).alloc (Nat.le_refl _) _).alloc (by simp) _
  have hX0 : BK w0 (w.heap.size) 24 #[.int .i64 k, .int .i64 tu, .int .i64 gr, .int .i64 lo, .int .i64 ch, .int .i64 ton, .int .i64 me, .int .i64 si, .int .i64 wa, .int .i64 ar] := by rw [hw0]; exact ((BK.new w 24 #[.int .i64 k, .int .i64 tu, .int .i64 gr, .int .i64 lo, .int .i64 ch, .int .i64 ton, .int .i64 me, .int .i64 si, .int .i64 wa, .int .i64 ar])).alloc _
  have hY0 : BK w0 (w.heap.size + 1) 26 #[.int .i64 v, .int .i64 l] := by rw [hw0]; have := BK.new (w.alloc (.cells #[.int .i64 k, .int .i64 tu, .int .i64 gr, .int .i64 lo, .int .i64 ch, .int .i64 ton, .int .i64 me, .int .i64 si, .int .i64 wa, .int .i64 ar] 24)) 26 #[.int .i64 v, .int .i64 l]; rw [World.size_alloc] at this; exact this
  have y0 := hY0.cell 0
  have y1 := hY0.cell 1
  simp only [List.getElem?_toArray, List.getElem?_cons_zero, List.getElem?_cons_succ] at y0 y1
  go_enter Tryd.func4, Tryd.ntmps4
  go_wp2_with fail
  rw [← hw0]
  clear hw0
  go_wp2_with fail
  clear y0 y1
  refine (pspeech_any v l w0).mono ?_
  rintro e w1 ⟨rfl, hk⟩
  have hB1 := hB0.trans (hk.mono hB0.size)
  have hX1 := hX0.below hk hX0.lt
  have hY1 := hY0.below hk hY0.lt
  clear hX0 hY0 hB0 hk
  cases hsp : spchB v l
  case false =>
    have hL : Hid (lastR ⟨k, tu, gr, lo, ch, ton, me, si, wa, ar⟩ v l = (0, 2)) := by show _ = _; unfold lastR; rw [hsp]; rfl
    go_wp2_with fail
    go_ret2
    exact ⟨by rw [hL.out]; rfl, hB1⟩
  have hL : Hid (lastR ⟨k, tu, gr, lo, ch, ton, me, si, wa, ar⟩ v l = lastV ⟨k, tu, gr, lo, ch, ton, me, si, wa, ar⟩ v l) := by show _ = _; unfold lastR; rw [hsp]; rfl
  have ht1 := pow10_stays ht hB1 (Nat.le_refl _)
  have x0 := hX1.cell 0
  have x1 := hX1.cell 1
  have x2 := hX1.cell 2
  have x3 := hX1.cell 3
  have x4 := hX1.cell 4
  have x5 := hX1.cell 5
  have x6 := hX1.cell 6
  have x7 := hX1.cell 7
  have x8 := hX1.cell 8
  have x9 := hX1.cell 9
  have y0 := hY1.cell 0
  have y1 := hY1.cell 1
  simp only [List.getElem?_toArray, List.getElem?_cons_zero, List.getElem?_cons_succ] at x0 x1 x2 x3 x4 x5 x6 x7 x8 x9 y0 y1
  go_wp2_with fail
  clear x0 x1 x2 x3 x4 x5 x6 x7 x8 x9 y0 y1
  refine (plasts_any k tu gr lo ch ton me si wa ar v l hsp w1 ht1).mono ?_
  rintro e w2 ⟨rfl, hk⟩
  have hBX := hB1.trans (hk.mono hB1.size)
  go_wp2_with fail
  go_ret2
  exact ⟨by rw [hL.out]; rfl, hBX⟩
set_option maxRecDepth 100000 in
set_option maxHeartbeats 8000000 in
theorem LLasts_walk (k tu gr lo ch ton me si wa ar : Int) (v l : Int) (w : World) (ht : Lib.TabIs Tryd.prog w pow10N .u64 Lib.pow10Tab) :
    Calls Tryd.prog 3 #[.agg #[.int .i64 k, .int .i64 tu, .int .i64 gr, .int .i64 lo, .int .i64 ch, .int .i64 ton, .int .i64 me, .int .i64 si, .int .i64 wa, .int .i64 ar], .agg #[.int .i64 v, .int .i64 l]] w fun e w' => e = .returned (.bool true) ∧ Below w.heap.size w w' := by
  have hmo : Tryd.prog.follows .mixedOrders = true := by kernel_rfl
  obtain ⟨w0, hw0⟩ : ∃ w0, w0 = (w.alloc (.cells #[.int .i64 k, .int .i64 tu, .int .i64 gr, .int .i64 lo, .int .i64 ch, .int .i64 ton, .int .i64 me, .int .i64 si, .int .i64 wa, .int .i64 ar] 24)).alloc (.cells #[.int .i64 v, .int .i64 l] 26) := ⟨_, rfl⟩
  have hB0 : Below w.heap.size w w0 := by rw [hw0]; exact ((Below.refl w.heap.size w).alloc (Nat.le_refl _) _).alloc (by simp) _
  have hX0 : BK w0 (w.heap.size) 24 #[.int .i64 k, .int .i64 tu, .int .i64 gr, .int .i64 lo, .int .i64 ch, .int .i64 ton, .int .i64 me, .int .i64 si, .int .i64 wa, .int .i64 ar] := by rw [hw0]; exact ((BK.new w 24 #[.int .i64 k, .int .i64 tu, .int .i64 gr, .int .i64 lo, .int .i64 ch, .int .i64 ton, .int .i64 me, .int .i64 si, .int .i64 wa, .int .i64 ar])).alloc _
  have hY0 : BK w0 (w.heap.size + 1) 26 #[.int .i64 v, .int .i64 l] := by rw [hw0]; have := BK.new (w.alloc (.cells #[.int .i64 k, .int .i64 tu, .int .i64 gr, .int .i64 lo, .int .i64 ch, .int .i64 ton, .int .i64 me, .int .i64 si, .int .i64 wa, .int .i64 ar] 24)) 26 #[.int .i64 v, .int .i64 l]; rw [World.size_alloc] at this; exact this
  have x0 := hX0.cell 0
  have x1 := hX0.cell 1
  have x2 := hX0.cell 2
  have x3 := hX0.cell 3
  have x4 := hX0.cell 4
  have x5 := hX0.cell 5
  have x6 := hX0.cell 6
  have x7 := hX0.cell 7
  have x8 := hX0.cell 8
  have x9 := hX0.cell 9
  have y0 := hY0.cell 0
  have y1 := hY0.cell 1
  simp only [List.getElem?_toArray, List.getElem?_cons_zero, List.getElem?_cons_succ] at x0 x1 x2 x3 x4 x5 x6 x7 x8 x9 y0 y1
  go_enter Tryd.func3, Tryd.ntmps3
  go_wp2_with fail
  rw [← hw0]
  clear hw0
  go_wp2_with fail
  clear x0 x1 x2 x3 x4 x5 x6 x7 x8 x9 y0 y1
  refine (pLasts_any k tu gr lo ch ton me si wa ar v l w0 (pow10_stays ht hB0 (Nat.le_refl _))).mono ?_
  rintro e w1 ⟨rfl, hk⟩
  have hB1 := hB0.trans (hk.mono hB0.size)
  have hX1 := hX0.below hk hX0.lt
  have hY1 := hY0.below hk hY0.lt
  clear hX0 hY0 hB0 hk
  have x0 := hX1.cell 0
  have x1 := hX1.cell 1
  have x2 := hX1.cell 2
  have x3 := hX1.cell 3
  have x4 := hX1.cell 4
  have x5 := hX1.cell 5
  have x6 := hX1.cell 6
  have x7 := hX1.cell 7
  have x8 := hX1.cell 8
  have x9 := hX1.cell 9
  simp only [List.getElem?_toArray, List.getElem?_cons_zero, List.getElem?_cons_succ] at x0 x1 x2 x3 x4 x5 x6 x7 x8 x9
  go_wp2_with fail
  clear x0 x1 x2 x3 x4 x5 x6 x7 x8 x9
  refine (rvalid_any k tu gr lo ch ton me si wa ar w1).mono ?_
  rintro e w2 ⟨rfl, hk⟩
  have hB2 := hB1.trans (hk.mono hB1.size)
  have hX2 := hX1.below hk hX1.lt
  have hY2 := hY1.below hk hY1.lt
  clear hX1 hY1 hB1 hk
  cases hnv : nVal ⟨k, tu, gr, lo, ch, ton, me, si, wa, ar⟩
  case false =>
    have hL : Hid (lastR ⟨k, tu, gr, lo, ch, ton, me, si, wa, ar⟩ v l = (0, 2)) := by show _ = _; unfold lastR lastV; rw [hnv]; cases spchB v l <;> rfl
    rw [hL.out]
    have hBX := hB2
    go_wp2_with fail
    refine (known_any _).mono ?_
    rintro e w9 ⟨rfl, hk⟩
    go_wp2_with fail
    go_ret
    exact ⟨rfl, hBX.trans (hk.mono hBX.size)⟩
  have y0 := hY2.cell 0
  have y1 := hY2.cell 1
  simp only [List.getElem?_toArray, List.getElem?_cons_zero, List.getElem?_cons_succ] at y0 y1
  go_wp2_with fail
  clear y0 y1
  refine (rspeech_any v l w2).mono ?_
  rintro e w3 ⟨rfl, hk⟩
  have hB3 := hB2.trans (hk.mono hB2.size)
  have hX3 := hX2.below hk hX2.lt
  have hY3 := hY2.below hk hY2.lt
  clear hX2 hY2 hB2 hk
  cases hsp : spchB v l
  case false =>
    have hL : Hid (lastR ⟨k, tu, gr, lo, ch, ton, me, si, wa, ar⟩ v l = (0, 2)) := by show _ = _; unfold lastR; rw [hsp]; rfl
    rw [hL.out]
    have hBX := hB3
    go_wp2_with fail
    refine (known_any _).mono ?_
    rintro e w9 ⟨rfl, hk⟩
    go_wp2_with fail
    go_ret
    exact ⟨rfl, hBX.trans (hk.mono hBX.size)⟩
  have hL : Hid (lastR ⟨k, tu, gr, lo, ch, ton, me, si, wa, ar⟩ v l = (lastS v l (nTxt ⟨k, tu, gr, lo, ch, ton, me, si, wa, ar⟩), 0)) := by show _ = _; unfold lastR lastV; rw [hsp, hnv]; rfl
  rw [hL.out]
  have HLN : Hid ((nTxt ⟨k, tu, gr, lo, ch, ton, me, si, wa, ar⟩).length ≤ 100000) := Nat.le_trans (nTxt_len_valid _ hnv) (by decide)
  have ht3 := pow10_stays ht hB3 (Nat.le_refl _)
  have HTX := Lib.hid (fun d os => rtext_any k tu gr lo ch ton me si wa ar hnv (grow (redrawn w3 d) os) (pow10_stays ht3 (below_regrown w3 d os) (Nat.le_refl _)))
  have HRL := Lib.hid (fun W => rlasts_any (nTxt ⟨k, tu, gr, lo, ch, ton, me, si, wa, ar⟩) v l hsp HLN.out W)
  clear ht3 hL HLN hnv
  generalize nTxt ⟨k, tu, gr, lo, ch, ton, me, si, wa, ar⟩ = t at *
  have x0 := fun d os => cell_regrown (hX3.cell 0) d os
  have x1 := fun d os => cell_regrown (hX3.cell 1) d os
  have x2 := fun d os => cell_regrown (hX3.cell 2) d os
  have x3 := fun d os => cell_regrown (hX3.cell 3) d os
  have x4 := fun d os => cell_regrown (hX3.cell 4) d os
  have x5 := fun d os => cell_regrown (hX3.cell 5) d os
  have x6 := fun d os => cell_regrown (hX3.cell 6) d os
  have x7 := fun d os => cell_regrown (hX3.cell 7) d os
  have x8 := fun d os => cell_regrown (hX3.cell 8) d os
  have x9 := fun d os => cell_regrown (hX3.cell 9) d os
  have y0 := fun d os => cell_regrown (hY3.cell 0) d os
  have y1 := fun d os => cell_regrown (hY3.cell 1) d os
  go_wp2_with fail
  refine wp_region_ch 13 [5, 7, 10, 11] hmo (by kernel_rfl) ?_
  simp only [List.take_succ_cons, List.take_zero, List.drop_succ_cons, List.drop_zero]
  repeat (with_reducible refine wpC_q (by decide) (by decide) (fun K hK => ?_); go_simp; (try rw [if_neg (by simp [undef])]); refine hK _ ?_; clear hK K)
  with_reducible refine wpC_cg (ι := Unit) 9 #[.agg #[.int .i64 k, .int .i64 tu, .int .i64 gr, .int .i64 lo, .int .i64 ch, .int .i64 ton, .int .i64 me, .int .i64 si, .int .i64 wa, .int .i64 ar]] (fun _ => .string (nbs t)) (fun _ _ => True) (by decide) (by decide) (by go_simp) (fun w => by go_simp) stable_true (fun _ => stable_true) (fun W hW _ => ?_) (fun i0 hs0 => ?_)
  · obtain ⟨pp, rfl⟩ := hW
    refine (HTX.out _ _).mono ?_
    rintro e w' ⟨rfl, hbl⟩
    exact ⟨(), rfl, trivial, hbl⟩
  repeat (with_reducible refine wpC_q (by decide) (by decide) (fun K hK => ?_); go_simp; (try rw [if_neg (by simp [undef])]); refine hK _ ?_; clear hK K)
  with_reducible refine wpC_cg (ι := Unit) 8 #[.string (nbs t), .agg #[.int .i64 v, .int .i64 l]] (fun _ => .int .i64 (lastS v l t)) (fun _ _ => True) (by decide) (by decide) (by go_simp) (fun w => by go_simp) hs0 (fun _ => stable_true) (fun W hW _ => ?_) (fun i1 hs1 => ?_)
  · obtain ⟨pp, rfl⟩ := hW
    refine (HRL.out _).mono ?_
    rintro e w' ⟨rfl, hbl⟩
    exact ⟨(), rfl, trivial, hbl⟩
  repeat (with_reducible refine wpC_q (by decide) (by decide) (fun K hK => ?_); go_simp; (try rw [if_neg (by simp [undef])]); refine hK _ ?_; clear hK K)
  with_reducible refine wpC_vg (ι := Unit) (fun _ => .bool true) (fun _ _ => True) (by decide) (by decide) (by go_simp) hs1 (fun _ => stable_true) (fun W _ _ => ⟨(), W, by go_simp, trivial, Below.refl _ _⟩) (fun i2 hs2 => ?_)
  repeat (with_reducible refine wpC_q (by decide) (by decide) (fun K hK => ?_); go_simp; (try rw [if_neg (by simp [undef])]); refine hK _ ?_; clear hK K)
  with_reducible refine wpC_cg (ι := Unit) 7 #[] (fun _ => .bool true) (fun _ _ => True) (by decide) (by decide) (by go_simp) (fun w => by go_simp) hs2 (fun _ => stable_true) (fun W hW _ => ?_) (fun i3 hs3 => ?_)
  · obtain ⟨pp, rfl⟩ := hW
    refine (known_any _).mono ?_
    rintro e w' ⟨rfl, hbl⟩
    exact ⟨(), rfl, trivial, hbl⟩
  repeat (with_reducible refine wpC_q (by decide) (by decide) (fun K hK => ?_); go_simp; (try rw [if_neg (by simp [undef])]); refine hK _ ?_; clear hK K)
  refine wpC_nil ?_
  intro w4 hb4 _
  clear HTX HRL hs0 hs1 hs2 hs3
  go_wp2_with fail
  go_ret
  exact ⟨rfl, hB3.trans (hb4.mono hB3.size)⟩
end Go.Proofs.YtknjkcibkejieaaDoor
