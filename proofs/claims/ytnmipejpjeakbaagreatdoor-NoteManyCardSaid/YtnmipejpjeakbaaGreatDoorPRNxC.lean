/- The document's next note: a corner. Printed by genrnext.py. -/
import Derived.Test.YtnmipejpjeakbaaGreatDoorPRNext
namespace Go.Proofs.YtnmipejpjeakbaaGreatDoor
open Go.RowKit Go.Shelf Go.Sort Go.Proofs

section
end
theorem rCor_leaf {x : Wd} {l : List Wd} {lo ch : Int} (h1 : tokI wShort wLong (wrd l 1) = lo) (h2 : tokI wOpens wTightens (wrd l (if lo = 0 then 1 else 2)) = ch) :
    rCor x l = if nVal (rCorN x lo ch (if ch = 0 then 0 else rnum (wrd l ((if lo = 0 then 1 else 2) + 1)))) then (rCorN x lo ch (if ch = 0 then 0 else rnum (wrd l ((if lo = 0 then 1 else 2) + 1))), if ch = 0 then (if lo = 0 then 1 else 2) else (if lo = 0 then 1 else 2) + 2) else (zeroN, 0) := by
  unfold rCor
  dsimp only
  rw [h1, h2]
theorem tokI_a {x y v : Wd} (h : v = x) : tokI x y v = -1 := by unfold tokI; rw [if_pos h]
theorem tokI_b {x y v : Wd} (h : v ≠ x) (h2 : v = y) : tokI x y v = 1 := by unfold tokI; rw [if_neg h, if_pos h2]
theorem tokI_c {x y v : Wd} (h : v ≠ x) (h2 : v ≠ y) : tokI x y v = 0 := by unfold tokI; rw [if_neg h, if_neg h2]
section
variable (b off n c : Nat) (b2 : UInt8) (r : List Wd) (w : World)
set_option maxRecDepth 100000 in
set_option maxHeartbeats 4000000 in
theorem rnext_L (x : Wd) (hn : 0 < n) (hb0 : b < w.heap.size) (h0 : w.cell? ⟨b, off, none⟩ = some (.string (nbs x))) (hS : SL tC 1 w w.heap.size (some ⟨b, off, none⟩) n (x :: r)) (hl : ∀ y ∈ x :: r, y.length ≤ 1000000) (ht : Lib.TabIs Tryz.prog w pow10N .u64 Lib.pow10Tab) (hx : x = [76, b2]) :
    Calls Tryz.prog 46 #[.slice (some ⟨b, off, none⟩) n c] w (RNx w (rNext (x :: r))) := by
  have hn1 : (0 : Int) < (n : Int) := by omega
  have HS := Lib.hid hS
  have HL := Lib.hid (wrd_le hl)
  have HT := Lib.hid ht
  clear hS hl ht
  have c0 : ¬ x = wInto := by rw [hx]; simp [wInto]
  have c1 : ¬ x = wAnd := by rw [hx]; simp [wAnd]
  have c2 : ¬ x = wCrest := by rw [hx]; simp [wCrest]
  have c3 : ¬ x = wJump := by rw [hx]; simp [wJump]
  have c4 : ¬ x = wBigjump := by rw [hx]; simp [wBigjump]
  have c5 : ¬ x = [33] := by rw [hx]; simp
  have c6 : ¬ x = [33, 33] := by rw [hx]; simp
  have c7 : ¬ x = [33, 33, 33] := by rw [hx]; simp
  have c8 : ¬ x = wJunction := by rw [hx]; simp [wJunction]
  have HR := Lib.hid (rNext_9 r c0 c1 c2 c3 c4 c5 c6 c7 c8)
  have f0 : ((nbs x).toList == [105, 110, 116, 111]) = false := by rw [nbs_list]; exact beq_eq_false_iff_ne.2 c0
  have f1 : ((nbs x).toList == [97, 110, 100]) = false := by rw [nbs_list]; exact beq_eq_false_iff_ne.2 c1
  have f2 : ((nbs x).toList == [99, 114, 101, 115, 116]) = false := by rw [nbs_list]; exact beq_eq_false_iff_ne.2 c2
  have f3 : ((nbs x).toList == [106, 117, 109, 112]) = false := by rw [nbs_list]; exact beq_eq_false_iff_ne.2 c3
  have f4 : ((nbs x).toList == [98, 105, 103, 106, 117, 109, 112]) = false := by rw [nbs_list]; exact beq_eq_false_iff_ne.2 c4
  have f5 : ((nbs x).toList == [33]) = false := by rw [nbs_list]; exact beq_eq_false_iff_ne.2 c5
  have f6 : ((nbs x).toList == [33, 33]) = false := by rw [nbs_list]; exact beq_eq_false_iff_ne.2 c6
  have f7 : ((nbs x).toList == [33, 33, 33]) = false := by rw [nbs_list]; exact beq_eq_false_iff_ne.2 c7
  have f8 : ((nbs x).toList == [106, 117, 110, 99, 116, 105, 111, 110]) = false := by rw [nbs_list]; exact beq_eq_false_iff_ne.2 c8
  have h0r : rnum x = 0 := rnum_none (lr_numB (by rw [hx]; simp))
  have HV : Hid (nVal ⟨2, 0, 0, 0, 0, 0, rnum x, 0, 0, 0⟩ = false) := by show _ = _; rw [h0r]; decide
  have HE0 : Hid (rNext (x :: r) = rCor x (x :: r)) := by show _ = _; rw [HR.out, h0r, if_neg (by decide), if_pos ⟨by rw [hx]; rfl, by rw [hx]; simp⟩]
  have HX := Lib.hid hx
  have hsz : ((nbs x).size : Int) = 2 := by rw [nbs_size, hx]; rfl
  have hix : ∀ w : World, (Instr.index 9 (.string (nbs x)) (.int .i64 0)).run Tryz.prog w = .ok (.int .u8 76) w := fun w => by rw [hx]; exact nbs_idx0 76 [b2] w
  have hst : ∀ w : World, (Instr.slice 9 (.string (nbs x)) (some (.int .i64 1)) none none).run Tryz.prog w = .ok (.string (nbs [b2])) w := fun w => by rw [hx]; exact run_strtail 76 [b2] w
  clear hx h0r HR
  clear c0 c1 c2 c3 c4 c5 c6 c7 c8
  go_enter Tryz.func46, Tryz.ntmps46
  go_wp2_with fail
  obtain ⟨wA, hwA⟩ : ∃ wA, wA = w.alloc (.cells #[.int .i64 0, .int .i64 0, .int .i64 0, .int .i64 0, .int .i64 0, .int .i64 0, .int .i64 0, .int .i64 0, .int .i64 0, .int .i64 0] 36) := ⟨_, rfl⟩
  have HBA : Hid (Below w.heap.size w wA) := by show Below _ _ _; rw [hwA]; exact (Below.refl _ _).alloc (Nat.le_refl _) _
  have HZA : Hid (BK wA w.heap.size 36 #[.int .i64 0, .int .i64 0, .int .i64 0, .int .i64 0, .int .i64 0, .int .i64 0, .int .i64 0, .int .i64 0, .int .i64 0, .int .i64 0]) := by show BK _ _ _ _; rw [hwA]; exact BK.new _ _ _
  have HSA := Lib.hid (HS.out.grow HBA.out HBA.out.size)
  have HTA := Lib.hid (pow10_stays HT.out HBA.out (Nat.le_refl _))
  rw [← hwA]
  clear hwA
  refine (rnum_any x (HL.out 0) _ HTA.out).mono ?_
  rintro e w1 ⟨rfl, hb1⟩
  have HB1 := Lib.hid (HBA.out.trans (hb1.mono HBA.out.size))
  have HZ1 := Lib.hid (HZA.out.below hb1 HZA.out.lt)
  have HS1 := Lib.hid (HSA.out.grow hb1 hb1.size)
  clear hb1 HZA HSA HTA HBA
  go_wp2_with fail
  obtain ⟨wC, hwwC⟩ : ∃ v, v = w1.alloc (.cells #[.int .i64 2, .int .i64 0, .int .i64 0, .int .i64 0, .int .i64 0, .int .i64 0, .int .i64 (rnum x), .int .i64 0, .int .i64 0, .int .i64 0] 36) := ⟨_, rfl⟩
  have HNwC : Hid (BK wC w1.heap.size 36 #[.int .i64 2, .int .i64 0, .int .i64 0, .int .i64 0, .int .i64 0, .int .i64 0, .int .i64 (rnum x), .int .i64 0, .int .i64 0, .int .i64 0]) := by show BK _ _ _ _; rw [hwwC]; exact BK.new _ _ _
  have hqwC : Below w1.heap.size w1 wC := by rw [hwwC]; exact (Below.refl _ _).alloc (Nat.le_refl _) _
  have HBwC := Lib.hid (HB1.out.trans (hqwC.mono HB1.out.size))
  have HZwC := Lib.hid (HZ1.out.below hqwC HZ1.out.lt)
  have HSwC := Lib.hid (HS1.out.grow hqwC hqwC.size)
  rw [← hwwC]
  clear hwwC hqwC
  refine (rvalid_any 2 0 0 0 0 0 (rnum x) 0 0 0 _).mono ?_
  rintro e w4 ⟨rfl, hb4⟩
  rw [HV.out]
  have HBw4 := Lib.hid (HBwC.out.trans (hb4.mono HBwC.out.size))
  have HZw4 := Lib.hid (HZwC.out.below hb4 HZwC.out.lt)
  have HNw4 := Lib.hid (HNwC.out.below hb4 HNwC.out.lt)
  obtain ⟨m0, m1, m2, m3, m4, m5, m6, m7, m8, m9⟩ := HNw4.out.t10
  obtain ⟨z0, z1, z2, z3, z4, z5, z6, z7, z8, z9⟩ := HZw4.out.t10
  have zf := HZw4.out.frozen
  have HS4 := Lib.hid (HSwC.out.grow hb4 hb4.size)
  have HT4 := Lib.hid (pow10_stays HT.out HBw4.out (Nat.le_refl _))
  clear hb4 HNwC HBwC HZwC HSwC
  go_wp2_with fail
  refine (rnum_any [b2] (by simp) _ HT4.out).mono ?_
  rintro e w5 ⟨rfl, hb5⟩
  have HB5 := Lib.hid (HBw4.out.trans (hb5.mono HBw4.out.size))
  have HZ5 := Lib.hid (HZw4.out.below hb5 HZw4.out.lt)
  have HS5 := Lib.hid (HS4.out.grow hb5 hb5.size)
  clear hb5 HS4 HT4 HBw4 HNw4 HZw4 m0 m1 m2 m3 m4 m5 m6 m7 m8 m9 z0 z1 z2 z3 z4 z5 z6 z7 z8 z9 zf
  go_wp2_with fail
  obtain ⟨wN, hwwN⟩ : ∃ v, v = w5.alloc (.cells #[.int .i64 1, .int .i64 (-1), .int .i64 (rnum [b2]), .int .i64 0, .int .i64 0, .int .i64 0, .int .i64 0, .int .i64 0, .int .i64 0, .int .i64 0] 36) := ⟨_, rfl⟩
  have HNwN : Hid (BK wN w5.heap.size 36 #[.int .i64 1, .int .i64 (-1), .int .i64 (rnum [b2]), .int .i64 0, .int .i64 0, .int .i64 0, .int .i64 0, .int .i64 0, .int .i64 0, .int .i64 0]) := by show BK _ _ _ _; rw [hwwN]; exact BK.new _ _ _
  have hqwN : Below w5.heap.size w5 wN := by rw [hwwN]; exact (Below.refl _ _).alloc (Nat.le_refl _) _
  have HBwN := Lib.hid (HB5.out.trans (hqwN.mono HB5.out.size))
  have HZwN := Lib.hid (HZ5.out.below hqwN HZ5.out.lt)
  have HSwN := Lib.hid (HS5.out.grow hqwN hqwN.size)
  rw [← hwwN]
  clear hwwN hqwN
  have HTN := Lib.hid (pow10_stays HT.out HBwN.out (Nat.le_refl _))
  obtain ⟨m0, m1, m2, m3, m4, m5, m6, m7, m8, m9⟩ := HNwN.out.t10
  have mf := HNwN.out.frozen
  have hne : w.heap.size ≠ w5.heap.size := Nat.ne_of_lt HZ5.out.lt
  have hle : w.heap.size ≤ w5.heap.size := HB5.out.size
  have HNE := Lib.hid hne
  have HLE := Lib.hid hle
  clear hne hle HZ5 HB5 HS5 hix hst hsz HV
  refine (rword_any _ n c (x :: r) 1 _ HSwN.out).mono ?_
  rintro e _ ⟨rfl, rfl⟩
  by_cases q1 : wrd (x :: r) 1 = wShort
  · have e1 : (nbs (wrd (x :: r) 1)).toList = [115, 104, 111, 114, 116] := by rw [nbs_list]; exact q1
    have H1 : Hid (tokI wShort wLong (wrd (x :: r) 1) = -1) := tokI_a q1
    clear q1
    go_wp2_with fail
    obtain ⟨wM, hwwM⟩ : ∃ v, v = wN.setCell ⟨w5.heap.size, 3, none⟩ (.int .i64 (-1)) := ⟨_, rfl⟩
    have HNwM : Hid (BK wM w5.heap.size 36 #[.int .i64 1, .int .i64 (-1), .int .i64 (rnum [b2]), .int .i64 (-1), .int .i64 0, .int .i64 0, .int .i64 0, .int .i64 0, .int .i64 0, .int .i64 0]) := by show BK _ _ _ _; rw [hwwM]; exact HNwN.out.set_ 3 _
    have HZwM : Hid (BK wM w.heap.size 36 #[.int .i64 0, .int .i64 0, .int .i64 0, .int .i64 0, .int .i64 0, .int .i64 0, .int .i64 0, .int .i64 0, .int .i64 0, .int .i64 0]) := by show BK _ _ _ _; rw [hwwM]; exact HZwN.out.far (p := ⟨w5.heap.size, 3, none⟩) HNE.out _
    have HBwM : Hid (Below w.heap.size w wM) := by show Below _ _ _; rw [hwwM]; exact HBwN.out.setCell (p := ⟨w5.heap.size, 3, none⟩) HLE.out _
    have HSwM := Lib.hid (HS.out.grow HBwM.out HBwM.out.size)
    have HTwM := Lib.hid (pow10_stays HT.out HBwM.out (Nat.le_refl _))
    rw [← hwwM]
    clear hwwM m0 m1 m2 m3 m4 m5 m6 m7 m8 m9 mf e1
    refine (rword_any _ n c (x :: r) 2 _ HSwM.out).mono ?_
    rintro e _ ⟨rfl, rfl⟩
    by_cases s2 : wrd (x :: r) 2 = wOpens
    · have u2 : (nbs (wrd (x :: r) 2)).toList = [111, 112, 101, 110, 115] := by rw [nbs_list]; exact s2
      have H2 : Hid (tokI wOpens wTightens (wrd (x :: r) 2) = -1) := tokI_a s2
      have HC : Hid (rNext (x :: r) = if nVal ⟨1, -1, rnum [b2], -1, -1, rnum (wrd (x :: r) 3), 0, 0, 0, 0⟩ = true then (⟨1, -1, rnum [b2], -1, -1, rnum (wrd (x :: r) 3), 0, 0, 0, 0⟩, 4) else (zeroN, 0)) := by
        show _ = _
        rw [HE0.out, rCor_leaf (lo := -1) (ch := -1) H1.out H2.out, HX.out]
        rfl
      clear s2
      go_wp2_with fail
      refine (rword_any _ n c (x :: r) 3 _ HSwM.out).mono ?_
      rintro e _ ⟨rfl, rfl⟩
      go_wp2_with fail
      refine (rnum_any _ (HL.out 3) _ HTwM.out).mono ?_
      rintro e w6 ⟨rfl, hb6⟩
      have HBw6 := Lib.hid (HBwM.out.trans (hb6.mono HBwM.out.size))
      have HZw6 := Lib.hid (HZwM.out.below hb6 HZwM.out.lt)
      have HNw6 := Lib.hid (HNwM.out.below hb6 HNwM.out.lt)
      obtain ⟨m0, m1, m2, m3, m4, m5, m6, m7, m8, m9⟩ := HNw6.out.t10
      have mf := HNw6.out.frozen
      clear hb6
      go_wp2_with fail
      clear m0 m1 m2 m3 m4 m5 m6 m7 m8 m9 mf
      obtain ⟨wV, hwwV⟩ : ∃ v, v = ((w6.setCell ⟨w5.heap.size, 4, none⟩ (.int .i64 (-1))).setCell ⟨w5.heap.size, 5, none⟩ (.int .i64 (rnum (wrd (x :: r) 3)))) := ⟨_, rfl⟩
      have HNwV : Hid (BK wV w5.heap.size 36 #[.int .i64 1, .int .i64 (-1), .int .i64 (rnum [b2]), .int .i64 (-1), .int .i64 (-1), .int .i64 (rnum (wrd (x :: r) 3)), .int .i64 0, .int .i64 0, .int .i64 0, .int .i64 0]) := by show BK _ _ _ _; rw [hwwV]; exact (HNw6.out.set_ 4 _).set_ 5 _
      have HZwV : Hid (BK wV w.heap.size 36 #[.int .i64 0, .int .i64 0, .int .i64 0, .int .i64 0, .int .i64 0, .int .i64 0, .int .i64 0, .int .i64 0, .int .i64 0, .int .i64 0]) := by show BK _ _ _ _; rw [hwwV]; exact (HZw6.out.far (p := ⟨w5.heap.size, 4, none⟩) HNE.out _).far (p := ⟨w5.heap.size, 5, none⟩) HNE.out _
      have HBwV : Hid (Below w.heap.size w wV) := by show Below _ _ _; rw [hwwV]; exact (HBw6.out.setCell (p := ⟨w5.heap.size, 4, none⟩) HLE.out _).setCell (p := ⟨w5.heap.size, 5, none⟩) HLE.out _
      rw [← hwwV]
      clear hwwV
      refine (rvalid_any 1 (-1) (rnum [b2]) (-1) (-1) (rnum (wrd (x :: r) 3)) 0 0 0 0 _).mono ?_
      rintro e w9 ⟨rfl, hb9⟩
      have HBw9 := Lib.hid (HBwV.out.trans (hb9.mono HBwV.out.size))
      have HZw9 := Lib.hid (HZwV.out.below hb9 HZwV.out.lt)
      have HNw9 := Lib.hid (HNwV.out.below hb9 HNwV.out.lt)
      obtain ⟨m0, m1, m2, m3, m4, m5, m6, m7, m8, m9⟩ := HNw9.out.t10
      obtain ⟨z0, z1, z2, z3, z4, z5, z6, z7, z8, z9⟩ := HZw9.out.t10
      have zf := HZw9.out.frozen
      clear hb9
      cases hv : nVal ⟨1, -1, rnum [b2], -1, -1, rnum (wrd (x :: r) 3), 0, 0, 0, 0⟩ with
      | true =>
        have HE : Hid (rNext (x :: r) = (⟨1, -1, rnum [b2], -1, -1, rnum (wrd (x :: r) 3), 0, 0, 0, 0⟩, 4)) := by show _ = _; rw [HC.out, hv]; rfl
        clear hv
        go_wp2_with fail
        exact bodyPost_ret (res_note_b (t := 2) (u := 3) rfl _ _ _ _ _ rfl rfl rfl (HZw9.out.set10 rfl)) rfl ⟨by rw [HE.out]; rfl, below10 HBw9.out (Nat.le_refl _)⟩
      | false =>
        have HE : Hid (rNext (x :: r) = (zeroN, 0)) := by show _ = _; rw [HC.out, hv]; rfl
        clear hv
        go_wp2_with fail
        exact bodyPost_ret (res_note_b (t := 2) (u := 3) rfl _ _ _ _ _ rfl rfl rfl (HZw9.out.set10 rfl)) rfl ⟨by rw [HE.out]; rfl, below10 HBw9.out (Nat.le_refl _)⟩
    · by_cases t2 : wrd (x :: r) 2 = wTightens
      · have u2 : (nbs (wrd (x :: r) 2)).toList = [116, 105, 103, 104, 116, 101, 110, 115] := by rw [nbs_list]; exact t2
        have H2 : Hid (tokI wOpens wTightens (wrd (x :: r) 2) = 1) := tokI_b s2 t2
        have HC : Hid (rNext (x :: r) = if nVal ⟨1, -1, rnum [b2], -1, 1, rnum (wrd (x :: r) 3), 0, 0, 0, 0⟩ = true then (⟨1, -1, rnum [b2], -1, 1, rnum (wrd (x :: r) 3), 0, 0, 0, 0⟩, 4) else (zeroN, 0)) := by
          show _ = _
          rw [HE0.out, rCor_leaf (lo := -1) (ch := 1) H1.out H2.out, HX.out]
          rfl
        clear s2 t2
        go_wp2_with fail
        refine (rword_any _ n c (x :: r) 3 _ HSwM.out).mono ?_
        rintro e _ ⟨rfl, rfl⟩
        go_wp2_with fail
        refine (rnum_any _ (HL.out 3) _ HTwM.out).mono ?_
        rintro e w6 ⟨rfl, hb6⟩
        have HBw6 := Lib.hid (HBwM.out.trans (hb6.mono HBwM.out.size))
        have HZw6 := Lib.hid (HZwM.out.below hb6 HZwM.out.lt)
        have HNw6 := Lib.hid (HNwM.out.below hb6 HNwM.out.lt)
        obtain ⟨m0, m1, m2, m3, m4, m5, m6, m7, m8, m9⟩ := HNw6.out.t10
        have mf := HNw6.out.frozen
        clear hb6
        go_wp2_with fail
        clear m0 m1 m2 m3 m4 m5 m6 m7 m8 m9 mf
        obtain ⟨wV, hwwV⟩ : ∃ v, v = ((w6.setCell ⟨w5.heap.size, 4, none⟩ (.int .i64 1)).setCell ⟨w5.heap.size, 5, none⟩ (.int .i64 (rnum (wrd (x :: r) 3)))) := ⟨_, rfl⟩
        have HNwV : Hid (BK wV w5.heap.size 36 #[.int .i64 1, .int .i64 (-1), .int .i64 (rnum [b2]), .int .i64 (-1), .int .i64 1, .int .i64 (rnum (wrd (x :: r) 3)), .int .i64 0, .int .i64 0, .int .i64 0, .int .i64 0]) := by show BK _ _ _ _; rw [hwwV]; exact (HNw6.out.set_ 4 _).set_ 5 _
        have HZwV : Hid (BK wV w.heap.size 36 #[.int .i64 0, .int .i64 0, .int .i64 0, .int .i64 0, .int .i64 0, .int .i64 0, .int .i64 0, .int .i64 0, .int .i64 0, .int .i64 0]) := by show BK _ _ _ _; rw [hwwV]; exact (HZw6.out.far (p := ⟨w5.heap.size, 4, none⟩) HNE.out _).far (p := ⟨w5.heap.size, 5, none⟩) HNE.out _
        have HBwV : Hid (Below w.heap.size w wV) := by show Below _ _ _; rw [hwwV]; exact (HBw6.out.setCell (p := ⟨w5.heap.size, 4, none⟩) HLE.out _).setCell (p := ⟨w5.heap.size, 5, none⟩) HLE.out _
        rw [← hwwV]
        clear hwwV
        refine (rvalid_any 1 (-1) (rnum [b2]) (-1) 1 (rnum (wrd (x :: r) 3)) 0 0 0 0 _).mono ?_
        rintro e w9 ⟨rfl, hb9⟩
        have HBw9 := Lib.hid (HBwV.out.trans (hb9.mono HBwV.out.size))
        have HZw9 := Lib.hid (HZwV.out.below hb9 HZwV.out.lt)
        have HNw9 := Lib.hid (HNwV.out.below hb9 HNwV.out.lt)
        obtain ⟨m0, m1, m2, m3, m4, m5, m6, m7, m8, m9⟩ := HNw9.out.t10
        obtain ⟨z0, z1, z2, z3, z4, z5, z6, z7, z8, z9⟩ := HZw9.out.t10
        have zf := HZw9.out.frozen
        clear hb9
        cases hv : nVal ⟨1, -1, rnum [b2], -1, 1, rnum (wrd (x :: r) 3), 0, 0, 0, 0⟩ with
        | true =>
          have HE : Hid (rNext (x :: r) = (⟨1, -1, rnum [b2], -1, 1, rnum (wrd (x :: r) 3), 0, 0, 0, 0⟩, 4)) := by show _ = _; rw [HC.out, hv]; rfl
          clear hv
          go_wp2_with fail
          exact bodyPost_ret (res_note_b (t := 2) (u := 3) rfl _ _ _ _ _ rfl rfl rfl (HZw9.out.set10 rfl)) rfl ⟨by rw [HE.out]; rfl, below10 HBw9.out (Nat.le_refl _)⟩
        | false =>
          have HE : Hid (rNext (x :: r) = (zeroN, 0)) := by show _ = _; rw [HC.out, hv]; rfl
          clear hv
          go_wp2_with fail
          exact bodyPost_ret (res_note_b (t := 2) (u := 3) rfl _ _ _ _ _ rfl rfl rfl (HZw9.out.set10 rfl)) rfl ⟨by rw [HE.out]; rfl, below10 HBw9.out (Nat.le_refl _)⟩
      · have v2 : ((nbs (wrd (x :: r) 2)).toList == [111, 112, 101, 110, 115]) = false := by rw [nbs_list]; exact beq_eq_false_iff_ne.2 s2
        have u2 : ((nbs (wrd (x :: r) 2)).toList == [116, 105, 103, 104, 116, 101, 110, 115]) = false := by rw [nbs_list]; exact beq_eq_false_iff_ne.2 t2
        have H2 : Hid (tokI wOpens wTightens (wrd (x :: r) 2) = 0) := tokI_c s2 t2
        have HC : Hid (rNext (x :: r) = if nVal ⟨1, -1, rnum [b2], -1, 0, 0, 0, 0, 0, 0⟩ = true then (⟨1, -1, rnum [b2], -1, 0, 0, 0, 0, 0, 0⟩, 2) else (zeroN, 0)) := by
          show _ = _
          rw [HE0.out, rCor_leaf (lo := -1) (ch := 0) H1.out H2.out, HX.out]
          rfl
        clear s2 t2
        obtain ⟨m0, m1, m2, m3, m4, m5, m6, m7, m8, m9⟩ := HNwM.out.t10
        go_wp2_with fail
        refine (rvalid_any 1 (-1) (rnum [b2]) (-1) 0 0 0 0 0 0 _).mono ?_
        rintro e w9 ⟨rfl, hb9⟩
        clear m0 m1 m2 m3 m4 m5 m6 m7 m8 m9
        have HBw9 := Lib.hid (HBwM.out.trans (hb9.mono HBwM.out.size))
        have HZw9 := Lib.hid (HZwM.out.below hb9 HZwM.out.lt)
        have HNw9 := Lib.hid (HNwM.out.below hb9 HNwM.out.lt)
        obtain ⟨m0, m1, m2, m3, m4, m5, m6, m7, m8, m9⟩ := HNw9.out.t10
        obtain ⟨z0, z1, z2, z3, z4, z5, z6, z7, z8, z9⟩ := HZw9.out.t10
        have zf := HZw9.out.frozen
        clear hb9
        cases hv : nVal ⟨1, -1, rnum [b2], -1, 0, 0, 0, 0, 0, 0⟩ with
        | true =>
          have HE : Hid (rNext (x :: r) = (⟨1, -1, rnum [b2], -1, 0, 0, 0, 0, 0, 0⟩, 2)) := by show _ = _; rw [HC.out, hv]; rfl
          clear hv
          go_wp2_with fail
          exact bodyPost_ret (res_note_b (t := 2) (u := 3) rfl _ _ _ _ _ rfl rfl rfl (HZw9.out.set10 rfl)) rfl ⟨by rw [HE.out]; rfl, below10 HBw9.out (Nat.le_refl _)⟩
        | false =>
          have HE : Hid (rNext (x :: r) = (zeroN, 0)) := by show _ = _; rw [HC.out, hv]; rfl
          clear hv
          go_wp2_with fail
          exact bodyPost_ret (res_note_b (t := 2) (u := 3) rfl _ _ _ _ _ rfl rfl rfl (HZw9.out.set10 rfl)) rfl ⟨by rw [HE.out]; rfl, below10 HBw9.out (Nat.le_refl _)⟩
  · by_cases p1 : wrd (x :: r) 1 = wLong
    · have e1 : (nbs (wrd (x :: r) 1)).toList = [108, 111, 110, 103] := by rw [nbs_list]; exact p1
      have H1 : Hid (tokI wShort wLong (wrd (x :: r) 1) = 1) := tokI_b q1 p1
      clear q1 p1
      go_wp2_with fail
      obtain ⟨wM, hwwM⟩ : ∃ v, v = wN.setCell ⟨w5.heap.size, 3, none⟩ (.int .i64 1) := ⟨_, rfl⟩
      have HNwM : Hid (BK wM w5.heap.size 36 #[.int .i64 1, .int .i64 (-1), .int .i64 (rnum [b2]), .int .i64 1, .int .i64 0, .int .i64 0, .int .i64 0, .int .i64 0, .int .i64 0, .int .i64 0]) := by show BK _ _ _ _; rw [hwwM]; exact HNwN.out.set_ 3 _
      have HZwM : Hid (BK wM w.heap.size 36 #[.int .i64 0, .int .i64 0, .int .i64 0, .int .i64 0, .int .i64 0, .int .i64 0, .int .i64 0, .int .i64 0, .int .i64 0, .int .i64 0]) := by show BK _ _ _ _; rw [hwwM]; exact HZwN.out.far (p := ⟨w5.heap.size, 3, none⟩) HNE.out _
      have HBwM : Hid (Below w.heap.size w wM) := by show Below _ _ _; rw [hwwM]; exact HBwN.out.setCell (p := ⟨w5.heap.size, 3, none⟩) HLE.out _
      have HSwM := Lib.hid (HS.out.grow HBwM.out HBwM.out.size)
      have HTwM := Lib.hid (pow10_stays HT.out HBwM.out (Nat.le_refl _))
      rw [← hwwM]
      clear hwwM m0 m1 m2 m3 m4 m5 m6 m7 m8 m9 mf e1
      refine (rword_any _ n c (x :: r) 2 _ HSwM.out).mono ?_
      rintro e _ ⟨rfl, rfl⟩
      by_cases s2 : wrd (x :: r) 2 = wOpens
      · have u2 : (nbs (wrd (x :: r) 2)).toList = [111, 112, 101, 110, 115] := by rw [nbs_list]; exact s2
        have H2 : Hid (tokI wOpens wTightens (wrd (x :: r) 2) = -1) := tokI_a s2
        have HC : Hid (rNext (x :: r) = if nVal ⟨1, -1, rnum [b2], 1, -1, rnum (wrd (x :: r) 3), 0, 0, 0, 0⟩ = true then (⟨1, -1, rnum [b2], 1, -1, rnum (wrd (x :: r) 3), 0, 0, 0, 0⟩, 4) else (zeroN, 0)) := by
          show _ = _
          rw [HE0.out, rCor_leaf (lo := 1) (ch := -1) H1.out H2.out, HX.out]
          rfl
        clear s2
        go_wp2_with fail
        refine (rword_any _ n c (x :: r) 3 _ HSwM.out).mono ?_
        rintro e _ ⟨rfl, rfl⟩
        go_wp2_with fail
        refine (rnum_any _ (HL.out 3) _ HTwM.out).mono ?_
        rintro e w6 ⟨rfl, hb6⟩
        have HBw6 := Lib.hid (HBwM.out.trans (hb6.mono HBwM.out.size))
        have HZw6 := Lib.hid (HZwM.out.below hb6 HZwM.out.lt)
        have HNw6 := Lib.hid (HNwM.out.below hb6 HNwM.out.lt)
        obtain ⟨m0, m1, m2, m3, m4, m5, m6, m7, m8, m9⟩ := HNw6.out.t10
        have mf := HNw6.out.frozen
        clear hb6
        go_wp2_with fail
        clear m0 m1 m2 m3 m4 m5 m6 m7 m8 m9 mf
        obtain ⟨wV, hwwV⟩ : ∃ v, v = ((w6.setCell ⟨w5.heap.size, 4, none⟩ (.int .i64 (-1))).setCell ⟨w5.heap.size, 5, none⟩ (.int .i64 (rnum (wrd (x :: r) 3)))) := ⟨_, rfl⟩
        have HNwV : Hid (BK wV w5.heap.size 36 #[.int .i64 1, .int .i64 (-1), .int .i64 (rnum [b2]), .int .i64 1, .int .i64 (-1), .int .i64 (rnum (wrd (x :: r) 3)), .int .i64 0, .int .i64 0, .int .i64 0, .int .i64 0]) := by show BK _ _ _ _; rw [hwwV]; exact (HNw6.out.set_ 4 _).set_ 5 _
        have HZwV : Hid (BK wV w.heap.size 36 #[.int .i64 0, .int .i64 0, .int .i64 0, .int .i64 0, .int .i64 0, .int .i64 0, .int .i64 0, .int .i64 0, .int .i64 0, .int .i64 0]) := by show BK _ _ _ _; rw [hwwV]; exact (HZw6.out.far (p := ⟨w5.heap.size, 4, none⟩) HNE.out _).far (p := ⟨w5.heap.size, 5, none⟩) HNE.out _
        have HBwV : Hid (Below w.heap.size w wV) := by show Below _ _ _; rw [hwwV]; exact (HBw6.out.setCell (p := ⟨w5.heap.size, 4, none⟩) HLE.out _).setCell (p := ⟨w5.heap.size, 5, none⟩) HLE.out _
        rw [← hwwV]
        clear hwwV
        refine (rvalid_any 1 (-1) (rnum [b2]) 1 (-1) (rnum (wrd (x :: r) 3)) 0 0 0 0 _).mono ?_
        rintro e w9 ⟨rfl, hb9⟩
        have HBw9 := Lib.hid (HBwV.out.trans (hb9.mono HBwV.out.size))
        have HZw9 := Lib.hid (HZwV.out.below hb9 HZwV.out.lt)
        have HNw9 := Lib.hid (HNwV.out.below hb9 HNwV.out.lt)
        obtain ⟨m0, m1, m2, m3, m4, m5, m6, m7, m8, m9⟩ := HNw9.out.t10
        obtain ⟨z0, z1, z2, z3, z4, z5, z6, z7, z8, z9⟩ := HZw9.out.t10
        have zf := HZw9.out.frozen
        clear hb9
        cases hv : nVal ⟨1, -1, rnum [b2], 1, -1, rnum (wrd (x :: r) 3), 0, 0, 0, 0⟩ with
        | true =>
          have HE : Hid (rNext (x :: r) = (⟨1, -1, rnum [b2], 1, -1, rnum (wrd (x :: r) 3), 0, 0, 0, 0⟩, 4)) := by show _ = _; rw [HC.out, hv]; rfl
          clear hv
          go_wp2_with fail
          exact bodyPost_ret (res_note_b (t := 2) (u := 3) rfl _ _ _ _ _ rfl rfl rfl (HZw9.out.set10 rfl)) rfl ⟨by rw [HE.out]; rfl, below10 HBw9.out (Nat.le_refl _)⟩
        | false =>
          have HE : Hid (rNext (x :: r) = (zeroN, 0)) := by show _ = _; rw [HC.out, hv]; rfl
          clear hv
          go_wp2_with fail
          exact bodyPost_ret (res_note_b (t := 2) (u := 3) rfl _ _ _ _ _ rfl rfl rfl (HZw9.out.set10 rfl)) rfl ⟨by rw [HE.out]; rfl, below10 HBw9.out (Nat.le_refl _)⟩
      · by_cases t2 : wrd (x :: r) 2 = wTightens
        · have u2 : (nbs (wrd (x :: r) 2)).toList = [116, 105, 103, 104, 116, 101, 110, 115] := by rw [nbs_list]; exact t2
          have H2 : Hid (tokI wOpens wTightens (wrd (x :: r) 2) = 1) := tokI_b s2 t2
          have HC : Hid (rNext (x :: r) = if nVal ⟨1, -1, rnum [b2], 1, 1, rnum (wrd (x :: r) 3), 0, 0, 0, 0⟩ = true then (⟨1, -1, rnum [b2], 1, 1, rnum (wrd (x :: r) 3), 0, 0, 0, 0⟩, 4) else (zeroN, 0)) := by
            show _ = _
            rw [HE0.out, rCor_leaf (lo := 1) (ch := 1) H1.out H2.out, HX.out]
            rfl
          clear s2 t2
          go_wp2_with fail
          refine (rword_any _ n c (x :: r) 3 _ HSwM.out).mono ?_
          rintro e _ ⟨rfl, rfl⟩
          go_wp2_with fail
          refine (rnum_any _ (HL.out 3) _ HTwM.out).mono ?_
          rintro e w6 ⟨rfl, hb6⟩
          have HBw6 := Lib.hid (HBwM.out.trans (hb6.mono HBwM.out.size))
          have HZw6 := Lib.hid (HZwM.out.below hb6 HZwM.out.lt)
          have HNw6 := Lib.hid (HNwM.out.below hb6 HNwM.out.lt)
          obtain ⟨m0, m1, m2, m3, m4, m5, m6, m7, m8, m9⟩ := HNw6.out.t10
          have mf := HNw6.out.frozen
          clear hb6
          go_wp2_with fail
          clear m0 m1 m2 m3 m4 m5 m6 m7 m8 m9 mf
          obtain ⟨wV, hwwV⟩ : ∃ v, v = ((w6.setCell ⟨w5.heap.size, 4, none⟩ (.int .i64 1)).setCell ⟨w5.heap.size, 5, none⟩ (.int .i64 (rnum (wrd (x :: r) 3)))) := ⟨_, rfl⟩
          have HNwV : Hid (BK wV w5.heap.size 36 #[.int .i64 1, .int .i64 (-1), .int .i64 (rnum [b2]), .int .i64 1, .int .i64 1, .int .i64 (rnum (wrd (x :: r) 3)), .int .i64 0, .int .i64 0, .int .i64 0, .int .i64 0]) := by show BK _ _ _ _; rw [hwwV]; exact (HNw6.out.set_ 4 _).set_ 5 _
          have HZwV : Hid (BK wV w.heap.size 36 #[.int .i64 0, .int .i64 0, .int .i64 0, .int .i64 0, .int .i64 0, .int .i64 0, .int .i64 0, .int .i64 0, .int .i64 0, .int .i64 0]) := by show BK _ _ _ _; rw [hwwV]; exact (HZw6.out.far (p := ⟨w5.heap.size, 4, none⟩) HNE.out _).far (p := ⟨w5.heap.size, 5, none⟩) HNE.out _
          have HBwV : Hid (Below w.heap.size w wV) := by show Below _ _ _; rw [hwwV]; exact (HBw6.out.setCell (p := ⟨w5.heap.size, 4, none⟩) HLE.out _).setCell (p := ⟨w5.heap.size, 5, none⟩) HLE.out _
          rw [← hwwV]
          clear hwwV
          refine (rvalid_any 1 (-1) (rnum [b2]) 1 1 (rnum (wrd (x :: r) 3)) 0 0 0 0 _).mono ?_
          rintro e w9 ⟨rfl, hb9⟩
          have HBw9 := Lib.hid (HBwV.out.trans (hb9.mono HBwV.out.size))
          have HZw9 := Lib.hid (HZwV.out.below hb9 HZwV.out.lt)
          have HNw9 := Lib.hid (HNwV.out.below hb9 HNwV.out.lt)
          obtain ⟨m0, m1, m2, m3, m4, m5, m6, m7, m8, m9⟩ := HNw9.out.t10
          obtain ⟨z0, z1, z2, z3, z4, z5, z6, z7, z8, z9⟩ := HZw9.out.t10
          have zf := HZw9.out.frozen
          clear hb9
          cases hv : nVal ⟨1, -1, rnum [b2], 1, 1, rnum (wrd (x :: r) 3), 0, 0, 0, 0⟩ with
          | true =>
            have HE : Hid (rNext (x :: r) = (⟨1, -1, rnum [b2], 1, 1, rnum (wrd (x :: r) 3), 0, 0, 0, 0⟩, 4)) := by show _ = _; rw [HC.out, hv]; rfl
            clear hv
            go_wp2_with fail
            exact bodyPost_ret (res_note_b (t := 2) (u := 3) rfl _ _ _ _ _ rfl rfl rfl (HZw9.out.set10 rfl)) rfl ⟨by rw [HE.out]; rfl, below10 HBw9.out (Nat.le_refl _)⟩
          | false =>
            have HE : Hid (rNext (x :: r) = (zeroN, 0)) := by show _ = _; rw [HC.out, hv]; rfl
            clear hv
            go_wp2_with fail
            exact bodyPost_ret (res_note_b (t := 2) (u := 3) rfl _ _ _ _ _ rfl rfl rfl (HZw9.out.set10 rfl)) rfl ⟨by rw [HE.out]; rfl, below10 HBw9.out (Nat.le_refl _)⟩
        · have v2 : ((nbs (wrd (x :: r) 2)).toList == [111, 112, 101, 110, 115]) = false := by rw [nbs_list]; exact beq_eq_false_iff_ne.2 s2
          have u2 : ((nbs (wrd (x :: r) 2)).toList == [116, 105, 103, 104, 116, 101, 110, 115]) = false := by rw [nbs_list]; exact beq_eq_false_iff_ne.2 t2
          have H2 : Hid (tokI wOpens wTightens (wrd (x :: r) 2) = 0) := tokI_c s2 t2
          have HC : Hid (rNext (x :: r) = if nVal ⟨1, -1, rnum [b2], 1, 0, 0, 0, 0, 0, 0⟩ = true then (⟨1, -1, rnum [b2], 1, 0, 0, 0, 0, 0, 0⟩, 2) else (zeroN, 0)) := by
            show _ = _
            rw [HE0.out, rCor_leaf (lo := 1) (ch := 0) H1.out H2.out, HX.out]
            rfl
          clear s2 t2
          obtain ⟨m0, m1, m2, m3, m4, m5, m6, m7, m8, m9⟩ := HNwM.out.t10
          go_wp2_with fail
          refine (rvalid_any 1 (-1) (rnum [b2]) 1 0 0 0 0 0 0 _).mono ?_
          rintro e w9 ⟨rfl, hb9⟩
          clear m0 m1 m2 m3 m4 m5 m6 m7 m8 m9
          have HBw9 := Lib.hid (HBwM.out.trans (hb9.mono HBwM.out.size))
          have HZw9 := Lib.hid (HZwM.out.below hb9 HZwM.out.lt)
          have HNw9 := Lib.hid (HNwM.out.below hb9 HNwM.out.lt)
          obtain ⟨m0, m1, m2, m3, m4, m5, m6, m7, m8, m9⟩ := HNw9.out.t10
          obtain ⟨z0, z1, z2, z3, z4, z5, z6, z7, z8, z9⟩ := HZw9.out.t10
          have zf := HZw9.out.frozen
          clear hb9
          cases hv : nVal ⟨1, -1, rnum [b2], 1, 0, 0, 0, 0, 0, 0⟩ with
          | true =>
            have HE : Hid (rNext (x :: r) = (⟨1, -1, rnum [b2], 1, 0, 0, 0, 0, 0, 0⟩, 2)) := by show _ = _; rw [HC.out, hv]; rfl
            clear hv
            go_wp2_with fail
            exact bodyPost_ret (res_note_b (t := 2) (u := 3) rfl _ _ _ _ _ rfl rfl rfl (HZw9.out.set10 rfl)) rfl ⟨by rw [HE.out]; rfl, below10 HBw9.out (Nat.le_refl _)⟩
          | false =>
            have HE : Hid (rNext (x :: r) = (zeroN, 0)) := by show _ = _; rw [HC.out, hv]; rfl
            clear hv
            go_wp2_with fail
            exact bodyPost_ret (res_note_b (t := 2) (u := 3) rfl _ _ _ _ _ rfl rfl rfl (HZw9.out.set10 rfl)) rfl ⟨by rw [HE.out]; rfl, below10 HBw9.out (Nat.le_refl _)⟩
    · have d1 : ((nbs (wrd (x :: r) 1)).toList == [115, 104, 111, 114, 116]) = false := by rw [nbs_list]; exact beq_eq_false_iff_ne.2 q1
      have e1 : ((nbs (wrd (x :: r) 1)).toList == [108, 111, 110, 103]) = false := by rw [nbs_list]; exact beq_eq_false_iff_ne.2 p1
      have H1 : Hid (tokI wShort wLong (wrd (x :: r) 1) = 0) := tokI_c q1 p1
      clear q1 p1
      have HTwN := HTN
      clear m0 m1 m2 m3 m4 m5 m6 m7 m8 m9 mf
      go_wp2_with fail
      clear d1 e1
      refine (rword_any _ n c (x :: r) 1 _ HSwN.out).mono ?_
      rintro e _ ⟨rfl, rfl⟩
      by_cases s1 : wrd (x :: r) 1 = wOpens
      · have u1 : (nbs (wrd (x :: r) 1)).toList = [111, 112, 101, 110, 115] := by rw [nbs_list]; exact s1
        have H2 : Hid (tokI wOpens wTightens (wrd (x :: r) 1) = -1) := tokI_a s1
        have HC : Hid (rNext (x :: r) = if nVal ⟨1, -1, rnum [b2], 0, -1, rnum (wrd (x :: r) 2), 0, 0, 0, 0⟩ = true then (⟨1, -1, rnum [b2], 0, -1, rnum (wrd (x :: r) 2), 0, 0, 0, 0⟩, 3) else (zeroN, 0)) := by
          show _ = _
          rw [HE0.out, rCor_leaf (lo := 0) (ch := -1) H1.out H2.out, HX.out]
          rfl
        clear s1
        go_wp2_with fail
        refine (rword_any _ n c (x :: r) 2 _ HSwN.out).mono ?_
        rintro e _ ⟨rfl, rfl⟩
        go_wp2_with fail
        refine (rnum_any _ (HL.out 2) _ HTwN.out).mono ?_
        rintro e w6 ⟨rfl, hb6⟩
        have HBw6 := Lib.hid (HBwN.out.trans (hb6.mono HBwN.out.size))
        have HZw6 := Lib.hid (HZwN.out.below hb6 HZwN.out.lt)
        have HNw6 := Lib.hid (HNwN.out.below hb6 HNwN.out.lt)
        obtain ⟨m0, m1, m2, m3, m4, m5, m6, m7, m8, m9⟩ := HNw6.out.t10
        have mf := HNw6.out.frozen
        clear hb6
        go_wp2_with fail
        clear m0 m1 m2 m3 m4 m5 m6 m7 m8 m9 mf
        obtain ⟨wV, hwwV⟩ : ∃ v, v = ((w6.setCell ⟨w5.heap.size, 4, none⟩ (.int .i64 (-1))).setCell ⟨w5.heap.size, 5, none⟩ (.int .i64 (rnum (wrd (x :: r) 2)))) := ⟨_, rfl⟩
        have HNwV : Hid (BK wV w5.heap.size 36 #[.int .i64 1, .int .i64 (-1), .int .i64 (rnum [b2]), .int .i64 0, .int .i64 (-1), .int .i64 (rnum (wrd (x :: r) 2)), .int .i64 0, .int .i64 0, .int .i64 0, .int .i64 0]) := by show BK _ _ _ _; rw [hwwV]; exact (HNw6.out.set_ 4 _).set_ 5 _
        have HZwV : Hid (BK wV w.heap.size 36 #[.int .i64 0, .int .i64 0, .int .i64 0, .int .i64 0, .int .i64 0, .int .i64 0, .int .i64 0, .int .i64 0, .int .i64 0, .int .i64 0]) := by show BK _ _ _ _; rw [hwwV]; exact (HZw6.out.far (p := ⟨w5.heap.size, 4, none⟩) HNE.out _).far (p := ⟨w5.heap.size, 5, none⟩) HNE.out _
        have HBwV : Hid (Below w.heap.size w wV) := by show Below _ _ _; rw [hwwV]; exact (HBw6.out.setCell (p := ⟨w5.heap.size, 4, none⟩) HLE.out _).setCell (p := ⟨w5.heap.size, 5, none⟩) HLE.out _
        rw [← hwwV]
        clear hwwV
        refine (rvalid_any 1 (-1) (rnum [b2]) 0 (-1) (rnum (wrd (x :: r) 2)) 0 0 0 0 _).mono ?_
        rintro e w9 ⟨rfl, hb9⟩
        have HBw9 := Lib.hid (HBwV.out.trans (hb9.mono HBwV.out.size))
        have HZw9 := Lib.hid (HZwV.out.below hb9 HZwV.out.lt)
        have HNw9 := Lib.hid (HNwV.out.below hb9 HNwV.out.lt)
        obtain ⟨m0, m1, m2, m3, m4, m5, m6, m7, m8, m9⟩ := HNw9.out.t10
        obtain ⟨z0, z1, z2, z3, z4, z5, z6, z7, z8, z9⟩ := HZw9.out.t10
        have zf := HZw9.out.frozen
        clear hb9
        cases hv : nVal ⟨1, -1, rnum [b2], 0, -1, rnum (wrd (x :: r) 2), 0, 0, 0, 0⟩ with
        | true =>
          have HE : Hid (rNext (x :: r) = (⟨1, -1, rnum [b2], 0, -1, rnum (wrd (x :: r) 2), 0, 0, 0, 0⟩, 3)) := by show _ = _; rw [HC.out, hv]; rfl
          clear hv
          go_wp2_with fail
          exact bodyPost_ret (res_note_b (t := 2) (u := 3) rfl _ _ _ _ _ rfl rfl rfl (HZw9.out.set10 rfl)) rfl ⟨by rw [HE.out]; rfl, below10 HBw9.out (Nat.le_refl _)⟩
        | false =>
          have HE : Hid (rNext (x :: r) = (zeroN, 0)) := by show _ = _; rw [HC.out, hv]; rfl
          clear hv
          go_wp2_with fail
          exact bodyPost_ret (res_note_b (t := 2) (u := 3) rfl _ _ _ _ _ rfl rfl rfl (HZw9.out.set10 rfl)) rfl ⟨by rw [HE.out]; rfl, below10 HBw9.out (Nat.le_refl _)⟩
      · by_cases t1 : wrd (x :: r) 1 = wTightens
        · have u1 : (nbs (wrd (x :: r) 1)).toList = [116, 105, 103, 104, 116, 101, 110, 115] := by rw [nbs_list]; exact t1
          have H2 : Hid (tokI wOpens wTightens (wrd (x :: r) 1) = 1) := tokI_b s1 t1
          have HC : Hid (rNext (x :: r) = if nVal ⟨1, -1, rnum [b2], 0, 1, rnum (wrd (x :: r) 2), 0, 0, 0, 0⟩ = true then (⟨1, -1, rnum [b2], 0, 1, rnum (wrd (x :: r) 2), 0, 0, 0, 0⟩, 3) else (zeroN, 0)) := by
            show _ = _
            rw [HE0.out, rCor_leaf (lo := 0) (ch := 1) H1.out H2.out, HX.out]
            rfl
          clear s1 t1
          go_wp2_with fail
          refine (rword_any _ n c (x :: r) 2 _ HSwN.out).mono ?_
          rintro e _ ⟨rfl, rfl⟩
          go_wp2_with fail
          refine (rnum_any _ (HL.out 2) _ HTwN.out).mono ?_
          rintro e w6 ⟨rfl, hb6⟩
          have HBw6 := Lib.hid (HBwN.out.trans (hb6.mono HBwN.out.size))
          have HZw6 := Lib.hid (HZwN.out.below hb6 HZwN.out.lt)
          have HNw6 := Lib.hid (HNwN.out.below hb6 HNwN.out.lt)
          obtain ⟨m0, m1, m2, m3, m4, m5, m6, m7, m8, m9⟩ := HNw6.out.t10
          have mf := HNw6.out.frozen
          clear hb6
          go_wp2_with fail
          clear m0 m1 m2 m3 m4 m5 m6 m7 m8 m9 mf
          obtain ⟨wV, hwwV⟩ : ∃ v, v = ((w6.setCell ⟨w5.heap.size, 4, none⟩ (.int .i64 1)).setCell ⟨w5.heap.size, 5, none⟩ (.int .i64 (rnum (wrd (x :: r) 2)))) := ⟨_, rfl⟩
          have HNwV : Hid (BK wV w5.heap.size 36 #[.int .i64 1, .int .i64 (-1), .int .i64 (rnum [b2]), .int .i64 0, .int .i64 1, .int .i64 (rnum (wrd (x :: r) 2)), .int .i64 0, .int .i64 0, .int .i64 0, .int .i64 0]) := by show BK _ _ _ _; rw [hwwV]; exact (HNw6.out.set_ 4 _).set_ 5 _
          have HZwV : Hid (BK wV w.heap.size 36 #[.int .i64 0, .int .i64 0, .int .i64 0, .int .i64 0, .int .i64 0, .int .i64 0, .int .i64 0, .int .i64 0, .int .i64 0, .int .i64 0]) := by show BK _ _ _ _; rw [hwwV]; exact (HZw6.out.far (p := ⟨w5.heap.size, 4, none⟩) HNE.out _).far (p := ⟨w5.heap.size, 5, none⟩) HNE.out _
          have HBwV : Hid (Below w.heap.size w wV) := by show Below _ _ _; rw [hwwV]; exact (HBw6.out.setCell (p := ⟨w5.heap.size, 4, none⟩) HLE.out _).setCell (p := ⟨w5.heap.size, 5, none⟩) HLE.out _
          rw [← hwwV]
          clear hwwV
          refine (rvalid_any 1 (-1) (rnum [b2]) 0 1 (rnum (wrd (x :: r) 2)) 0 0 0 0 _).mono ?_
          rintro e w9 ⟨rfl, hb9⟩
          have HBw9 := Lib.hid (HBwV.out.trans (hb9.mono HBwV.out.size))
          have HZw9 := Lib.hid (HZwV.out.below hb9 HZwV.out.lt)
          have HNw9 := Lib.hid (HNwV.out.below hb9 HNwV.out.lt)
          obtain ⟨m0, m1, m2, m3, m4, m5, m6, m7, m8, m9⟩ := HNw9.out.t10
          obtain ⟨z0, z1, z2, z3, z4, z5, z6, z7, z8, z9⟩ := HZw9.out.t10
          have zf := HZw9.out.frozen
          clear hb9
          cases hv : nVal ⟨1, -1, rnum [b2], 0, 1, rnum (wrd (x :: r) 2), 0, 0, 0, 0⟩ with
          | true =>
            have HE : Hid (rNext (x :: r) = (⟨1, -1, rnum [b2], 0, 1, rnum (wrd (x :: r) 2), 0, 0, 0, 0⟩, 3)) := by show _ = _; rw [HC.out, hv]; rfl
            clear hv
            go_wp2_with fail
            exact bodyPost_ret (res_note_b (t := 2) (u := 3) rfl _ _ _ _ _ rfl rfl rfl (HZw9.out.set10 rfl)) rfl ⟨by rw [HE.out]; rfl, below10 HBw9.out (Nat.le_refl _)⟩
          | false =>
            have HE : Hid (rNext (x :: r) = (zeroN, 0)) := by show _ = _; rw [HC.out, hv]; rfl
            clear hv
            go_wp2_with fail
            exact bodyPost_ret (res_note_b (t := 2) (u := 3) rfl _ _ _ _ _ rfl rfl rfl (HZw9.out.set10 rfl)) rfl ⟨by rw [HE.out]; rfl, below10 HBw9.out (Nat.le_refl _)⟩
        · have v1 : ((nbs (wrd (x :: r) 1)).toList == [111, 112, 101, 110, 115]) = false := by rw [nbs_list]; exact beq_eq_false_iff_ne.2 s1
          have u1 : ((nbs (wrd (x :: r) 1)).toList == [116, 105, 103, 104, 116, 101, 110, 115]) = false := by rw [nbs_list]; exact beq_eq_false_iff_ne.2 t1
          have H2 : Hid (tokI wOpens wTightens (wrd (x :: r) 1) = 0) := tokI_c s1 t1
          have HC : Hid (rNext (x :: r) = if nVal ⟨1, -1, rnum [b2], 0, 0, 0, 0, 0, 0, 0⟩ = true then (⟨1, -1, rnum [b2], 0, 0, 0, 0, 0, 0, 0⟩, 1) else (zeroN, 0)) := by
            show _ = _
            rw [HE0.out, rCor_leaf (lo := 0) (ch := 0) H1.out H2.out, HX.out]
            rfl
          clear s1 t1
          obtain ⟨m0, m1, m2, m3, m4, m5, m6, m7, m8, m9⟩ := HNwN.out.t10
          go_wp2_with fail
          refine (rvalid_any 1 (-1) (rnum [b2]) 0 0 0 0 0 0 0 _).mono ?_
          rintro e w9 ⟨rfl, hb9⟩
          clear m0 m1 m2 m3 m4 m5 m6 m7 m8 m9
          have HBw9 := Lib.hid (HBwN.out.trans (hb9.mono HBwN.out.size))
          have HZw9 := Lib.hid (HZwN.out.below hb9 HZwN.out.lt)
          have HNw9 := Lib.hid (HNwN.out.below hb9 HNwN.out.lt)
          obtain ⟨m0, m1, m2, m3, m4, m5, m6, m7, m8, m9⟩ := HNw9.out.t10
          obtain ⟨z0, z1, z2, z3, z4, z5, z6, z7, z8, z9⟩ := HZw9.out.t10
          have zf := HZw9.out.frozen
          clear hb9
          cases hv : nVal ⟨1, -1, rnum [b2], 0, 0, 0, 0, 0, 0, 0⟩ with
          | true =>
            have HE : Hid (rNext (x :: r) = (⟨1, -1, rnum [b2], 0, 0, 0, 0, 0, 0, 0⟩, 1)) := by show _ = _; rw [HC.out, hv]; rfl
            clear hv
            go_wp2_with fail
            exact bodyPost_ret (res_note_b (t := 2) (u := 3) rfl _ _ _ _ _ rfl rfl rfl (HZw9.out.set10 rfl)) rfl ⟨by rw [HE.out]; rfl, below10 HBw9.out (Nat.le_refl _)⟩
          | false =>
            have HE : Hid (rNext (x :: r) = (zeroN, 0)) := by show _ = _; rw [HC.out, hv]; rfl
            clear hv
            go_wp2_with fail
            exact bodyPost_ret (res_note_b (t := 2) (u := 3) rfl _ _ _ _ _ rfl rfl rfl (HZw9.out.set10 rfl)) rfl ⟨by rw [HE.out]; rfl, below10 HBw9.out (Nat.le_refl _)⟩
set_option maxRecDepth 100000 in
set_option maxHeartbeats 4000000 in
theorem rnext_R (x : Wd) (hn : 0 < n) (hb0 : b < w.heap.size) (h0 : w.cell? ⟨b, off, none⟩ = some (.string (nbs x))) (hS : SL tC 1 w w.heap.size (some ⟨b, off, none⟩) n (x :: r)) (hl : ∀ y ∈ x :: r, y.length ≤ 1000000) (ht : Lib.TabIs Tryz.prog w pow10N .u64 Lib.pow10Tab) (hx : x = [82, b2]) :
    Calls Tryz.prog 46 #[.slice (some ⟨b, off, none⟩) n c] w (RNx w (rNext (x :: r))) := by
  have hn1 : (0 : Int) < (n : Int) := by omega
  have HS := Lib.hid hS
  have HL := Lib.hid (wrd_le hl)
  have HT := Lib.hid ht
  clear hS hl ht
  have c0 : ¬ x = wInto := by rw [hx]; simp [wInto]
  have c1 : ¬ x = wAnd := by rw [hx]; simp [wAnd]
  have c2 : ¬ x = wCrest := by rw [hx]; simp [wCrest]
  have c3 : ¬ x = wJump := by rw [hx]; simp [wJump]
  have c4 : ¬ x = wBigjump := by rw [hx]; simp [wBigjump]
  have c5 : ¬ x = [33] := by rw [hx]; simp
  have c6 : ¬ x = [33, 33] := by rw [hx]; simp
  have c7 : ¬ x = [33, 33, 33] := by rw [hx]; simp
  have c8 : ¬ x = wJunction := by rw [hx]; simp [wJunction]
  have HR := Lib.hid (rNext_9 r c0 c1 c2 c3 c4 c5 c6 c7 c8)
  have f0 : ((nbs x).toList == [105, 110, 116, 111]) = false := by rw [nbs_list]; exact beq_eq_false_iff_ne.2 c0
  have f1 : ((nbs x).toList == [97, 110, 100]) = false := by rw [nbs_list]; exact beq_eq_false_iff_ne.2 c1
  have f2 : ((nbs x).toList == [99, 114, 101, 115, 116]) = false := by rw [nbs_list]; exact beq_eq_false_iff_ne.2 c2
  have f3 : ((nbs x).toList == [106, 117, 109, 112]) = false := by rw [nbs_list]; exact beq_eq_false_iff_ne.2 c3
  have f4 : ((nbs x).toList == [98, 105, 103, 106, 117, 109, 112]) = false := by rw [nbs_list]; exact beq_eq_false_iff_ne.2 c4
  have f5 : ((nbs x).toList == [33]) = false := by rw [nbs_list]; exact beq_eq_false_iff_ne.2 c5
  have f6 : ((nbs x).toList == [33, 33]) = false := by rw [nbs_list]; exact beq_eq_false_iff_ne.2 c6
  have f7 : ((nbs x).toList == [33, 33, 33]) = false := by rw [nbs_list]; exact beq_eq_false_iff_ne.2 c7
  have f8 : ((nbs x).toList == [106, 117, 110, 99, 116, 105, 111, 110]) = false := by rw [nbs_list]; exact beq_eq_false_iff_ne.2 c8
  have h0r : rnum x = 0 := rnum_none (lr_numB (by rw [hx]; simp))
  have HV : Hid (nVal ⟨2, 0, 0, 0, 0, 0, rnum x, 0, 0, 0⟩ = false) := by show _ = _; rw [h0r]; decide
  have HE0 : Hid (rNext (x :: r) = rCor x (x :: r)) := by show _ = _; rw [HR.out, h0r, if_neg (by decide), if_pos ⟨by rw [hx]; rfl, by rw [hx]; simp⟩]
  have HX := Lib.hid hx
  have hsz : ((nbs x).size : Int) = 2 := by rw [nbs_size, hx]; rfl
  have hix : ∀ w : World, (Instr.index 9 (.string (nbs x)) (.int .i64 0)).run Tryz.prog w = .ok (.int .u8 82) w := fun w => by rw [hx]; exact nbs_idx0 82 [b2] w
  have hst : ∀ w : World, (Instr.slice 9 (.string (nbs x)) (some (.int .i64 1)) none none).run Tryz.prog w = .ok (.string (nbs [b2])) w := fun w => by rw [hx]; exact run_strtail 82 [b2] w
  clear hx h0r HR
  clear c0 c1 c2 c3 c4 c5 c6 c7 c8
  go_enter Tryz.func46, Tryz.ntmps46
  go_wp2_with fail
  obtain ⟨wA, hwA⟩ : ∃ wA, wA = w.alloc (.cells #[.int .i64 0, .int .i64 0, .int .i64 0, .int .i64 0, .int .i64 0, .int .i64 0, .int .i64 0, .int .i64 0, .int .i64 0, .int .i64 0] 36) := ⟨_, rfl⟩
  have HBA : Hid (Below w.heap.size w wA) := by show Below _ _ _; rw [hwA]; exact (Below.refl _ _).alloc (Nat.le_refl _) _
  have HZA : Hid (BK wA w.heap.size 36 #[.int .i64 0, .int .i64 0, .int .i64 0, .int .i64 0, .int .i64 0, .int .i64 0, .int .i64 0, .int .i64 0, .int .i64 0, .int .i64 0]) := by show BK _ _ _ _; rw [hwA]; exact BK.new _ _ _
  have HSA := Lib.hid (HS.out.grow HBA.out HBA.out.size)
  have HTA := Lib.hid (pow10_stays HT.out HBA.out (Nat.le_refl _))
  rw [← hwA]
  clear hwA
  refine (rnum_any x (HL.out 0) _ HTA.out).mono ?_
  rintro e w1 ⟨rfl, hb1⟩
  have HB1 := Lib.hid (HBA.out.trans (hb1.mono HBA.out.size))
  have HZ1 := Lib.hid (HZA.out.below hb1 HZA.out.lt)
  have HS1 := Lib.hid (HSA.out.grow hb1 hb1.size)
  clear hb1 HZA HSA HTA HBA
  go_wp2_with fail
  obtain ⟨wC, hwwC⟩ : ∃ v, v = w1.alloc (.cells #[.int .i64 2, .int .i64 0, .int .i64 0, .int .i64 0, .int .i64 0, .int .i64 0, .int .i64 (rnum x), .int .i64 0, .int .i64 0, .int .i64 0] 36) := ⟨_, rfl⟩
  have HNwC : Hid (BK wC w1.heap.size 36 #[.int .i64 2, .int .i64 0, .int .i64 0, .int .i64 0, .int .i64 0, .int .i64 0, .int .i64 (rnum x), .int .i64 0, .int .i64 0, .int .i64 0]) := by show BK _ _ _ _; rw [hwwC]; exact BK.new _ _ _
  have hqwC : Below w1.heap.size w1 wC := by rw [hwwC]; exact (Below.refl _ _).alloc (Nat.le_refl _) _
  have HBwC := Lib.hid (HB1.out.trans (hqwC.mono HB1.out.size))
  have HZwC := Lib.hid (HZ1.out.below hqwC HZ1.out.lt)
  have HSwC := Lib.hid (HS1.out.grow hqwC hqwC.size)
  rw [← hwwC]
  clear hwwC hqwC
  refine (rvalid_any 2 0 0 0 0 0 (rnum x) 0 0 0 _).mono ?_
  rintro e w4 ⟨rfl, hb4⟩
  rw [HV.out]
  have HBw4 := Lib.hid (HBwC.out.trans (hb4.mono HBwC.out.size))
  have HZw4 := Lib.hid (HZwC.out.below hb4 HZwC.out.lt)
  have HNw4 := Lib.hid (HNwC.out.below hb4 HNwC.out.lt)
  obtain ⟨m0, m1, m2, m3, m4, m5, m6, m7, m8, m9⟩ := HNw4.out.t10
  obtain ⟨z0, z1, z2, z3, z4, z5, z6, z7, z8, z9⟩ := HZw4.out.t10
  have zf := HZw4.out.frozen
  have HS4 := Lib.hid (HSwC.out.grow hb4 hb4.size)
  have HT4 := Lib.hid (pow10_stays HT.out HBw4.out (Nat.le_refl _))
  clear hb4 HNwC HBwC HZwC HSwC
  go_wp2_with fail
  refine (rnum_any [b2] (by simp) _ HT4.out).mono ?_
  rintro e w5 ⟨rfl, hb5⟩
  have HB5 := Lib.hid (HBw4.out.trans (hb5.mono HBw4.out.size))
  have HZ5 := Lib.hid (HZw4.out.below hb5 HZw4.out.lt)
  have HS5 := Lib.hid (HS4.out.grow hb5 hb5.size)
  clear hb5 HS4 HT4 HBw4 HNw4 HZw4 m0 m1 m2 m3 m4 m5 m6 m7 m8 m9 z0 z1 z2 z3 z4 z5 z6 z7 z8 z9 zf
  go_wp2_with fail
  obtain ⟨wN, hwwN⟩ : ∃ v, v = w5.alloc (.cells #[.int .i64 1, .int .i64 1, .int .i64 (rnum [b2]), .int .i64 0, .int .i64 0, .int .i64 0, .int .i64 0, .int .i64 0, .int .i64 0, .int .i64 0] 36) := ⟨_, rfl⟩
  have HNwN : Hid (BK wN w5.heap.size 36 #[.int .i64 1, .int .i64 1, .int .i64 (rnum [b2]), .int .i64 0, .int .i64 0, .int .i64 0, .int .i64 0, .int .i64 0, .int .i64 0, .int .i64 0]) := by show BK _ _ _ _; rw [hwwN]; exact BK.new _ _ _
  have hqwN : Below w5.heap.size w5 wN := by rw [hwwN]; exact (Below.refl _ _).alloc (Nat.le_refl _) _
  have HBwN := Lib.hid (HB5.out.trans (hqwN.mono HB5.out.size))
  have HZwN := Lib.hid (HZ5.out.below hqwN HZ5.out.lt)
  have HSwN := Lib.hid (HS5.out.grow hqwN hqwN.size)
  rw [← hwwN]
  clear hwwN hqwN
  have HTN := Lib.hid (pow10_stays HT.out HBwN.out (Nat.le_refl _))
  obtain ⟨m0, m1, m2, m3, m4, m5, m6, m7, m8, m9⟩ := HNwN.out.t10
  have mf := HNwN.out.frozen
  have hne : w.heap.size ≠ w5.heap.size := Nat.ne_of_lt HZ5.out.lt
  have hle : w.heap.size ≤ w5.heap.size := HB5.out.size
  have HNE := Lib.hid hne
  have HLE := Lib.hid hle
  clear hne hle HZ5 HB5 HS5 hix hst hsz HV
  refine (rword_any _ n c (x :: r) 1 _ HSwN.out).mono ?_
  rintro e _ ⟨rfl, rfl⟩
  by_cases q1 : wrd (x :: r) 1 = wShort
  · have e1 : (nbs (wrd (x :: r) 1)).toList = [115, 104, 111, 114, 116] := by rw [nbs_list]; exact q1
    have H1 : Hid (tokI wShort wLong (wrd (x :: r) 1) = -1) := tokI_a q1
    clear q1
    go_wp2_with fail
    obtain ⟨wM, hwwM⟩ : ∃ v, v = wN.setCell ⟨w5.heap.size, 3, none⟩ (.int .i64 (-1)) := ⟨_, rfl⟩
    have HNwM : Hid (BK wM w5.heap.size 36 #[.int .i64 1, .int .i64 1, .int .i64 (rnum [b2]), .int .i64 (-1), .int .i64 0, .int .i64 0, .int .i64 0, .int .i64 0, .int .i64 0, .int .i64 0]) := by show BK _ _ _ _; rw [hwwM]; exact HNwN.out.set_ 3 _
    have HZwM : Hid (BK wM w.heap.size 36 #[.int .i64 0, .int .i64 0, .int .i64 0, .int .i64 0, .int .i64 0, .int .i64 0, .int .i64 0, .int .i64 0, .int .i64 0, .int .i64 0]) := by show BK _ _ _ _; rw [hwwM]; exact HZwN.out.far (p := ⟨w5.heap.size, 3, none⟩) HNE.out _
    have HBwM : Hid (Below w.heap.size w wM) := by show Below _ _ _; rw [hwwM]; exact HBwN.out.setCell (p := ⟨w5.heap.size, 3, none⟩) HLE.out _
    have HSwM := Lib.hid (HS.out.grow HBwM.out HBwM.out.size)
    have HTwM := Lib.hid (pow10_stays HT.out HBwM.out (Nat.le_refl _))
    rw [← hwwM]
    clear hwwM m0 m1 m2 m3 m4 m5 m6 m7 m8 m9 mf e1
    refine (rword_any _ n c (x :: r) 2 _ HSwM.out).mono ?_
    rintro e _ ⟨rfl, rfl⟩
    by_cases s2 : wrd (x :: r) 2 = wOpens
    · have u2 : (nbs (wrd (x :: r) 2)).toList = [111, 112, 101, 110, 115] := by rw [nbs_list]; exact s2
      have H2 : Hid (tokI wOpens wTightens (wrd (x :: r) 2) = -1) := tokI_a s2
      have HC : Hid (rNext (x :: r) = if nVal ⟨1, 1, rnum [b2], -1, -1, rnum (wrd (x :: r) 3), 0, 0, 0, 0⟩ = true then (⟨1, 1, rnum [b2], -1, -1, rnum (wrd (x :: r) 3), 0, 0, 0, 0⟩, 4) else (zeroN, 0)) := by
        show _ = _
        rw [HE0.out, rCor_leaf (lo := -1) (ch := -1) H1.out H2.out, HX.out]
        rfl
      clear s2
      go_wp2_with fail
      refine (rword_any _ n c (x :: r) 3 _ HSwM.out).mono ?_
      rintro e _ ⟨rfl, rfl⟩
      go_wp2_with fail
      refine (rnum_any _ (HL.out 3) _ HTwM.out).mono ?_
      rintro e w6 ⟨rfl, hb6⟩
      have HBw6 := Lib.hid (HBwM.out.trans (hb6.mono HBwM.out.size))
      have HZw6 := Lib.hid (HZwM.out.below hb6 HZwM.out.lt)
      have HNw6 := Lib.hid (HNwM.out.below hb6 HNwM.out.lt)
      obtain ⟨m0, m1, m2, m3, m4, m5, m6, m7, m8, m9⟩ := HNw6.out.t10
      have mf := HNw6.out.frozen
      clear hb6
      go_wp2_with fail
      clear m0 m1 m2 m3 m4 m5 m6 m7 m8 m9 mf
      obtain ⟨wV, hwwV⟩ : ∃ v, v = ((w6.setCell ⟨w5.heap.size, 4, none⟩ (.int .i64 (-1))).setCell ⟨w5.heap.size, 5, none⟩ (.int .i64 (rnum (wrd (x :: r) 3)))) := ⟨_, rfl⟩
      have HNwV : Hid (BK wV w5.heap.size 36 #[.int .i64 1, .int .i64 1, .int .i64 (rnum [b2]), .int .i64 (-1), .int .i64 (-1), .int .i64 (rnum (wrd (x :: r) 3)), .int .i64 0, .int .i64 0, .int .i64 0, .int .i64 0]) := by show BK _ _ _ _; rw [hwwV]; exact (HNw6.out.set_ 4 _).set_ 5 _
      have HZwV : Hid (BK wV w.heap.size 36 #[.int .i64 0, .int .i64 0, .int .i64 0, .int .i64 0, .int .i64 0, .int .i64 0, .int .i64 0, .int .i64 0, .int .i64 0, .int .i64 0]) := by show BK _ _ _ _; rw [hwwV]; exact (HZw6.out.far (p := ⟨w5.heap.size, 4, none⟩) HNE.out _).far (p := ⟨w5.heap.size, 5, none⟩) HNE.out _
      have HBwV : Hid (Below w.heap.size w wV) := by show Below _ _ _; rw [hwwV]; exact (HBw6.out.setCell (p := ⟨w5.heap.size, 4, none⟩) HLE.out _).setCell (p := ⟨w5.heap.size, 5, none⟩) HLE.out _
      rw [← hwwV]
      clear hwwV
      refine (rvalid_any 1 1 (rnum [b2]) (-1) (-1) (rnum (wrd (x :: r) 3)) 0 0 0 0 _).mono ?_
      rintro e w9 ⟨rfl, hb9⟩
      have HBw9 := Lib.hid (HBwV.out.trans (hb9.mono HBwV.out.size))
      have HZw9 := Lib.hid (HZwV.out.below hb9 HZwV.out.lt)
      have HNw9 := Lib.hid (HNwV.out.below hb9 HNwV.out.lt)
      obtain ⟨m0, m1, m2, m3, m4, m5, m6, m7, m8, m9⟩ := HNw9.out.t10
      obtain ⟨z0, z1, z2, z3, z4, z5, z6, z7, z8, z9⟩ := HZw9.out.t10
      have zf := HZw9.out.frozen
      clear hb9
      cases hv : nVal ⟨1, 1, rnum [b2], -1, -1, rnum (wrd (x :: r) 3), 0, 0, 0, 0⟩ with
      | true =>
        have HE : Hid (rNext (x :: r) = (⟨1, 1, rnum [b2], -1, -1, rnum (wrd (x :: r) 3), 0, 0, 0, 0⟩, 4)) := by show _ = _; rw [HC.out, hv]; rfl
        clear hv
        go_wp2_with fail
        exact bodyPost_ret (res_note_b (t := 2) (u := 3) rfl _ _ _ _ _ rfl rfl rfl (HZw9.out.set10 rfl)) rfl ⟨by rw [HE.out]; rfl, below10 HBw9.out (Nat.le_refl _)⟩
      | false =>
        have HE : Hid (rNext (x :: r) = (zeroN, 0)) := by show _ = _; rw [HC.out, hv]; rfl
        clear hv
        go_wp2_with fail
        exact bodyPost_ret (res_note_b (t := 2) (u := 3) rfl _ _ _ _ _ rfl rfl rfl (HZw9.out.set10 rfl)) rfl ⟨by rw [HE.out]; rfl, below10 HBw9.out (Nat.le_refl _)⟩
    · by_cases t2 : wrd (x :: r) 2 = wTightens
      · have u2 : (nbs (wrd (x :: r) 2)).toList = [116, 105, 103, 104, 116, 101, 110, 115] := by rw [nbs_list]; exact t2
        have H2 : Hid (tokI wOpens wTightens (wrd (x :: r) 2) = 1) := tokI_b s2 t2
        have HC : Hid (rNext (x :: r) = if nVal ⟨1, 1, rnum [b2], -1, 1, rnum (wrd (x :: r) 3), 0, 0, 0, 0⟩ = true then (⟨1, 1, rnum [b2], -1, 1, rnum (wrd (x :: r) 3), 0, 0, 0, 0⟩, 4) else (zeroN, 0)) := by
          show _ = _
          rw [HE0.out, rCor_leaf (lo := -1) (ch := 1) H1.out H2.out, HX.out]
          rfl
        clear s2 t2
        go_wp2_with fail
        refine (rword_any _ n c (x :: r) 3 _ HSwM.out).mono ?_
        rintro e _ ⟨rfl, rfl⟩
        go_wp2_with fail
        refine (rnum_any _ (HL.out 3) _ HTwM.out).mono ?_
        rintro e w6 ⟨rfl, hb6⟩
        have HBw6 := Lib.hid (HBwM.out.trans (hb6.mono HBwM.out.size))
        have HZw6 := Lib.hid (HZwM.out.below hb6 HZwM.out.lt)
        have HNw6 := Lib.hid (HNwM.out.below hb6 HNwM.out.lt)
        obtain ⟨m0, m1, m2, m3, m4, m5, m6, m7, m8, m9⟩ := HNw6.out.t10
        have mf := HNw6.out.frozen
        clear hb6
        go_wp2_with fail
        clear m0 m1 m2 m3 m4 m5 m6 m7 m8 m9 mf
        obtain ⟨wV, hwwV⟩ : ∃ v, v = ((w6.setCell ⟨w5.heap.size, 4, none⟩ (.int .i64 1)).setCell ⟨w5.heap.size, 5, none⟩ (.int .i64 (rnum (wrd (x :: r) 3)))) := ⟨_, rfl⟩
        have HNwV : Hid (BK wV w5.heap.size 36 #[.int .i64 1, .int .i64 1, .int .i64 (rnum [b2]), .int .i64 (-1), .int .i64 1, .int .i64 (rnum (wrd (x :: r) 3)), .int .i64 0, .int .i64 0, .int .i64 0, .int .i64 0]) := by show BK _ _ _ _; rw [hwwV]; exact (HNw6.out.set_ 4 _).set_ 5 _
        have HZwV : Hid (BK wV w.heap.size 36 #[.int .i64 0, .int .i64 0, .int .i64 0, .int .i64 0, .int .i64 0, .int .i64 0, .int .i64 0, .int .i64 0, .int .i64 0, .int .i64 0]) := by show BK _ _ _ _; rw [hwwV]; exact (HZw6.out.far (p := ⟨w5.heap.size, 4, none⟩) HNE.out _).far (p := ⟨w5.heap.size, 5, none⟩) HNE.out _
        have HBwV : Hid (Below w.heap.size w wV) := by show Below _ _ _; rw [hwwV]; exact (HBw6.out.setCell (p := ⟨w5.heap.size, 4, none⟩) HLE.out _).setCell (p := ⟨w5.heap.size, 5, none⟩) HLE.out _
        rw [← hwwV]
        clear hwwV
        refine (rvalid_any 1 1 (rnum [b2]) (-1) 1 (rnum (wrd (x :: r) 3)) 0 0 0 0 _).mono ?_
        rintro e w9 ⟨rfl, hb9⟩
        have HBw9 := Lib.hid (HBwV.out.trans (hb9.mono HBwV.out.size))
        have HZw9 := Lib.hid (HZwV.out.below hb9 HZwV.out.lt)
        have HNw9 := Lib.hid (HNwV.out.below hb9 HNwV.out.lt)
        obtain ⟨m0, m1, m2, m3, m4, m5, m6, m7, m8, m9⟩ := HNw9.out.t10
        obtain ⟨z0, z1, z2, z3, z4, z5, z6, z7, z8, z9⟩ := HZw9.out.t10
        have zf := HZw9.out.frozen
        clear hb9
        cases hv : nVal ⟨1, 1, rnum [b2], -1, 1, rnum (wrd (x :: r) 3), 0, 0, 0, 0⟩ with
        | true =>
          have HE : Hid (rNext (x :: r) = (⟨1, 1, rnum [b2], -1, 1, rnum (wrd (x :: r) 3), 0, 0, 0, 0⟩, 4)) := by show _ = _; rw [HC.out, hv]; rfl
          clear hv
          go_wp2_with fail
          exact bodyPost_ret (res_note_b (t := 2) (u := 3) rfl _ _ _ _ _ rfl rfl rfl (HZw9.out.set10 rfl)) rfl ⟨by rw [HE.out]; rfl, below10 HBw9.out (Nat.le_refl _)⟩
        | false =>
          have HE : Hid (rNext (x :: r) = (zeroN, 0)) := by show _ = _; rw [HC.out, hv]; rfl
          clear hv
          go_wp2_with fail
          exact bodyPost_ret (res_note_b (t := 2) (u := 3) rfl _ _ _ _ _ rfl rfl rfl (HZw9.out.set10 rfl)) rfl ⟨by rw [HE.out]; rfl, below10 HBw9.out (Nat.le_refl _)⟩
      · have v2 : ((nbs (wrd (x :: r) 2)).toList == [111, 112, 101, 110, 115]) = false := by rw [nbs_list]; exact beq_eq_false_iff_ne.2 s2
        have u2 : ((nbs (wrd (x :: r) 2)).toList == [116, 105, 103, 104, 116, 101, 110, 115]) = false := by rw [nbs_list]; exact beq_eq_false_iff_ne.2 t2
        have H2 : Hid (tokI wOpens wTightens (wrd (x :: r) 2) = 0) := tokI_c s2 t2
        have HC : Hid (rNext (x :: r) = if nVal ⟨1, 1, rnum [b2], -1, 0, 0, 0, 0, 0, 0⟩ = true then (⟨1, 1, rnum [b2], -1, 0, 0, 0, 0, 0, 0⟩, 2) else (zeroN, 0)) := by
          show _ = _
          rw [HE0.out, rCor_leaf (lo := -1) (ch := 0) H1.out H2.out, HX.out]
          rfl
        clear s2 t2
        obtain ⟨m0, m1, m2, m3, m4, m5, m6, m7, m8, m9⟩ := HNwM.out.t10
        go_wp2_with fail
        refine (rvalid_any 1 1 (rnum [b2]) (-1) 0 0 0 0 0 0 _).mono ?_
        rintro e w9 ⟨rfl, hb9⟩
        clear m0 m1 m2 m3 m4 m5 m6 m7 m8 m9
        have HBw9 := Lib.hid (HBwM.out.trans (hb9.mono HBwM.out.size))
        have HZw9 := Lib.hid (HZwM.out.below hb9 HZwM.out.lt)
        have HNw9 := Lib.hid (HNwM.out.below hb9 HNwM.out.lt)
        obtain ⟨m0, m1, m2, m3, m4, m5, m6, m7, m8, m9⟩ := HNw9.out.t10
        obtain ⟨z0, z1, z2, z3, z4, z5, z6, z7, z8, z9⟩ := HZw9.out.t10
        have zf := HZw9.out.frozen
        clear hb9
        cases hv : nVal ⟨1, 1, rnum [b2], -1, 0, 0, 0, 0, 0, 0⟩ with
        | true =>
          have HE : Hid (rNext (x :: r) = (⟨1, 1, rnum [b2], -1, 0, 0, 0, 0, 0, 0⟩, 2)) := by show _ = _; rw [HC.out, hv]; rfl
          clear hv
          go_wp2_with fail
          exact bodyPost_ret (res_note_b (t := 2) (u := 3) rfl _ _ _ _ _ rfl rfl rfl (HZw9.out.set10 rfl)) rfl ⟨by rw [HE.out]; rfl, below10 HBw9.out (Nat.le_refl _)⟩
        | false =>
          have HE : Hid (rNext (x :: r) = (zeroN, 0)) := by show _ = _; rw [HC.out, hv]; rfl
          clear hv
          go_wp2_with fail
          exact bodyPost_ret (res_note_b (t := 2) (u := 3) rfl _ _ _ _ _ rfl rfl rfl (HZw9.out.set10 rfl)) rfl ⟨by rw [HE.out]; rfl, below10 HBw9.out (Nat.le_refl _)⟩
  · by_cases p1 : wrd (x :: r) 1 = wLong
    · have e1 : (nbs (wrd (x :: r) 1)).toList = [108, 111, 110, 103] := by rw [nbs_list]; exact p1
      have H1 : Hid (tokI wShort wLong (wrd (x :: r) 1) = 1) := tokI_b q1 p1
      clear q1 p1
      go_wp2_with fail
      obtain ⟨wM, hwwM⟩ : ∃ v, v = wN.setCell ⟨w5.heap.size, 3, none⟩ (.int .i64 1) := ⟨_, rfl⟩
      have HNwM : Hid (BK wM w5.heap.size 36 #[.int .i64 1, .int .i64 1, .int .i64 (rnum [b2]), .int .i64 1, .int .i64 0, .int .i64 0, .int .i64 0, .int .i64 0, .int .i64 0, .int .i64 0]) := by show BK _ _ _ _; rw [hwwM]; exact HNwN.out.set_ 3 _
      have HZwM : Hid (BK wM w.heap.size 36 #[.int .i64 0, .int .i64 0, .int .i64 0, .int .i64 0, .int .i64 0, .int .i64 0, .int .i64 0, .int .i64 0, .int .i64 0, .int .i64 0]) := by show BK _ _ _ _; rw [hwwM]; exact HZwN.out.far (p := ⟨w5.heap.size, 3, none⟩) HNE.out _
      have HBwM : Hid (Below w.heap.size w wM) := by show Below _ _ _; rw [hwwM]; exact HBwN.out.setCell (p := ⟨w5.heap.size, 3, none⟩) HLE.out _
      have HSwM := Lib.hid (HS.out.grow HBwM.out HBwM.out.size)
      have HTwM := Lib.hid (pow10_stays HT.out HBwM.out (Nat.le_refl _))
      rw [← hwwM]
      clear hwwM m0 m1 m2 m3 m4 m5 m6 m7 m8 m9 mf e1
      refine (rword_any _ n c (x :: r) 2 _ HSwM.out).mono ?_
      rintro e _ ⟨rfl, rfl⟩
      by_cases s2 : wrd (x :: r) 2 = wOpens
      · have u2 : (nbs (wrd (x :: r) 2)).toList = [111, 112, 101, 110, 115] := by rw [nbs_list]; exact s2
        have H2 : Hid (tokI wOpens wTightens (wrd (x :: r) 2) = -1) := tokI_a s2
        have HC : Hid (rNext (x :: r) = if nVal ⟨1, 1, rnum [b2], 1, -1, rnum (wrd (x :: r) 3), 0, 0, 0, 0⟩ = true then (⟨1, 1, rnum [b2], 1, -1, rnum (wrd (x :: r) 3), 0, 0, 0, 0⟩, 4) else (zeroN, 0)) := by
          show _ = _
          rw [HE0.out, rCor_leaf (lo := 1) (ch := -1) H1.out H2.out, HX.out]
          rfl
        clear s2
        go_wp2_with fail
        refine (rword_any _ n c (x :: r) 3 _ HSwM.out).mono ?_
        rintro e _ ⟨rfl, rfl⟩
        go_wp2_with fail
        refine (rnum_any _ (HL.out 3) _ HTwM.out).mono ?_
        rintro e w6 ⟨rfl, hb6⟩
        have HBw6 := Lib.hid (HBwM.out.trans (hb6.mono HBwM.out.size))
        have HZw6 := Lib.hid (HZwM.out.below hb6 HZwM.out.lt)
        have HNw6 := Lib.hid (HNwM.out.below hb6 HNwM.out.lt)
        obtain ⟨m0, m1, m2, m3, m4, m5, m6, m7, m8, m9⟩ := HNw6.out.t10
        have mf := HNw6.out.frozen
        clear hb6
        go_wp2_with fail
        clear m0 m1 m2 m3 m4 m5 m6 m7 m8 m9 mf
        obtain ⟨wV, hwwV⟩ : ∃ v, v = ((w6.setCell ⟨w5.heap.size, 4, none⟩ (.int .i64 (-1))).setCell ⟨w5.heap.size, 5, none⟩ (.int .i64 (rnum (wrd (x :: r) 3)))) := ⟨_, rfl⟩
        have HNwV : Hid (BK wV w5.heap.size 36 #[.int .i64 1, .int .i64 1, .int .i64 (rnum [b2]), .int .i64 1, .int .i64 (-1), .int .i64 (rnum (wrd (x :: r) 3)), .int .i64 0, .int .i64 0, .int .i64 0, .int .i64 0]) := by show BK _ _ _ _; rw [hwwV]; exact (HNw6.out.set_ 4 _).set_ 5 _
        have HZwV : Hid (BK wV w.heap.size 36 #[.int .i64 0, .int .i64 0, .int .i64 0, .int .i64 0, .int .i64 0, .int .i64 0, .int .i64 0, .int .i64 0, .int .i64 0, .int .i64 0]) := by show BK _ _ _ _; rw [hwwV]; exact (HZw6.out.far (p := ⟨w5.heap.size, 4, none⟩) HNE.out _).far (p := ⟨w5.heap.size, 5, none⟩) HNE.out _
        have HBwV : Hid (Below w.heap.size w wV) := by show Below _ _ _; rw [hwwV]; exact (HBw6.out.setCell (p := ⟨w5.heap.size, 4, none⟩) HLE.out _).setCell (p := ⟨w5.heap.size, 5, none⟩) HLE.out _
        rw [← hwwV]
        clear hwwV
        refine (rvalid_any 1 1 (rnum [b2]) 1 (-1) (rnum (wrd (x :: r) 3)) 0 0 0 0 _).mono ?_
        rintro e w9 ⟨rfl, hb9⟩
        have HBw9 := Lib.hid (HBwV.out.trans (hb9.mono HBwV.out.size))
        have HZw9 := Lib.hid (HZwV.out.below hb9 HZwV.out.lt)
        have HNw9 := Lib.hid (HNwV.out.below hb9 HNwV.out.lt)
        obtain ⟨m0, m1, m2, m3, m4, m5, m6, m7, m8, m9⟩ := HNw9.out.t10
        obtain ⟨z0, z1, z2, z3, z4, z5, z6, z7, z8, z9⟩ := HZw9.out.t10
        have zf := HZw9.out.frozen
        clear hb9
        cases hv : nVal ⟨1, 1, rnum [b2], 1, -1, rnum (wrd (x :: r) 3), 0, 0, 0, 0⟩ with
        | true =>
          have HE : Hid (rNext (x :: r) = (⟨1, 1, rnum [b2], 1, -1, rnum (wrd (x :: r) 3), 0, 0, 0, 0⟩, 4)) := by show _ = _; rw [HC.out, hv]; rfl
          clear hv
          go_wp2_with fail
          exact bodyPost_ret (res_note_b (t := 2) (u := 3) rfl _ _ _ _ _ rfl rfl rfl (HZw9.out.set10 rfl)) rfl ⟨by rw [HE.out]; rfl, below10 HBw9.out (Nat.le_refl _)⟩
        | false =>
          have HE : Hid (rNext (x :: r) = (zeroN, 0)) := by show _ = _; rw [HC.out, hv]; rfl
          clear hv
          go_wp2_with fail
          exact bodyPost_ret (res_note_b (t := 2) (u := 3) rfl _ _ _ _ _ rfl rfl rfl (HZw9.out.set10 rfl)) rfl ⟨by rw [HE.out]; rfl, below10 HBw9.out (Nat.le_refl _)⟩
      · by_cases t2 : wrd (x :: r) 2 = wTightens
        · have u2 : (nbs (wrd (x :: r) 2)).toList = [116, 105, 103, 104, 116, 101, 110, 115] := by rw [nbs_list]; exact t2
          have H2 : Hid (tokI wOpens wTightens (wrd (x :: r) 2) = 1) := tokI_b s2 t2
          have HC : Hid (rNext (x :: r) = if nVal ⟨1, 1, rnum [b2], 1, 1, rnum (wrd (x :: r) 3), 0, 0, 0, 0⟩ = true then (⟨1, 1, rnum [b2], 1, 1, rnum (wrd (x :: r) 3), 0, 0, 0, 0⟩, 4) else (zeroN, 0)) := by
            show _ = _
            rw [HE0.out, rCor_leaf (lo := 1) (ch := 1) H1.out H2.out, HX.out]
            rfl
          clear s2 t2
          go_wp2_with fail
          refine (rword_any _ n c (x :: r) 3 _ HSwM.out).mono ?_
          rintro e _ ⟨rfl, rfl⟩
          go_wp2_with fail
          refine (rnum_any _ (HL.out 3) _ HTwM.out).mono ?_
          rintro e w6 ⟨rfl, hb6⟩
          have HBw6 := Lib.hid (HBwM.out.trans (hb6.mono HBwM.out.size))
          have HZw6 := Lib.hid (HZwM.out.below hb6 HZwM.out.lt)
          have HNw6 := Lib.hid (HNwM.out.below hb6 HNwM.out.lt)
          obtain ⟨m0, m1, m2, m3, m4, m5, m6, m7, m8, m9⟩ := HNw6.out.t10
          have mf := HNw6.out.frozen
          clear hb6
          go_wp2_with fail
          clear m0 m1 m2 m3 m4 m5 m6 m7 m8 m9 mf
          obtain ⟨wV, hwwV⟩ : ∃ v, v = ((w6.setCell ⟨w5.heap.size, 4, none⟩ (.int .i64 1)).setCell ⟨w5.heap.size, 5, none⟩ (.int .i64 (rnum (wrd (x :: r) 3)))) := ⟨_, rfl⟩
          have HNwV : Hid (BK wV w5.heap.size 36 #[.int .i64 1, .int .i64 1, .int .i64 (rnum [b2]), .int .i64 1, .int .i64 1, .int .i64 (rnum (wrd (x :: r) 3)), .int .i64 0, .int .i64 0, .int .i64 0, .int .i64 0]) := by show BK _ _ _ _; rw [hwwV]; exact (HNw6.out.set_ 4 _).set_ 5 _
          have HZwV : Hid (BK wV w.heap.size 36 #[.int .i64 0, .int .i64 0, .int .i64 0, .int .i64 0, .int .i64 0, .int .i64 0, .int .i64 0, .int .i64 0, .int .i64 0, .int .i64 0]) := by show BK _ _ _ _; rw [hwwV]; exact (HZw6.out.far (p := ⟨w5.heap.size, 4, none⟩) HNE.out _).far (p := ⟨w5.heap.size, 5, none⟩) HNE.out _
          have HBwV : Hid (Below w.heap.size w wV) := by show Below _ _ _; rw [hwwV]; exact (HBw6.out.setCell (p := ⟨w5.heap.size, 4, none⟩) HLE.out _).setCell (p := ⟨w5.heap.size, 5, none⟩) HLE.out _
          rw [← hwwV]
          clear hwwV
          refine (rvalid_any 1 1 (rnum [b2]) 1 1 (rnum (wrd (x :: r) 3)) 0 0 0 0 _).mono ?_
          rintro e w9 ⟨rfl, hb9⟩
          have HBw9 := Lib.hid (HBwV.out.trans (hb9.mono HBwV.out.size))
          have HZw9 := Lib.hid (HZwV.out.below hb9 HZwV.out.lt)
          have HNw9 := Lib.hid (HNwV.out.below hb9 HNwV.out.lt)
          obtain ⟨m0, m1, m2, m3, m4, m5, m6, m7, m8, m9⟩ := HNw9.out.t10
          obtain ⟨z0, z1, z2, z3, z4, z5, z6, z7, z8, z9⟩ := HZw9.out.t10
          have zf := HZw9.out.frozen
          clear hb9
          cases hv : nVal ⟨1, 1, rnum [b2], 1, 1, rnum (wrd (x :: r) 3), 0, 0, 0, 0⟩ with
          | true =>
            have HE : Hid (rNext (x :: r) = (⟨1, 1, rnum [b2], 1, 1, rnum (wrd (x :: r) 3), 0, 0, 0, 0⟩, 4)) := by show _ = _; rw [HC.out, hv]; rfl
            clear hv
            go_wp2_with fail
            exact bodyPost_ret (res_note_b (t := 2) (u := 3) rfl _ _ _ _ _ rfl rfl rfl (HZw9.out.set10 rfl)) rfl ⟨by rw [HE.out]; rfl, below10 HBw9.out (Nat.le_refl _)⟩
          | false =>
            have HE : Hid (rNext (x :: r) = (zeroN, 0)) := by show _ = _; rw [HC.out, hv]; rfl
            clear hv
            go_wp2_with fail
            exact bodyPost_ret (res_note_b (t := 2) (u := 3) rfl _ _ _ _ _ rfl rfl rfl (HZw9.out.set10 rfl)) rfl ⟨by rw [HE.out]; rfl, below10 HBw9.out (Nat.le_refl _)⟩
        · have v2 : ((nbs (wrd (x :: r) 2)).toList == [111, 112, 101, 110, 115]) = false := by rw [nbs_list]; exact beq_eq_false_iff_ne.2 s2
          have u2 : ((nbs (wrd (x :: r) 2)).toList == [116, 105, 103, 104, 116, 101, 110, 115]) = false := by rw [nbs_list]; exact beq_eq_false_iff_ne.2 t2
          have H2 : Hid (tokI wOpens wTightens (wrd (x :: r) 2) = 0) := tokI_c s2 t2
          have HC : Hid (rNext (x :: r) = if nVal ⟨1, 1, rnum [b2], 1, 0, 0, 0, 0, 0, 0⟩ = true then (⟨1, 1, rnum [b2], 1, 0, 0, 0, 0, 0, 0⟩, 2) else (zeroN, 0)) := by
            show _ = _
            rw [HE0.out, rCor_leaf (lo := 1) (ch := 0) H1.out H2.out, HX.out]
            rfl
          clear s2 t2
          obtain ⟨m0, m1, m2, m3, m4, m5, m6, m7, m8, m9⟩ := HNwM.out.t10
          go_wp2_with fail
          refine (rvalid_any 1 1 (rnum [b2]) 1 0 0 0 0 0 0 _).mono ?_
          rintro e w9 ⟨rfl, hb9⟩
          clear m0 m1 m2 m3 m4 m5 m6 m7 m8 m9
          have HBw9 := Lib.hid (HBwM.out.trans (hb9.mono HBwM.out.size))
          have HZw9 := Lib.hid (HZwM.out.below hb9 HZwM.out.lt)
          have HNw9 := Lib.hid (HNwM.out.below hb9 HNwM.out.lt)
          obtain ⟨m0, m1, m2, m3, m4, m5, m6, m7, m8, m9⟩ := HNw9.out.t10
          obtain ⟨z0, z1, z2, z3, z4, z5, z6, z7, z8, z9⟩ := HZw9.out.t10
          have zf := HZw9.out.frozen
          clear hb9
          cases hv : nVal ⟨1, 1, rnum [b2], 1, 0, 0, 0, 0, 0, 0⟩ with
          | true =>
            have HE : Hid (rNext (x :: r) = (⟨1, 1, rnum [b2], 1, 0, 0, 0, 0, 0, 0⟩, 2)) := by show _ = _; rw [HC.out, hv]; rfl
            clear hv
            go_wp2_with fail
            exact bodyPost_ret (res_note_b (t := 2) (u := 3) rfl _ _ _ _ _ rfl rfl rfl (HZw9.out.set10 rfl)) rfl ⟨by rw [HE.out]; rfl, below10 HBw9.out (Nat.le_refl _)⟩
          | false =>
            have HE : Hid (rNext (x :: r) = (zeroN, 0)) := by show _ = _; rw [HC.out, hv]; rfl
            clear hv
            go_wp2_with fail
            exact bodyPost_ret (res_note_b (t := 2) (u := 3) rfl _ _ _ _ _ rfl rfl rfl (HZw9.out.set10 rfl)) rfl ⟨by rw [HE.out]; rfl, below10 HBw9.out (Nat.le_refl _)⟩
    · have d1 : ((nbs (wrd (x :: r) 1)).toList == [115, 104, 111, 114, 116]) = false := by rw [nbs_list]; exact beq_eq_false_iff_ne.2 q1
      have e1 : ((nbs (wrd (x :: r) 1)).toList == [108, 111, 110, 103]) = false := by rw [nbs_list]; exact beq_eq_false_iff_ne.2 p1
      have H1 : Hid (tokI wShort wLong (wrd (x :: r) 1) = 0) := tokI_c q1 p1
      clear q1 p1
      have HTwN := HTN
      clear m0 m1 m2 m3 m4 m5 m6 m7 m8 m9 mf
      go_wp2_with fail
      clear d1 e1
      refine (rword_any _ n c (x :: r) 1 _ HSwN.out).mono ?_
      rintro e _ ⟨rfl, rfl⟩
      by_cases s1 : wrd (x :: r) 1 = wOpens
      · have u1 : (nbs (wrd (x :: r) 1)).toList = [111, 112, 101, 110, 115] := by rw [nbs_list]; exact s1
        have H2 : Hid (tokI wOpens wTightens (wrd (x :: r) 1) = -1) := tokI_a s1
        have HC : Hid (rNext (x :: r) = if nVal ⟨1, 1, rnum [b2], 0, -1, rnum (wrd (x :: r) 2), 0, 0, 0, 0⟩ = true then (⟨1, 1, rnum [b2], 0, -1, rnum (wrd (x :: r) 2), 0, 0, 0, 0⟩, 3) else (zeroN, 0)) := by
          show _ = _
          rw [HE0.out, rCor_leaf (lo := 0) (ch := -1) H1.out H2.out, HX.out]
          rfl
        clear s1
        go_wp2_with fail
        refine (rword_any _ n c (x :: r) 2 _ HSwN.out).mono ?_
        rintro e _ ⟨rfl, rfl⟩
        go_wp2_with fail
        refine (rnum_any _ (HL.out 2) _ HTwN.out).mono ?_
        rintro e w6 ⟨rfl, hb6⟩
        have HBw6 := Lib.hid (HBwN.out.trans (hb6.mono HBwN.out.size))
        have HZw6 := Lib.hid (HZwN.out.below hb6 HZwN.out.lt)
        have HNw6 := Lib.hid (HNwN.out.below hb6 HNwN.out.lt)
        obtain ⟨m0, m1, m2, m3, m4, m5, m6, m7, m8, m9⟩ := HNw6.out.t10
        have mf := HNw6.out.frozen
        clear hb6
        go_wp2_with fail
        clear m0 m1 m2 m3 m4 m5 m6 m7 m8 m9 mf
        obtain ⟨wV, hwwV⟩ : ∃ v, v = ((w6.setCell ⟨w5.heap.size, 4, none⟩ (.int .i64 (-1))).setCell ⟨w5.heap.size, 5, none⟩ (.int .i64 (rnum (wrd (x :: r) 2)))) := ⟨_, rfl⟩
        have HNwV : Hid (BK wV w5.heap.size 36 #[.int .i64 1, .int .i64 1, .int .i64 (rnum [b2]), .int .i64 0, .int .i64 (-1), .int .i64 (rnum (wrd (x :: r) 2)), .int .i64 0, .int .i64 0, .int .i64 0, .int .i64 0]) := by show BK _ _ _ _; rw [hwwV]; exact (HNw6.out.set_ 4 _).set_ 5 _
        have HZwV : Hid (BK wV w.heap.size 36 #[.int .i64 0, .int .i64 0, .int .i64 0, .int .i64 0, .int .i64 0, .int .i64 0, .int .i64 0, .int .i64 0, .int .i64 0, .int .i64 0]) := by show BK _ _ _ _; rw [hwwV]; exact (HZw6.out.far (p := ⟨w5.heap.size, 4, none⟩) HNE.out _).far (p := ⟨w5.heap.size, 5, none⟩) HNE.out _
        have HBwV : Hid (Below w.heap.size w wV) := by show Below _ _ _; rw [hwwV]; exact (HBw6.out.setCell (p := ⟨w5.heap.size, 4, none⟩) HLE.out _).setCell (p := ⟨w5.heap.size, 5, none⟩) HLE.out _
        rw [← hwwV]
        clear hwwV
        refine (rvalid_any 1 1 (rnum [b2]) 0 (-1) (rnum (wrd (x :: r) 2)) 0 0 0 0 _).mono ?_
        rintro e w9 ⟨rfl, hb9⟩
        have HBw9 := Lib.hid (HBwV.out.trans (hb9.mono HBwV.out.size))
        have HZw9 := Lib.hid (HZwV.out.below hb9 HZwV.out.lt)
        have HNw9 := Lib.hid (HNwV.out.below hb9 HNwV.out.lt)
        obtain ⟨m0, m1, m2, m3, m4, m5, m6, m7, m8, m9⟩ := HNw9.out.t10
        obtain ⟨z0, z1, z2, z3, z4, z5, z6, z7, z8, z9⟩ := HZw9.out.t10
        have zf := HZw9.out.frozen
        clear hb9
        cases hv : nVal ⟨1, 1, rnum [b2], 0, -1, rnum (wrd (x :: r) 2), 0, 0, 0, 0⟩ with
        | true =>
          have HE : Hid (rNext (x :: r) = (⟨1, 1, rnum [b2], 0, -1, rnum (wrd (x :: r) 2), 0, 0, 0, 0⟩, 3)) := by show _ = _; rw [HC.out, hv]; rfl
          clear hv
          go_wp2_with fail
          exact bodyPost_ret (res_note_b (t := 2) (u := 3) rfl _ _ _ _ _ rfl rfl rfl (HZw9.out.set10 rfl)) rfl ⟨by rw [HE.out]; rfl, below10 HBw9.out (Nat.le_refl _)⟩
        | false =>
          have HE : Hid (rNext (x :: r) = (zeroN, 0)) := by show _ = _; rw [HC.out, hv]; rfl
          clear hv
          go_wp2_with fail
          exact bodyPost_ret (res_note_b (t := 2) (u := 3) rfl _ _ _ _ _ rfl rfl rfl (HZw9.out.set10 rfl)) rfl ⟨by rw [HE.out]; rfl, below10 HBw9.out (Nat.le_refl _)⟩
      · by_cases t1 : wrd (x :: r) 1 = wTightens
        · have u1 : (nbs (wrd (x :: r) 1)).toList = [116, 105, 103, 104, 116, 101, 110, 115] := by rw [nbs_list]; exact t1
          have H2 : Hid (tokI wOpens wTightens (wrd (x :: r) 1) = 1) := tokI_b s1 t1
          have HC : Hid (rNext (x :: r) = if nVal ⟨1, 1, rnum [b2], 0, 1, rnum (wrd (x :: r) 2), 0, 0, 0, 0⟩ = true then (⟨1, 1, rnum [b2], 0, 1, rnum (wrd (x :: r) 2), 0, 0, 0, 0⟩, 3) else (zeroN, 0)) := by
            show _ = _
            rw [HE0.out, rCor_leaf (lo := 0) (ch := 1) H1.out H2.out, HX.out]
            rfl
          clear s1 t1
          go_wp2_with fail
          refine (rword_any _ n c (x :: r) 2 _ HSwN.out).mono ?_
          rintro e _ ⟨rfl, rfl⟩
          go_wp2_with fail
          refine (rnum_any _ (HL.out 2) _ HTwN.out).mono ?_
          rintro e w6 ⟨rfl, hb6⟩
          have HBw6 := Lib.hid (HBwN.out.trans (hb6.mono HBwN.out.size))
          have HZw6 := Lib.hid (HZwN.out.below hb6 HZwN.out.lt)
          have HNw6 := Lib.hid (HNwN.out.below hb6 HNwN.out.lt)
          obtain ⟨m0, m1, m2, m3, m4, m5, m6, m7, m8, m9⟩ := HNw6.out.t10
          have mf := HNw6.out.frozen
          clear hb6
          go_wp2_with fail
          clear m0 m1 m2 m3 m4 m5 m6 m7 m8 m9 mf
          obtain ⟨wV, hwwV⟩ : ∃ v, v = ((w6.setCell ⟨w5.heap.size, 4, none⟩ (.int .i64 1)).setCell ⟨w5.heap.size, 5, none⟩ (.int .i64 (rnum (wrd (x :: r) 2)))) := ⟨_, rfl⟩
          have HNwV : Hid (BK wV w5.heap.size 36 #[.int .i64 1, .int .i64 1, .int .i64 (rnum [b2]), .int .i64 0, .int .i64 1, .int .i64 (rnum (wrd (x :: r) 2)), .int .i64 0, .int .i64 0, .int .i64 0, .int .i64 0]) := by show BK _ _ _ _; rw [hwwV]; exact (HNw6.out.set_ 4 _).set_ 5 _
          have HZwV : Hid (BK wV w.heap.size 36 #[.int .i64 0, .int .i64 0, .int .i64 0, .int .i64 0, .int .i64 0, .int .i64 0, .int .i64 0, .int .i64 0, .int .i64 0, .int .i64 0]) := by show BK _ _ _ _; rw [hwwV]; exact (HZw6.out.far (p := ⟨w5.heap.size, 4, none⟩) HNE.out _).far (p := ⟨w5.heap.size, 5, none⟩) HNE.out _
          have HBwV : Hid (Below w.heap.size w wV) := by show Below _ _ _; rw [hwwV]; exact (HBw6.out.setCell (p := ⟨w5.heap.size, 4, none⟩) HLE.out _).setCell (p := ⟨w5.heap.size, 5, none⟩) HLE.out _
          rw [← hwwV]
          clear hwwV
          refine (rvalid_any 1 1 (rnum [b2]) 0 1 (rnum (wrd (x :: r) 2)) 0 0 0 0 _).mono ?_
          rintro e w9 ⟨rfl, hb9⟩
          have HBw9 := Lib.hid (HBwV.out.trans (hb9.mono HBwV.out.size))
          have HZw9 := Lib.hid (HZwV.out.below hb9 HZwV.out.lt)
          have HNw9 := Lib.hid (HNwV.out.below hb9 HNwV.out.lt)
          obtain ⟨m0, m1, m2, m3, m4, m5, m6, m7, m8, m9⟩ := HNw9.out.t10
          obtain ⟨z0, z1, z2, z3, z4, z5, z6, z7, z8, z9⟩ := HZw9.out.t10
          have zf := HZw9.out.frozen
          clear hb9
          cases hv : nVal ⟨1, 1, rnum [b2], 0, 1, rnum (wrd (x :: r) 2), 0, 0, 0, 0⟩ with
          | true =>
            have HE : Hid (rNext (x :: r) = (⟨1, 1, rnum [b2], 0, 1, rnum (wrd (x :: r) 2), 0, 0, 0, 0⟩, 3)) := by show _ = _; rw [HC.out, hv]; rfl
            clear hv
            go_wp2_with fail
            exact bodyPost_ret (res_note_b (t := 2) (u := 3) rfl _ _ _ _ _ rfl rfl rfl (HZw9.out.set10 rfl)) rfl ⟨by rw [HE.out]; rfl, below10 HBw9.out (Nat.le_refl _)⟩
          | false =>
            have HE : Hid (rNext (x :: r) = (zeroN, 0)) := by show _ = _; rw [HC.out, hv]; rfl
            clear hv
            go_wp2_with fail
            exact bodyPost_ret (res_note_b (t := 2) (u := 3) rfl _ _ _ _ _ rfl rfl rfl (HZw9.out.set10 rfl)) rfl ⟨by rw [HE.out]; rfl, below10 HBw9.out (Nat.le_refl _)⟩
        · have v1 : ((nbs (wrd (x :: r) 1)).toList == [111, 112, 101, 110, 115]) = false := by rw [nbs_list]; exact beq_eq_false_iff_ne.2 s1
          have u1 : ((nbs (wrd (x :: r) 1)).toList == [116, 105, 103, 104, 116, 101, 110, 115]) = false := by rw [nbs_list]; exact beq_eq_false_iff_ne.2 t1
          have H2 : Hid (tokI wOpens wTightens (wrd (x :: r) 1) = 0) := tokI_c s1 t1
          have HC : Hid (rNext (x :: r) = if nVal ⟨1, 1, rnum [b2], 0, 0, 0, 0, 0, 0, 0⟩ = true then (⟨1, 1, rnum [b2], 0, 0, 0, 0, 0, 0, 0⟩, 1) else (zeroN, 0)) := by
            show _ = _
            rw [HE0.out, rCor_leaf (lo := 0) (ch := 0) H1.out H2.out, HX.out]
            rfl
          clear s1 t1
          obtain ⟨m0, m1, m2, m3, m4, m5, m6, m7, m8, m9⟩ := HNwN.out.t10
          go_wp2_with fail
          refine (rvalid_any 1 1 (rnum [b2]) 0 0 0 0 0 0 0 _).mono ?_
          rintro e w9 ⟨rfl, hb9⟩
          clear m0 m1 m2 m3 m4 m5 m6 m7 m8 m9
          have HBw9 := Lib.hid (HBwN.out.trans (hb9.mono HBwN.out.size))
          have HZw9 := Lib.hid (HZwN.out.below hb9 HZwN.out.lt)
          have HNw9 := Lib.hid (HNwN.out.below hb9 HNwN.out.lt)
          obtain ⟨m0, m1, m2, m3, m4, m5, m6, m7, m8, m9⟩ := HNw9.out.t10
          obtain ⟨z0, z1, z2, z3, z4, z5, z6, z7, z8, z9⟩ := HZw9.out.t10
          have zf := HZw9.out.frozen
          clear hb9
          cases hv : nVal ⟨1, 1, rnum [b2], 0, 0, 0, 0, 0, 0, 0⟩ with
          | true =>
            have HE : Hid (rNext (x :: r) = (⟨1, 1, rnum [b2], 0, 0, 0, 0, 0, 0, 0⟩, 1)) := by show _ = _; rw [HC.out, hv]; rfl
            clear hv
            go_wp2_with fail
            exact bodyPost_ret (res_note_b (t := 2) (u := 3) rfl _ _ _ _ _ rfl rfl rfl (HZw9.out.set10 rfl)) rfl ⟨by rw [HE.out]; rfl, below10 HBw9.out (Nat.le_refl _)⟩
          | false =>
            have HE : Hid (rNext (x :: r) = (zeroN, 0)) := by show _ = _; rw [HC.out, hv]; rfl
            clear hv
            go_wp2_with fail
            exact bodyPost_ret (res_note_b (t := 2) (u := 3) rfl _ _ _ _ _ rfl rfl rfl (HZw9.out.set10 rfl)) rfl ⟨by rw [HE.out]; rfl, below10 HBw9.out (Nat.le_refl _)⟩
end
end Go.Proofs.YtnmipejpjeakbaaGreatDoor
