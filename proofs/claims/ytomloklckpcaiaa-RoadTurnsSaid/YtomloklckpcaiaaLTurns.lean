/- The law function RoadTurns, walked: it returns true. -/
import Derived.Test.YtomloklckpcaiaaKnown
import Derived.Test.YtomloklckpcaiaaCornOut
namespace Go.Proofs.Ytomloklckpcaiaa
open Go.RowKit Go.Shelf Go.Sort Go.Proofs

set_option maxRecDepth 100000 in
set_option maxHeartbeats 4000000 in
theorem RoadTurns_walk (x y z : Int) (pa : Option Addr) (pn pc : Nat) (ca : Option Addr) (cn cc : Nat) (ja : Option Addr) (jn jc : Nat) (R : Road) (w : World) (h : RD w w.heap.size pa pn ca cn ja jn R) :
    Calls Try.prog 4 #[.agg #[.slice pa pn pc, .slice ca cn cc, .slice ja jn jc], .int .i64 x, .int .i64 y, .int .i64 z] w fun e w' => e = .returned (.bool true) ∧ Below w.heap.size w w' := by
  have hR := Lib.hid h
  have hpl := Lib.hid h.p.1
  clear h
  go_enter Try.func4, Try.ntmps4
  go_wp2_with fail
  obtain ⟨W0, hW0⟩ : ∃ W0, W0 = w.alloc (.cells #[.slice pa pn pc, .slice ca cn cc, .slice ja jn jc] 26) := ⟨_, rfl⟩
  have hB0 : Below w.heap.size w W0 := by rw [hW0]; exact (Below.refl w.heap.size w).alloc (Nat.le_refl _) _
  have hX0 : BK W0 w.heap.size 26 #[.slice pa pn pc, .slice ca cn cc, .slice ja jn jc] := by rw [hW0]; exact BK.new w _ _
  rw [← hW0]
  clear hW0
  refine (small_any pa pn pc ca cn cc ja jn jc R W0 (hR.out.grow hB0 hB0.size)).mono ?_
  rintro e W1 ⟨rfl, hk0⟩
  have hB1 := hB0.trans (hk0.mono hB0.size)
  have hX1 := hX0.below hk0 hX0.lt
  cases hs : sml R
  · have X_0 := hX1.cell 0
    have X_1 := hX1.cell 1
    have X_2 := hX1.cell 2
    simp only [List.getElem?_toArray, List.getElem?_cons_zero, List.getElem?_cons_succ] at X_0 X_1 X_2
    go_wp2_with fail
    clear X_0 X_1 X_2
    refine (known_any W1).mono ?_
    rintro e W2 ⟨rfl, hk1⟩
    have hB2 := hB1.trans (hk1.mono hB1.size)
    have hX2 := hX1.below hk1 hX1.lt
    have X_0 := hX2.cell 0
    have X_1 := hX2.cell 1
    have X_2 := hX2.cell 2
    simp only [List.getElem?_toArray, List.getElem?_cons_zero, List.getElem?_cons_succ] at X_0 X_1 X_2
    go_wp2_with fail
    clear X_0 X_1 X_2
    go_ret
    exact ⟨rfl, hB2⟩
  have HS := Lib.hid hs
  clear hs
  have X_0 := hX1.cell 0
  have X_1 := hX1.cell 1
  have X_2 := hX1.cell 2
  simp only [List.getElem?_toArray, List.getElem?_cons_zero, List.getElem?_cons_succ] at X_0 X_1 X_2
  go_wp2_with fail
  clear X_0 X_1 X_2
  refine (Valid_any pa pn pc ca cn cc ja jn jc R W1 (hR.out.grow hB1 hB1.size)).mono ?_
  rintro e W2 ⟨rfl, hk1⟩
  have hB2 := hB1.trans (hk1.mono hB1.size)
  have hX2 := hX1.below hk1 hX1.lt
  cases hv : val R
  · have X_0 := hX2.cell 0
    have X_1 := hX2.cell 1
    have X_2 := hX2.cell 2
    simp only [List.getElem?_toArray, List.getElem?_cons_zero, List.getElem?_cons_succ] at X_0 X_1 X_2
    go_wp2_with fail
    clear X_0 X_1 X_2
    refine (known_any W2).mono ?_
    rintro e W3 ⟨rfl, hk2⟩
    have hB3 := hB2.trans (hk2.mono hB2.size)
    have hX3 := hX2.below hk2 hX2.lt
    have X_0 := hX3.cell 0
    have X_1 := hX3.cell 1
    have X_2 := hX3.cell 2
    simp only [List.getElem?_toArray, List.getElem?_cons_zero, List.getElem?_cons_succ] at X_0 X_1 X_2
    go_wp2_with fail
    clear X_0 X_1 X_2
    go_ret
    exact ⟨rfl, hB3⟩
  have hok := (val_iff R).1 hv
  have hv' := Lib.hid hok
  have hn1 := hok.n1
  have hp2 := hok.p2
  have hpn : pn ≤ 2000 := by rw [hpl.out]; exact hp2
  have hln := hok.len
  clear hv hok
  by_cases hx : 0 ≤ x ∧ x ≤ y ∧ y ≤ sumL R.ps
  · obtain ⟨hx1, hx2, hx3⟩ := hx
    obtain ⟨T1, hT1⟩ : ∃ T, T = upt R.ps y - upt R.ps x := ⟨_, rfl⟩
    have hbx := upt_bd R.ps x hv'.out.pk
    have hby := upt_bd R.ps y hv'.out.pk
    have HT1 := Lib.hid hT1
    have hb1 : -800000000000 ≤ T1 ∧ T1 ≤ 800000000000 := by omega
    obtain ⟨hb1a, hb1b⟩ := hb1
    clear hT1
    have X_0 := hX2.cell 0
    have X_1 := hX2.cell 1
    have X_2 := hX2.cell 2
    simp only [List.getElem?_toArray, List.getElem?_cons_zero, List.getElem?_cons_succ] at X_0 X_1 X_2
    go_wp2_with fail
    clear X_0 X_1 X_2
    refine (Turning_in x y pa pn pc ca cn cc ja jn jc R W2 (hR.out.grow hB2 hB2.size) hv'.out (by omega) (by omega) (by omega)).mono ?_
    rintro e W3 ⟨rfl, hk2⟩
    rw [← HT1.out]
    have hB3 := hB2.trans (hk2.mono hB2.size)
    have hX3 := hX2.below hk2 hX2.lt
    have X_0 := hX3.cell 0
    have X_1 := hX3.cell 1
    have X_2 := hX3.cell 2
    simp only [List.getElem?_toArray, List.getElem?_cons_zero, List.getElem?_cons_succ] at X_0 X_1 X_2
    go_wp2_with fail
    clear X_0 X_1 X_2
    refine (rLength_any pa pn pc ca cn cc ja jn jc R W3 (hR.out.grow hB3 hB3.size) hv'.out.pk (by omega)).mono ?_
    rintro e W4 ⟨rfl, hk3⟩
    have hB4 := hB3.trans (hk3.mono hB3.size)
    have hX4 := hX3.below hk3 hX3.lt
    have X_0 := hX4.cell 0
    have X_1 := hX4.cell 1
    have X_2 := hX4.cell 2
    simp only [List.getElem?_toArray, List.getElem?_cons_zero, List.getElem?_cons_succ] at X_0 X_1 X_2
    go_wp2_with fail
    clear X_0 X_1 X_2
    refine (rTurning_any x y pa pn pc ca cn cc ja jn jc R W4 (hR.out.grow hB4 hB4.size) hv'.out.pk (by omega) (by omega) (by omega) (by omega) (by omega)).mono ?_
    rintro e W5 ⟨rfl, hk4⟩
    rw [← HT1.out]
    have hB5 := hB4.trans (hk4.mono hB4.size)
    have hX5 := hX4.below hk4 hX4.lt
    by_cases hz : z < y
    · have X_0 := hX5.cell 0
      have X_1 := hX5.cell 1
      have X_2 := hX5.cell 2
      simp only [List.getElem?_toArray, List.getElem?_cons_zero, List.getElem?_cons_succ] at X_0 X_1 X_2
      go_wp2_with fail
      clear X_0 X_1 X_2
      refine (known_any W5).mono ?_
      rintro e W6 ⟨rfl, hk5⟩
      have hB6 := hB5.trans (hk5.mono hB5.size)
      have hX6 := hX5.below hk5 hX5.lt
      have X_0 := hX6.cell 0
      have X_1 := hX6.cell 1
      have X_2 := hX6.cell 2
      simp only [List.getElem?_toArray, List.getElem?_cons_zero, List.getElem?_cons_succ] at X_0 X_1 X_2
      go_wp2_with fail
      clear X_0 X_1 X_2
      go_ret
      exact ⟨rfl, hB6⟩
    have X_0 := hX5.cell 0
    have X_1 := hX5.cell 1
    have X_2 := hX5.cell 2
    simp only [List.getElem?_toArray, List.getElem?_cons_zero, List.getElem?_cons_succ] at X_0 X_1 X_2
    go_wp2_with fail
    clear X_0 X_1 X_2
    refine (rLength_any pa pn pc ca cn cc ja jn jc R W5 (hR.out.grow hB5 hB5.size) hv'.out.pk (by omega)).mono ?_
    rintro e W6 ⟨rfl, hk5⟩
    have hB6 := hB5.trans (hk5.mono hB5.size)
    have hX6 := hX5.below hk5 hX5.lt
    by_cases hz2 : sumL R.ps < z
    · have X_0 := hX6.cell 0
      have X_1 := hX6.cell 1
      have X_2 := hX6.cell 2
      simp only [List.getElem?_toArray, List.getElem?_cons_zero, List.getElem?_cons_succ] at X_0 X_1 X_2
      go_wp2_with fail
      clear X_0 X_1 X_2
      refine (known_any W6).mono ?_
      rintro e W7 ⟨rfl, hk6⟩
      have hB7 := hB6.trans (hk6.mono hB6.size)
      have hX7 := hX6.below hk6 hX6.lt
      have X_0 := hX7.cell 0
      have X_1 := hX7.cell 1
      have X_2 := hX7.cell 2
      simp only [List.getElem?_toArray, List.getElem?_cons_zero, List.getElem?_cons_succ] at X_0 X_1 X_2
      go_wp2_with fail
      clear X_0 X_1 X_2
      go_ret
      exact ⟨rfl, hB7⟩
    obtain ⟨T2, hT2⟩ : ∃ T, T = upt R.ps z - upt R.ps y := ⟨_, rfl⟩
    obtain ⟨T3, hT3⟩ : ∃ T, T = upt R.ps z - upt R.ps x := ⟨_, rfl⟩
    have hbz := upt_bd R.ps z hv'.out.pk
    have HT2 := Lib.hid hT2
    have HT3 := Lib.hid hT3
    have hb2 : -800000000000 ≤ T2 ∧ T2 ≤ 800000000000 := by omega
    obtain ⟨hb2a, hb2b⟩ := hb2
    have hsum : (T1 + T2 == T3) = true := by have := HT1.out; simp; omega
    clear hT2 hT3 hbx hby hbz
    have X_0 := hX6.cell 0
    have X_1 := hX6.cell 1
    have X_2 := hX6.cell 2
    simp only [List.getElem?_toArray, List.getElem?_cons_zero, List.getElem?_cons_succ] at X_0 X_1 X_2
    go_wp2_with fail
    clear X_0 X_1 X_2
    refine (Turning_in y z pa pn pc ca cn cc ja jn jc R W6 (hR.out.grow hB6 hB6.size) hv'.out (by omega) (by omega) (by omega)).mono ?_
    rintro e W7 ⟨rfl, hk6⟩
    rw [← HT2.out]
    have hB7 := hB6.trans (hk6.mono hB6.size)
    have hX7 := hX6.below hk6 hX6.lt
    have X_0 := hX7.cell 0
    have X_1 := hX7.cell 1
    have X_2 := hX7.cell 2
    simp only [List.getElem?_toArray, List.getElem?_cons_zero, List.getElem?_cons_succ] at X_0 X_1 X_2
    go_wp2_with fail
    clear X_0 X_1 X_2
    refine (Turning_in x z pa pn pc ca cn cc ja jn jc R W7 (hR.out.grow hB7 hB7.size) hv'.out (by omega) (by omega) (by omega)).mono ?_
    rintro e W8 ⟨rfl, hk7⟩
    rw [← HT3.out]
    have hB8 := hB7.trans (hk7.mono hB7.size)
    have hX8 := hX7.below hk7 hX7.lt
    have X_0 := hX8.cell 0
    have X_1 := hX8.cell 1
    have X_2 := hX8.cell 2
    simp only [List.getElem?_toArray, List.getElem?_cons_zero, List.getElem?_cons_succ] at X_0 X_1 X_2
    go_wp2_with fail
    clear X_0 X_1 X_2
    refine (known_any W8).mono ?_
    rintro e W9 ⟨rfl, hk8⟩
    have hB9 := hB8.trans (hk8.mono hB8.size)
    have hX9 := hX8.below hk8 hX8.lt
    have X_0 := hX9.cell 0
    have X_1 := hX9.cell 1
    have X_2 := hX9.cell 2
    simp only [List.getElem?_toArray, List.getElem?_cons_zero, List.getElem?_cons_succ] at X_0 X_1 X_2
    go_wp2_with fail
    clear X_0 X_1 X_2
    go_ret
    exact ⟨rfl, hB9⟩
  have hout : x < 0 ∨ y < x ∨ sumL R.ps < y := by omega
  have HO := Lib.hid hout
  clear hout
  have X_0 := hX2.cell 0
  have X_1 := hX2.cell 1
  have X_2 := hX2.cell 2
  simp only [List.getElem?_toArray, List.getElem?_cons_zero, List.getElem?_cons_succ] at X_0 X_1 X_2
  go_wp2_with fail
  clear X_0 X_1 X_2
  refine (Turning_out x y pa pn pc ca cn cc ja jn jc R W2 (hR.out.grow hB2 hB2.size) hv'.out HO.out).mono ?_
  rintro e W3 ⟨rfl, hk2⟩
  have hB3 := hB2.trans (hk2.mono hB2.size)
  have hX3 := hX2.below hk2 hX2.lt
  by_cases hx0 : x < 0
  · have X_0 := hX3.cell 0
    have X_1 := hX3.cell 1
    have X_2 := hX3.cell 2
    simp only [List.getElem?_toArray, List.getElem?_cons_zero, List.getElem?_cons_succ] at X_0 X_1 X_2
    go_wp2_with fail
    clear X_0 X_1 X_2
    refine (known_any W3).mono ?_
    rintro e W4 ⟨rfl, hk3⟩
    have hB4 := hB3.trans (hk3.mono hB3.size)
    have hX4 := hX3.below hk3 hX3.lt
    have X_0 := hX4.cell 0
    have X_1 := hX4.cell 1
    have X_2 := hX4.cell 2
    simp only [List.getElem?_toArray, List.getElem?_cons_zero, List.getElem?_cons_succ] at X_0 X_1 X_2
    go_wp2_with fail
    clear X_0 X_1 X_2
    go_ret
    exact ⟨rfl, hB4⟩
  by_cases hx1 : y < x
  · have X_0 := hX3.cell 0
    have X_1 := hX3.cell 1
    have X_2 := hX3.cell 2
    simp only [List.getElem?_toArray, List.getElem?_cons_zero, List.getElem?_cons_succ] at X_0 X_1 X_2
    go_wp2_with fail
    clear X_0 X_1 X_2
    refine (known_any W3).mono ?_
    rintro e W4 ⟨rfl, hk3⟩
    have hB4 := hB3.trans (hk3.mono hB3.size)
    have hX4 := hX3.below hk3 hX3.lt
    have X_0 := hX4.cell 0
    have X_1 := hX4.cell 1
    have X_2 := hX4.cell 2
    simp only [List.getElem?_toArray, List.getElem?_cons_zero, List.getElem?_cons_succ] at X_0 X_1 X_2
    go_wp2_with fail
    clear X_0 X_1 X_2
    go_ret
    exact ⟨rfl, hB4⟩
  have hge : sumL R.ps < y := by omega
  have X_0 := hX3.cell 0
  have X_1 := hX3.cell 1
  have X_2 := hX3.cell 2
  simp only [List.getElem?_toArray, List.getElem?_cons_zero, List.getElem?_cons_succ] at X_0 X_1 X_2
  go_wp2_with fail
  clear X_0 X_1 X_2
  refine (rLength_any pa pn pc ca cn cc ja jn jc R W3 (hR.out.grow hB3 hB3.size) hv'.out.pk (by omega)).mono ?_
  rintro e W4 ⟨rfl, hk3⟩
  have hB4 := hB3.trans (hk3.mono hB3.size)
  have hX4 := hX3.below hk3 hX3.lt
  have X_0 := hX4.cell 0
  have X_1 := hX4.cell 1
  have X_2 := hX4.cell 2
  simp only [List.getElem?_toArray, List.getElem?_cons_zero, List.getElem?_cons_succ] at X_0 X_1 X_2
  go_wp2_with fail
  clear X_0 X_1 X_2
  refine (known_any W4).mono ?_
  rintro e W5 ⟨rfl, hk4⟩
  have hB5 := hB4.trans (hk4.mono hB4.size)
  have hX5 := hX4.below hk4 hX4.lt
  have X_0 := hX5.cell 0
  have X_1 := hX5.cell 1
  have X_2 := hX5.cell 2
  simp only [List.getElem?_toArray, List.getElem?_cons_zero, List.getElem?_cons_succ] at X_0 X_1 X_2
  go_wp2_with fail
  clear X_0 X_1 X_2
  go_ret
  exact ⟨rfl, hB5⟩
end Go.Proofs.Ytomloklckpcaiaa
