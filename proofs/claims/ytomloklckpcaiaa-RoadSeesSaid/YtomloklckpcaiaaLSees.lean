/- The law function RoadSees, walked: it returns true. -/
import Derived.Test.YtomloklckpcaiaaKnown
import Derived.Test.YtomloklckpcaiaaCornOut
namespace Go.Proofs.Ytomloklckpcaiaa
open Go.RowKit Go.Shelf Go.Sort Go.Proofs

set_option maxRecDepth 100000 in
set_option maxHeartbeats 4000000 in
theorem RoadSees_walk (an mo x angle most : Int) (pa : Option Addr) (pn pc : Nat) (ca : Option Addr) (cn cc : Nat) (ja : Option Addr) (jn jc : Nat) (R : Road) (w : World) (h : RD w w.heap.size pa pn ca cn ja jn R) :
    Calls Try.prog 7 #[.agg #[.slice pa pn pc, .slice ca cn cc, .slice ja jn jc], .agg #[.int .i64 an, .int .i64 mo], .int .i64 x, .int .i64 angle, .int .i64 most] w fun e w' => e = .returned (.bool true) ∧ Below w.heap.size w w' := by
  have hR := Lib.hid h
  have hpl := Lib.hid h.p.1
  clear h
  go_enter Try.func7, Try.ntmps7
  go_wp2_with fail
  obtain ⟨W0, hW0⟩ : ∃ W0, W0 = (w.alloc (.cells #[.slice pa pn pc, .slice ca cn cc, .slice ja jn jc] 26)).alloc (.cells #[.int .i64 an, .int .i64 mo] 56) := ⟨_, rfl⟩
  have hB0 : Below w.heap.size w W0 := by rw [hW0]; exact ((Below.refl w.heap.size w).alloc (Nat.le_refl _) _).alloc (by simp <;> omega) _
  have hX0 : BK W0 w.heap.size 26 #[.slice pa pn pc, .slice ca cn cc, .slice ja jn jc] := by rw [hW0]; exact (BK.new w _ _).alloc _
  have hY0 : BK W0 (w.heap.size + 1) 56 #[.int .i64 an, .int .i64 mo] := by rw [hW0]; have := BK.new (w.alloc (.cells #[.slice pa pn pc, .slice ca cn cc, .slice ja jn jc] 26)) 56 #[.int .i64 an, .int .i64 mo]; rw [World.size_alloc] at this; exact this
  rw [← hW0]
  clear hW0
  refine (small_any pa pn pc ca cn cc ja jn jc R W0 (hR.out.grow hB0 hB0.size)).mono ?_
  rintro e W1 ⟨rfl, hk0⟩
  have hB1 := hB0.trans (hk0.mono hB0.size)
  have hX1 := hX0.below hk0 hX0.lt
  have hY1 := hY0.below hk0 hY0.lt
  cases hs : sml R
  · have X_0 := hX1.cell 0
    have X_1 := hX1.cell 1
    have X_2 := hX1.cell 2
    have Y_0 := hY1.cell 0
    have Y_1 := hY1.cell 1
    simp only [List.getElem?_toArray, List.getElem?_cons_zero, List.getElem?_cons_succ] at X_0 X_1 X_2 Y_0 Y_1
    go_wp2_with fail
    clear X_0 X_1 X_2 Y_0 Y_1
    refine (known_any W1).mono ?_
    rintro e W2 ⟨rfl, hk1⟩
    have hB2 := hB1.trans (hk1.mono hB1.size)
    have hX2 := hX1.below hk1 hX1.lt
    have hY2 := hY1.below hk1 hY1.lt
    have X_0 := hX2.cell 0
    have X_1 := hX2.cell 1
    have X_2 := hX2.cell 2
    have Y_0 := hY2.cell 0
    have Y_1 := hY2.cell 1
    simp only [List.getElem?_toArray, List.getElem?_cons_zero, List.getElem?_cons_succ] at X_0 X_1 X_2 Y_0 Y_1
    go_wp2_with fail
    clear X_0 X_1 X_2 Y_0 Y_1
    go_ret
    exact ⟨rfl, hB2⟩
  have HS := Lib.hid hs
  clear hs
  have X_0 := hX1.cell 0
  have X_1 := hX1.cell 1
  have X_2 := hX1.cell 2
  have Y_0 := hY1.cell 0
  have Y_1 := hY1.cell 1
  simp only [List.getElem?_toArray, List.getElem?_cons_zero, List.getElem?_cons_succ] at X_0 X_1 X_2 Y_0 Y_1
  go_wp2_with fail
  clear X_0 X_1 X_2 Y_0 Y_1
  refine (Valid_any pa pn pc ca cn cc ja jn jc R W1 (hR.out.grow hB1 hB1.size)).mono ?_
  rintro e W2 ⟨rfl, hk1⟩
  have hB2 := hB1.trans (hk1.mono hB1.size)
  have hX2 := hX1.below hk1 hX1.lt
  have hY2 := hY1.below hk1 hY1.lt
  cases hv : val R
  · have X_0 := hX2.cell 0
    have X_1 := hX2.cell 1
    have X_2 := hX2.cell 2
    have Y_0 := hY2.cell 0
    have Y_1 := hY2.cell 1
    simp only [List.getElem?_toArray, List.getElem?_cons_zero, List.getElem?_cons_succ] at X_0 X_1 X_2 Y_0 Y_1
    go_wp2_with fail
    clear X_0 X_1 X_2 Y_0 Y_1
    refine (known_any W2).mono ?_
    rintro e W3 ⟨rfl, hk2⟩
    have hB3 := hB2.trans (hk2.mono hB2.size)
    have hX3 := hX2.below hk2 hX2.lt
    have hY3 := hY2.below hk2 hY2.lt
    have X_0 := hX3.cell 0
    have X_1 := hX3.cell 1
    have X_2 := hX3.cell 2
    have Y_0 := hY3.cell 0
    have Y_1 := hY3.cell 1
    simp only [List.getElem?_toArray, List.getElem?_cons_zero, List.getElem?_cons_succ] at X_0 X_1 X_2 Y_0 Y_1
    go_wp2_with fail
    clear X_0 X_1 X_2 Y_0 Y_1
    go_ret
    exact ⟨rfl, hB3⟩
  have hok := (val_iff R).1 hv
  have hv' := Lib.hid hok
  have hn1 := hok.n1
  have hp2 := hok.p2
  have hpn : pn ≤ 2000 := by rw [hpl.out]; exact hp2
  have hln := hok.len
  clear hv hok
  cases hey : eyesOk an mo
  · have HE := Lib.hid hey
    clear hey
    have HO : Hid (OK R → eyesOk an mo = true → ¬ (0 ≤ x ∧ x ≤ sumL R.ps)) := fun _ he => by rw [HE.out] at he; cases he
    have X_0 := hX2.cell 0
    have X_1 := hX2.cell 1
    have X_2 := hX2.cell 2
    have Y_0 := hY2.cell 0
    have Y_1 := hY2.cell 1
    simp only [List.getElem?_toArray, List.getElem?_cons_zero, List.getElem?_cons_succ] at X_0 X_1 X_2 Y_0 Y_1
    go_wp2_with fail
    clear X_0 X_1 X_2 Y_0 Y_1
    refine (Sight_out an mo x pa pn pc ca cn cc ja jn jc R W2 (hR.out.grow hB2 hB2.size) HO.out).mono ?_
    rintro e W3 ⟨rfl, hk2⟩
    have hB3 := hB2.trans (hk2.mono hB2.size)
    have hX3 := hX2.below hk2 hX2.lt
    have hY3 := hY2.below hk2 hY2.lt
    have X_0 := hX3.cell 0
    have X_1 := hX3.cell 1
    have X_2 := hX3.cell 2
    have Y_0 := hY3.cell 0
    have Y_1 := hY3.cell 1
    simp only [List.getElem?_toArray, List.getElem?_cons_zero, List.getElem?_cons_succ] at X_0 X_1 X_2 Y_0 Y_1
    go_wp2_with fail
    clear X_0 X_1 X_2 Y_0 Y_1
    refine (Eyes_any an mo W3).mono ?_
    rintro e W4 ⟨rfl, hk3⟩
    rw [HE.out]
    have hB4 := hB3.trans (hk3.mono hB3.size)
    have hX4 := hX3.below hk3 hX3.lt
    have hY4 := hY3.below hk3 hY3.lt
    have X_0 := hX4.cell 0
    have X_1 := hX4.cell 1
    have X_2 := hX4.cell 2
    have Y_0 := hY4.cell 0
    have Y_1 := hY4.cell 1
    simp only [List.getElem?_toArray, List.getElem?_cons_zero, List.getElem?_cons_succ] at X_0 X_1 X_2 Y_0 Y_1
    go_wp2_with fail
    clear X_0 X_1 X_2 Y_0 Y_1
    refine (known_any W4).mono ?_
    rintro e W5 ⟨rfl, hk4⟩
    have hB5 := hB4.trans (hk4.mono hB4.size)
    have hX5 := hX4.below hk4 hX4.lt
    have hY5 := hY4.below hk4 hY4.lt
    have X_0 := hX5.cell 0
    have X_1 := hX5.cell 1
    have X_2 := hX5.cell 2
    have Y_0 := hY5.cell 0
    have Y_1 := hY5.cell 1
    simp only [List.getElem?_toArray, List.getElem?_cons_zero, List.getElem?_cons_succ] at X_0 X_1 X_2 Y_0 Y_1
    go_wp2_with fail
    clear X_0 X_1 X_2 Y_0 Y_1
    go_ret
    exact ⟨rfl, hB5⟩
  have HE := Lib.hid hey
  have hee := hey
  simp only [eyesOk, inR, Bool.and_eq_true, decide_eq_true_eq] at hee
  obtain ⟨⟨he1, he2⟩, he3, he4⟩ := hee
  clear hey
  by_cases hx0 : x < 0
  · have HO : Hid (OK R → eyesOk an mo = true → ¬ (0 ≤ x ∧ x ≤ sumL R.ps)) := fun _ he => by omega
    have X_0 := hX2.cell 0
    have X_1 := hX2.cell 1
    have X_2 := hX2.cell 2
    have Y_0 := hY2.cell 0
    have Y_1 := hY2.cell 1
    simp only [List.getElem?_toArray, List.getElem?_cons_zero, List.getElem?_cons_succ] at X_0 X_1 X_2 Y_0 Y_1
    go_wp2_with fail
    clear X_0 X_1 X_2 Y_0 Y_1
    refine (Sight_out an mo x pa pn pc ca cn cc ja jn jc R W2 (hR.out.grow hB2 hB2.size) HO.out).mono ?_
    rintro e W3 ⟨rfl, hk2⟩
    have hB3 := hB2.trans (hk2.mono hB2.size)
    have hX3 := hX2.below hk2 hX2.lt
    have hY3 := hY2.below hk2 hY2.lt
    have X_0 := hX3.cell 0
    have X_1 := hX3.cell 1
    have X_2 := hX3.cell 2
    have Y_0 := hY3.cell 0
    have Y_1 := hY3.cell 1
    simp only [List.getElem?_toArray, List.getElem?_cons_zero, List.getElem?_cons_succ] at X_0 X_1 X_2 Y_0 Y_1
    go_wp2_with fail
    clear X_0 X_1 X_2 Y_0 Y_1
    refine (Eyes_any an mo W3).mono ?_
    rintro e W4 ⟨rfl, hk3⟩
    rw [HE.out]
    have hB4 := hB3.trans (hk3.mono hB3.size)
    have hX4 := hX3.below hk3 hX3.lt
    have hY4 := hY3.below hk3 hY3.lt
    have X_0 := hX4.cell 0
    have X_1 := hX4.cell 1
    have X_2 := hX4.cell 2
    have Y_0 := hY4.cell 0
    have Y_1 := hY4.cell 1
    simp only [List.getElem?_toArray, List.getElem?_cons_zero, List.getElem?_cons_succ] at X_0 X_1 X_2 Y_0 Y_1
    go_wp2_with fail
    clear X_0 X_1 X_2 Y_0 Y_1
    refine (known_any W4).mono ?_
    rintro e W5 ⟨rfl, hk4⟩
    have hB5 := hB4.trans (hk4.mono hB4.size)
    have hX5 := hX4.below hk4 hX4.lt
    have hY5 := hY4.below hk4 hY4.lt
    have X_0 := hX5.cell 0
    have X_1 := hX5.cell 1
    have X_2 := hX5.cell 2
    have Y_0 := hY5.cell 0
    have Y_1 := hY5.cell 1
    simp only [List.getElem?_toArray, List.getElem?_cons_zero, List.getElem?_cons_succ] at X_0 X_1 X_2 Y_0 Y_1
    go_wp2_with fail
    clear X_0 X_1 X_2 Y_0 Y_1
    go_ret
    exact ⟨rfl, hB5⟩
  by_cases hx1 : sumL R.ps < x
  · have HO : Hid (OK R → eyesOk an mo = true → ¬ (0 ≤ x ∧ x ≤ sumL R.ps)) := fun _ he => by omega
    have X_0 := hX2.cell 0
    have X_1 := hX2.cell 1
    have X_2 := hX2.cell 2
    have Y_0 := hY2.cell 0
    have Y_1 := hY2.cell 1
    simp only [List.getElem?_toArray, List.getElem?_cons_zero, List.getElem?_cons_succ] at X_0 X_1 X_2 Y_0 Y_1
    go_wp2_with fail
    clear X_0 X_1 X_2 Y_0 Y_1
    refine (Sight_out an mo x pa pn pc ca cn cc ja jn jc R W2 (hR.out.grow hB2 hB2.size) HO.out).mono ?_
    rintro e W3 ⟨rfl, hk2⟩
    have hB3 := hB2.trans (hk2.mono hB2.size)
    have hX3 := hX2.below hk2 hX2.lt
    have hY3 := hY2.below hk2 hY2.lt
    have X_0 := hX3.cell 0
    have X_1 := hX3.cell 1
    have X_2 := hX3.cell 2
    have Y_0 := hY3.cell 0
    have Y_1 := hY3.cell 1
    simp only [List.getElem?_toArray, List.getElem?_cons_zero, List.getElem?_cons_succ] at X_0 X_1 X_2 Y_0 Y_1
    go_wp2_with fail
    clear X_0 X_1 X_2 Y_0 Y_1
    refine (Eyes_any an mo W3).mono ?_
    rintro e W4 ⟨rfl, hk3⟩
    rw [HE.out]
    have hB4 := hB3.trans (hk3.mono hB3.size)
    have hX4 := hX3.below hk3 hX3.lt
    have hY4 := hY3.below hk3 hY3.lt
    have X_0 := hX4.cell 0
    have X_1 := hX4.cell 1
    have X_2 := hX4.cell 2
    have Y_0 := hY4.cell 0
    have Y_1 := hY4.cell 1
    simp only [List.getElem?_toArray, List.getElem?_cons_zero, List.getElem?_cons_succ] at X_0 X_1 X_2 Y_0 Y_1
    go_wp2_with fail
    clear X_0 X_1 X_2 Y_0 Y_1
    refine (rLength_any pa pn pc ca cn cc ja jn jc R W4 (hR.out.grow hB4 hB4.size) hv'.out.pk (by omega)).mono ?_
    rintro e W5 ⟨rfl, hk4⟩
    have hB5 := hB4.trans (hk4.mono hB4.size)
    have hX5 := hX4.below hk4 hX4.lt
    have hY5 := hY4.below hk4 hY4.lt
    have X_0 := hX5.cell 0
    have X_1 := hX5.cell 1
    have X_2 := hX5.cell 2
    have Y_0 := hY5.cell 0
    have Y_1 := hY5.cell 1
    simp only [List.getElem?_toArray, List.getElem?_cons_zero, List.getElem?_cons_succ] at X_0 X_1 X_2 Y_0 Y_1
    go_wp2_with fail
    clear X_0 X_1 X_2 Y_0 Y_1
    refine (known_any W5).mono ?_
    rintro e W6 ⟨rfl, hk5⟩
    have hB6 := hB5.trans (hk5.mono hB5.size)
    have hX6 := hX5.below hk5 hX5.lt
    have hY6 := hY5.below hk5 hY5.lt
    have X_0 := hX6.cell 0
    have X_1 := hX6.cell 1
    have X_2 := hX6.cell 2
    have Y_0 := hY6.cell 0
    have Y_1 := hY6.cell 1
    simp only [List.getElem?_toArray, List.getElem?_cons_zero, List.getElem?_cons_succ] at X_0 X_1 X_2 Y_0 Y_1
    go_wp2_with fail
    clear X_0 X_1 X_2 Y_0 Y_1
    go_ret
    exact ⟨rfl, hB6⟩
  obtain ⟨r, hr⟩ := SI.exists_ R.ps an x (lim R mo x) (lim_nn he3 (by omega))
  have HR := Lib.hid hr
  obtain ⟨A1, hA1⟩ : ∃ A1, A1 = min angle 10000 := ⟨_, rfl⟩
  obtain ⟨A2, hA2⟩ : ∃ A2, A2 = max an A1 := ⟨_, rfl⟩
  obtain ⟨M1, hM1⟩ : ∃ M1, M1 = min most 5000 := ⟨_, rfl⟩
  obtain ⟨M2, hM2⟩ : ∃ M2, M2 = max mo M1 := ⟨_, rfl⟩
  have hm1 : (if 10000 < angle then 10000 else angle) = A1 := by rw [hA1]; split <;> omega
  have hm2 : (if an < A1 then A1 else an) = A2 := by rw [hA2]; split <;> omega
  have hm3 : (if 5000 < most then 5000 else most) = M1 := by rw [hM1]; split <;> omega
  have hm4 : (if mo < M1 then M1 else mo) = M2 := by rw [hM2]; split <;> omega
  have hE2 : eyesOk A2 M2 = true := by simp [eyesOk, inR]; omega
  have HE2 := Lib.hid hE2
  obtain ⟨r2, hr2⟩ := SI.exists_ R.ps A2 x (lim R M2 x) (lim_nn (by omega) (by omega))
  have HR2 := Lib.hid hr2
  have hge : r ≤ r2 := hr.more hr2 (by omega) (by unfold lim; omega)
  clear hr hr2 hE2 hA1 hA2 hM1 hM2
  have X_0 := hX2.cell 0
  have X_1 := hX2.cell 1
  have X_2 := hX2.cell 2
  have Y_0 := hY2.cell 0
  have Y_1 := hY2.cell 1
  simp only [List.getElem?_toArray, List.getElem?_cons_zero, List.getElem?_cons_succ] at X_0 X_1 X_2 Y_0 Y_1
  go_wp2_with fail
  clear X_0 X_1 X_2 Y_0 Y_1
  refine (Sight_in an mo x r pa pn pc ca cn cc ja jn jc R W2 (hR.out.grow hB2 hB2.size) hv'.out HE.out (by omega) (by omega) HR.out).mono ?_
  rintro e W3 ⟨rfl, hk2⟩
  have hB3 := hB2.trans (hk2.mono hB2.size)
  have hX3 := hX2.below hk2 hX2.lt
  have hY3 := hY2.below hk2 hY2.lt
  have X_0 := hX3.cell 0
  have X_1 := hX3.cell 1
  have X_2 := hX3.cell 2
  have Y_0 := hY3.cell 0
  have Y_1 := hY3.cell 1
  simp only [List.getElem?_toArray, List.getElem?_cons_zero, List.getElem?_cons_succ] at X_0 X_1 X_2 Y_0 Y_1
  go_wp2_with fail
  clear X_0 X_1 X_2 Y_0 Y_1
  refine (Eyes_any an mo W3).mono ?_
  rintro e W4 ⟨rfl, hk3⟩
  rw [HE.out]
  have hB4 := hB3.trans (hk3.mono hB3.size)
  have hX4 := hX3.below hk3 hX3.lt
  have hY4 := hY3.below hk3 hY3.lt
  have X_0 := hX4.cell 0
  have X_1 := hX4.cell 1
  have X_2 := hX4.cell 2
  have Y_0 := hY4.cell 0
  have Y_1 := hY4.cell 1
  simp only [List.getElem?_toArray, List.getElem?_cons_zero, List.getElem?_cons_succ] at X_0 X_1 X_2 Y_0 Y_1
  go_wp2_with fail
  clear X_0 X_1 X_2 Y_0 Y_1
  refine (rLength_any pa pn pc ca cn cc ja jn jc R W4 (hR.out.grow hB4 hB4.size) hv'.out.pk (by omega)).mono ?_
  rintro e W5 ⟨rfl, hk4⟩
  have hB5 := hB4.trans (hk4.mono hB4.size)
  have hX5 := hX4.below hk4 hX4.lt
  have hY5 := hY4.below hk4 hY4.lt
  have X_0 := hX5.cell 0
  have X_1 := hX5.cell 1
  have X_2 := hX5.cell 2
  have Y_0 := hY5.cell 0
  have Y_1 := hY5.cell 1
  simp only [List.getElem?_toArray, List.getElem?_cons_zero, List.getElem?_cons_succ] at X_0 X_1 X_2 Y_0 Y_1
  go_wp2_with fail
  clear X_0 X_1 X_2 Y_0 Y_1
  refine (rSight_in an mo x r pa pn pc ca cn cc ja jn jc R W5 (hR.out.grow hB5 hB5.size) hv'.out HE.out (by omega) (by omega) HR.out).mono ?_
  rintro e W6 ⟨rfl, hk5⟩
  have hB6 := hB5.trans (hk5.mono hB5.size)
  have hX6 := hX5.below hk5 hX5.lt
  have hY6 := hY5.below hk5 hY5.lt
  have hxl := hX6.lt
  have X_0 := hX6.cell 0
  have X_1 := hX6.cell 1
  have X_2 := hX6.cell 2
  have Y_0 := hY6.cell 0
  have Y_1 := hY6.cell 1
  simp only [List.getElem?_toArray, List.getElem?_cons_zero, List.getElem?_cons_succ] at X_0 X_1 X_2 Y_0 Y_1
  go_wp2_with fail
  clear X_0 X_1 X_2 Y_0 Y_1
  obtain ⟨W7, hW7⟩ : ∃ W', W' = W6.alloc (.cells #[.int .i64 A2, .int .i64 M2] 56) := ⟨_, rfl⟩
  have hk6 : Below W6.heap.size W6 W7 := by rw [hW7]; exact (Below.refl _ _).alloc (Nat.le_refl _) _
  rw [← hW7]
  clear hW7
  have hB7 := hB6.trans (hk6.mono hB6.size)
  have hX7 := hX6.below hk6 hX6.lt
  have hY7 := hY6.below hk6 hY6.lt
  refine (Sight_in A2 M2 x r2 pa pn pc ca cn cc ja jn jc R W7 (hR.out.grow hB7 hB7.size) hv'.out HE2.out (by omega) (by omega) HR2.out).mono ?_
  rintro e W8 ⟨rfl, hk7⟩
  have hB8 := hB7.trans (hk7.mono hB7.size)
  have hX8 := hX7.below hk7 hX7.lt
  have hY8 := hY7.below hk7 hY7.lt
  have X_0 := hX8.cell 0
  have X_1 := hX8.cell 1
  have X_2 := hX8.cell 2
  have Y_0 := hY8.cell 0
  have Y_1 := hY8.cell 1
  simp only [List.getElem?_toArray, List.getElem?_cons_zero, List.getElem?_cons_succ] at X_0 X_1 X_2 Y_0 Y_1
  go_wp2_with fail
  clear X_0 X_1 X_2 Y_0 Y_1
  refine (known_any W8).mono ?_
  rintro e W9 ⟨rfl, hk8⟩
  have hB9 := hB8.trans (hk8.mono hB8.size)
  have hX9 := hX8.below hk8 hX8.lt
  have hY9 := hY8.below hk8 hY8.lt
  have X_0 := hX9.cell 0
  have X_1 := hX9.cell 1
  have X_2 := hX9.cell 2
  have Y_0 := hY9.cell 0
  have Y_1 := hY9.cell 1
  simp only [List.getElem?_toArray, List.getElem?_cons_zero, List.getElem?_cons_succ] at X_0 X_1 X_2 Y_0 Y_1
  go_wp2_with fail
  clear X_0 X_1 X_2 Y_0 Y_1
  go_ret
  exact ⟨rfl, hB9⟩
end Go.Proofs.Ytomloklckpcaiaa
