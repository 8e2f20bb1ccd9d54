/- The law function RoadChecks, walked: it returns true. -/
import Derived.Test.YtomloklckpcaiaaKnown
import Derived.Test.YtomloklckpcaiaaBad
import Derived.Test.YtomloklckpcaiaaCorn
import Derived.Test.YtomloklckpcaiaaLMany
import Derived.Test.YtomloklckpcaiaaReg6
namespace Go.Proofs.Ytomloklckpcaiaa
open Go.RowKit Go.Shelf Go.Sort Go.Proofs

set_option maxRecDepth 100000 in
set_option maxHeartbeats 8000000 in
theorem RoadChecks_walk (pa : Option Addr) (pn pc : Nat) (ca : Option Addr) (cn cc : Nat) (ja : Option Addr) (jn jc : Nat) (R : Road) (w : World) (h : RD w w.heap.size pa pn ca cn ja jn R) :
    Calls Try.prog 17 #[.agg #[.slice pa pn pc, .slice ca cn cc, .slice ja jn jc]] w fun e w' => e = .returned (.bool true) ∧ Below w.heap.size w w' := by
  have hmo : Try.prog.follows .mixedOrders = true := by kernel_rfl
  have hR := Lib.hid h
  have hpl := Lib.hid h.p.1
  clear h
  go_enter Try.func17, Try.ntmps17
  go_wp2_with fail
  obtain ⟨W0, hW0⟩ : ∃ W0, W0 = w.alloc (.cells #[.slice pa pn pc, .slice ca cn cc, .slice ja jn jc] 26) := ⟨_, rfl⟩
  have hB0 : Below w.heap.size w W0 := by rw [hW0]; exact (Below.refl w.heap.size w).alloc (Nat.le_refl _) _
  have hX0 : BK W0 w.heap.size 26 #[.slice pa pn pc, .slice ca cn cc, .slice ja jn jc] := by rw [hW0]; exact BK.new w _ _
  rw [← hW0]
  clear hW0
  refine (small_any pa pn pc ca cn cc ja jn jc R W0 (hR.out.grow hB0 hB0.size)).mono ?_
  rintro e W1 ⟨rfl, hk0⟩
  have hB1 := hB0.trans (hk0.mono hB0.size)
  have hX1 := hX0.below hk0 hX0.lt
  cases hs : sml R
  · have X_0 := hX1.cell 0
    have X_1 := hX1.cell 1
    have X_2 := hX1.cell 2
    simp only [List.getElem?_toArray, List.getElem?_cons_zero, List.getElem?_cons_succ] at X_0 X_1 X_2
    go_wp2_with fail
    clear X_0 X_1 X_2
    refine (known_any W1).mono ?_
    rintro e W2 ⟨rfl, hk1⟩
    have hB2 := hB1.trans (hk1.mono hB1.size)
    have hX2 := hX1.below hk1 hX1.lt
    have X_0 := hX2.cell 0
    have X_1 := hX2.cell 1
    have X_2 := hX2.cell 2
    simp only [List.getElem?_toArray, List.getElem?_cons_zero, List.getElem?_cons_succ] at X_0 X_1 X_2
    go_wp2_with fail
    clear X_0 X_1 X_2
    go_ret
    exact ⟨rfl, hB2⟩
  clear hs
  have X_0 := hX1.cell 0
  have X_1 := hX1.cell 1
  have X_2 := hX1.cell 2
  simp only [List.getElem?_toArray, List.getElem?_cons_zero, List.getElem?_cons_succ] at X_0 X_1 X_2
  go_wp2_with fail
  clear X_0 X_1 X_2
  by_cases hv : OK R
  case pos =>
    have hv' := Lib.hid hv
    have HC := Lib.hid (chk_ok hv)
    have HVL := Lib.hid (val_ok hv)
    have hp2 := hv.p2
    have hpn : pn ≤ 2000 := by rw [hpl.out]; exact hp2
    clear hv
    refine (Length_in pa pn pc ca cn cc ja jn jc R W1 (hR.out.grow hB1 hB1.size) hv'.out).mono ?_
    rintro e W2 ⟨rfl, hk1⟩
    have hB2 := hB1.trans (hk1.mono hB1.size)
    have hX2 := hX1.below hk1 hX1.lt
    have X_0 := hX2.cell 0
    have X_1 := hX2.cell 1
    have X_2 := hX2.cell 2
    simp only [List.getElem?_toArray, List.getElem?_cons_zero, List.getElem?_cons_succ] at X_0 X_1 X_2
    go_wp2_with fail
    clear X_0 X_1 X_2
    refine (Valid_any pa pn pc ca cn cc ja jn jc R W2 (hR.out.grow hB2 hB2.size)).mono ?_
    rintro e W3 ⟨rfl, hk2⟩
    rw [HVL.out]
    have hB3 := hB2.trans (hk2.mono hB2.size)
    have hX3 := hX2.below hk2 hX2.lt
    have X_0 := hX3.cell 0
    have X_1 := hX3.cell 1
    have X_2 := hX3.cell 2
    simp only [List.getElem?_toArray, List.getElem?_cons_zero, List.getElem?_cons_succ] at X_0 X_1 X_2
    go_wp2_with fail
    clear X_0 X_1 X_2
    refine (Check_any pa pn pc ca cn cc ja jn jc R W3 (hR.out.grow hB3 hB3.size)).mono ?_
    rintro e W4 ⟨rfl, hk3⟩
    rw [HC.out]
    have hB4 := hB3.trans (hk3.mono hB3.size)
    have hX4 := hX3.below hk3 hX3.lt
    have X_0 := hX4.cell 0
    have X_1 := hX4.cell 1
    have X_2 := hX4.cell 2
    simp only [List.getElem?_toArray, List.getElem?_cons_zero, List.getElem?_cons_succ] at X_0 X_1 X_2
    go_wp2_with fail
    clear X_0 X_1 X_2
    refine (rLength_any pa pn pc ca cn cc ja jn jc R W4 (hR.out.grow hB4 hB4.size) hv'.out.pk (by omega)).mono ?_
    rintro e W5 ⟨rfl, hk4⟩
    have hB5 := hB4.trans (hk4.mono hB4.size)
    have hX5 := hX4.below hk4 hX4.lt
    have X_0 := hX5.cell 0
    have X_1 := hX5.cell 1
    have X_2 := hX5.cell 2
    simp only [List.getElem?_toArray, List.getElem?_cons_zero, List.getElem?_cons_succ] at X_0 X_1 X_2
    go_wp2_with fail
    clear X_0 X_1 X_2
    refine (known_any W5).mono ?_
    rintro e W6 ⟨rfl, hk5⟩
    have hB6 := hB5.trans (hk5.mono hB5.size)
    have hX6 := hX5.below hk5 hX5.lt
    have X_0 := hX6.cell 0
    have X_1 := hX6.cell 1
    have X_2 := hX6.cell 2
    simp only [List.getElem?_toArray, List.getElem?_cons_zero, List.getElem?_cons_succ] at X_0 X_1 X_2
    go_wp2_with fail
    clear X_0 X_1 X_2
    go_ret
    exact ⟨rfl, hB6⟩
  have HBD := Lib.hid hv
  have HC := Lib.hid (chk_bad hv)
  have HVL := Lib.hid (val_bad hv)
  clear hv
  refine (Length_bad pa pn pc ca cn cc ja jn jc R W1 (hR.out.grow hB1 hB1.size) HBD.out).mono ?_
  rintro e W2 ⟨rfl, hk1⟩
  have hB2 := hB1.trans (hk1.mono hB1.size)
  have hX2 := hX1.below hk1 hX1.lt
  have X_0 := hX2.cell 0
  have X_1 := hX2.cell 1
  have X_2 := hX2.cell 2
  simp only [List.getElem?_toArray, List.getElem?_cons_zero, List.getElem?_cons_succ] at X_0 X_1 X_2
  go_wp2_with fail
  clear X_0 X_1 X_2
  refine (Valid_any pa pn pc ca cn cc ja jn jc R W2 (hR.out.grow hB2 hB2.size)).mono ?_
  rintro e W3 ⟨rfl, hk2⟩
  rw [HVL.out]
  have hB3 := hB2.trans (hk2.mono hB2.size)
  have hX3 := hX2.below hk2 hX2.lt
  have X_0 := hX3.cell 0
  have X_1 := hX3.cell 1
  have X_2 := hX3.cell 2
  simp only [List.getElem?_toArray, List.getElem?_cons_zero, List.getElem?_cons_succ] at X_0 X_1 X_2
  go_wp2_with fail
  clear X_0 X_1 X_2
  refine (Find_bad 0 pa pn pc ca cn cc ja jn jc R W3 (hR.out.grow hB3 hB3.size) HBD.out).mono ?_
  rintro e W4 ⟨rfl, hk3⟩
  have hB4 := hB3.trans (hk3.mono hB3.size)
  have hX4 := hX3.below hk3 hX3.lt
  have X_0 := hX4.cell 0
  have X_1 := hX4.cell 1
  have X_2 := hX4.cell 2
  simp only [List.getElem?_toArray, List.getElem?_cons_zero, List.getElem?_cons_succ] at X_0 X_1 X_2
  go_wp2_with fail
  clear X_0 X_1 X_2
  refine (Turning_bad 0 0 pa pn pc ca cn cc ja jn jc R W4 (hR.out.grow hB4 hB4.size) HBD.out).mono ?_
  rintro e W5 ⟨rfl, hk4⟩
  have hB5 := hB4.trans (hk4.mono hB4.size)
  have hX5 := hX4.below hk4 hX4.lt
  have X_0 := hX5.cell 0
  have X_1 := hX5.cell 1
  have X_2 := hX5.cell 2
  simp only [List.getElem?_toArray, List.getElem?_cons_zero, List.getElem?_cons_succ] at X_0 X_1 X_2
  go_wp2_with fail
  clear X_0 X_1 X_2
  refine (Corners_out 0 1 pa pn pc ca cn cc ja jn jc R W5 (hR.out.grow hB5 hB5.size) (fun ho => absurd ho HBD.out)).mono ?_
  rintro e W6 ⟨rfl, hk5⟩
  have hB6 := hB5.trans (hk5.mono hB5.size)
  have hX6 := hX5.below hk5 hX5.lt
  have X_0 := hX6.cell 0
  have X_1 := hX6.cell 1
  have X_2 := hX6.cell 2
  simp only [List.getElem?_toArray, List.getElem?_cons_zero, List.getElem?_cons_succ] at X_0 X_1 X_2
  go_wp2_with fail
  clear X_0 X_1 X_2
  refine (Sight_out 1 1 0 pa pn pc ca cn cc ja jn jc R W6 (hR.out.grow hB6 hB6.size) (fun ho => absurd ho HBD.out)).mono ?_
  rintro e W7 ⟨rfl, hk6⟩
  have hB7 := hB6.trans (hk6.mono hB6.size)
  have hX7 := hX6.below hk6 hX6.lt
  have X_0 := hX7.cell 0
  have X_1 := hX7.cell 1
  have X_2 := hX7.cell 2
  simp only [List.getElem?_toArray, List.getElem?_cons_zero, List.getElem?_cons_succ] at X_0 X_1 X_2
  go_wp2_with fail
  clear X_0 X_1 X_2
  refine (Normal_bad pa pn pc ca cn cc ja jn jc R W7 (hR.out.grow hB7 hB7.size) HBD.out).mono ?_
  rintro e W8 ⟨rfl, hk7⟩
  have hB8 := hB7.trans (hk7.mono hB7.size)
  have hX8 := hX7.below hk7 hX7.lt
  have hlX := hX8.lt
  have X_0 := hX8.cell 0
  have X_1 := hX8.cell 1
  have X_2 := hX8.cell 2
  simp only [List.getElem?_toArray, List.getElem?_cons_zero, List.getElem?_cons_succ] at X_0 X_1 X_2
  go_wp2_with fail
  clear X_0 X_1 X_2
  obtain ⟨W9, hW9⟩ : ∃ W', W' = W8.alloc (.cells #[.slice none 0 0, .slice none 0 0, .slice none 0 0] 26) := ⟨_, rfl⟩
  have hk8 : Below W8.heap.size W8 W9 := by rw [hW9]; exact (Below.refl _ _).alloc (Nat.le_refl _) _
  have HZX : BK W9 W8.heap.size 26 #[.slice none 0 0, .slice none 0 0, .slice none 0 0] := by rw [hW9]; exact BK.new _ _ _
  rw [← hW9]
  clear hW9
  have hB9 := hB8.trans (hk8.mono hB8.size)
  have hX9 := hX8.below hk8 hX8.lt
  have HNN : Hid (BK W9 W8.heap.size 26 #[.slice none 0 0, .slice none 0 0, .slice none 0 0]) := HZX
  have hN9 := HNN.out
  clear HZX
  have X_0 := hX9.cell 0
  have X_1 := hX9.cell 1
  have X_2 := hX9.cell 2
  have N_0 := hN9.cell 0
  have N_1 := hN9.cell 1
  have N_2 := hN9.cell 2
  simp only [List.getElem?_toArray, List.getElem?_cons_zero, List.getElem?_cons_succ] at X_0 X_1 X_2 N_0 N_1 N_2
  go_wp2_with fail
  clear X_0 X_1 X_2 N_0 N_1 N_2
  refine (Part_bad 0 1 pa pn pc ca cn cc ja jn jc R W9 (hR.out.grow hB9 hB9.size) HBD.out).mono ?_
  rintro e W10 ⟨rfl, hk9⟩
  have hB10 := hB9.trans (hk9.mono hB9.size)
  have hX10 := hX9.below hk9 hX9.lt
  have hN10 := hN9.below hk9 hN9.lt
  have hlX := hX10.lt
  have hlN := hN10.lt
  have X_0 := hX10.cell 0
  have X_1 := hX10.cell 1
  have X_2 := hX10.cell 2
  have N_0 := hN10.cell 0
  have N_1 := hN10.cell 1
  have N_2 := hN10.cell 2
  simp only [List.getElem?_toArray, List.getElem?_cons_zero, List.getElem?_cons_succ] at X_0 X_1 X_2 N_0 N_1 N_2
  go_wp2_with fail
  clear X_0 X_1 X_2 N_0 N_1 N_2
  obtain ⟨W11, hW11⟩ : ∃ W', W' = W10.alloc (.cells #[.slice none 0 0, .slice none 0 0, .slice none 0 0] 26) := ⟨_, rfl⟩
  have hk10 : Below W10.heap.size W10 W11 := by rw [hW11]; exact (Below.refl _ _).alloc (Nat.le_refl _) _
  have HZX : BK W11 W10.heap.size 26 #[.slice none 0 0, .slice none 0 0, .slice none 0 0] := by rw [hW11]; exact BK.new _ _ _
  rw [← hW11]
  clear hW11
  have hB11 := hB10.trans (hk10.mono hB10.size)
  have hX11 := hX10.below hk10 hX10.lt
  have hN11 := hN10.below hk10 hN10.lt
  have HPN : Hid (BK W11 W10.heap.size 26 #[.slice none 0 0, .slice none 0 0, .slice none 0 0]) := HZX
  have hP11 := HPN.out
  clear HZX
  have x_0 := fun d os => cell_regrown (hX11.cell 0) d os
  have x_1 := fun d os => cell_regrown (hX11.cell 1) d os
  have x_2 := fun d os => cell_regrown (hX11.cell 2) d os
  have hRc := Lib.hid (hR.out.grow hB11 hB11.size)
  obtain ⟨Wc, hWc⟩ : ∃ Wc, Wc = W11 := ⟨_, rfl⟩
  rw [← hWc] at hB11 hX11 hN11 hP11 hRc x_0 x_1 x_2 ⊢
  have hXc := hX11
  have hNc := hN11
  have hPc := hP11
  have hBc := hB11
  clear hWc
  go_wp2_with fail
  refine wp_region_one 8 6 7 [1, 2] 26 #[.slice none 0 0, .slice none 0 0, .slice none 0 0] #[.slice none 0 0, .slice none 0 0, .slice none 0 0] 18 90 (.agg #[.slice none 0 0, .slice none 0 0, .slice none 0 0]) _ _ hmo (by decide) rfl rfl rfl (fun a w => rfl) rfl rfl rfl (by kernel_rfl) (by kernel_rfl) (fun a w b h1 h2 h3 => store_road none 0 0 none 0 0 none 0 0 18 90 a w b h1 h2 h3 _ rfl) (by kernel_rfl) ?_
  simp only [List.take_succ_cons, List.take_zero, List.drop_succ_cons, List.drop_zero]
  repeat (refine wpCG_q (by decide) (by decide) (fun K hK => ?_); go_simp; refine hK _ ?_; clear hK K)
  refine wpCG_c (ι := Option Addr × Nat × Nat × Option Addr × Nat × Nat × Option Addr × Nat × Nat) 52 #[] (fun i => .agg #[.slice i.1 i.2.1 i.2.2.1, .slice i.2.2.2.1 i.2.2.2.2.1 i.2.2.2.2.2.1, .slice i.2.2.2.2.2.2.1 i.2.2.2.2.2.2.2.1 i.2.2.2.2.2.2.2.2]) (by decide) (by decide) rfl (fun w => by go_simp) (fun _ _ h _ => h) (fun _ _ h _ => h) (fun W hW _ => ?_) (fun i1 => ?_)
  · refine (Example_any W).mono ?_
    rintro e w' ⟨rfl, -, hbl⟩
    exact ⟨(_, _, _, _, _, _, _, _, _), rfl, hbl⟩
  obtain ⟨a1, m1, b1, a2, m2, b2, a3, m3, b3⟩ := i1
  simp only
  repeat (refine wpCG_q (by decide) (by decide) (fun K hK => ?_); go_simp; refine hK _ ?_; clear hK K)
  refine wpCG_c (ι := Unit) 40 #[.agg #[.slice pa pn pc, .slice ca cn cc, .slice ja jn jc], .agg #[.slice a1 m1 b1, .slice a2 m2 b2, .slice a3 m3 b3]] (fun _ => .tuple #[.agg #[.slice none 0 0, .slice none 0 0, .slice none 0 0], .int .i64 2]) (by decide) (by decide) rfl (fun w => by go_simp) (fun _ _ h _ => h) (fun _ _ h _ => h) (fun W hW _ => ?_) (fun i2 => ?_)
  · obtain ⟨p, rfl⟩ := hW
    have hb := below_regrown Wc p.d p.os
    refine (Join_bad pa pn pc ca cn cc ja jn jc R a1 m1 b1 a2 m2 b2 a3 m3 b3 _ (hRc.out.grow hb hb.size) HBD.out).mono ?_
    rintro e w' ⟨rfl, hbl⟩
    exact ⟨(), rfl, hbl⟩
  repeat (refine wpCG_q (by decide) (by decide) (fun K hK => ?_); go_simp; refine hK _ ?_; clear hK K)
  refine wpCG_a (by decide) (fun h => by cases h) ?_
  refine wpCG_a (by decide) (fun _ => ⟨rfl, by simp⟩) ?_
  refine wpCG_nil ?_
  intro tb Wd hk4 _ htb hTB
  clear x_0 x_1 x_2 hRc
  have hlX := hXc.lt
  have hlN := hNc.lt
  have hlP := hPc.lt
  go_upto_region 13 with fail
  refine wp_wnamed (fun W12 hW12 => ?_)
  have hk5 : Below Wc.heap.size Wc W12 := by rw [hW12]; exact hk4
  have hJ12 : BK W12 tb 26 #[.slice none 0 0, .slice none 0 0, .slice none 0 0] := by rw [hW12]; exact hTB
  have hB12 := hBc.trans (hk5.mono hBc.size)
  have hX12 := hXc.below hk5 hXc.lt
  have hN12 := hNc.below hk5 hNc.lt
  have hP12 := hPc.below hk5 hPc.lt
  clear hW12 hTB hk4 hk5 hXc hNc hPc htb hBc
  have X_0 := hX12.cell 0
  have X_1 := hX12.cell 1
  have X_2 := hX12.cell 2
  have N_0 := hN12.cell 0
  have N_1 := hN12.cell 1
  have N_2 := hN12.cell 2
  have P_0 := hP12.cell 0
  have P_1 := hP12.cell 1
  have P_2 := hP12.cell 2
  have J_0 := hJ12.cell 0
  have J_1 := hJ12.cell 1
  have J_2 := hJ12.cell 2
  simp only [List.getElem?_toArray, List.getElem?_cons_zero, List.getElem?_cons_succ] at X_0 X_1 X_2 N_0 N_1 N_2 P_0 P_1 P_2 J_0 J_1 J_2
  go_wp2_with fail
  clear X_0 X_1 X_2 N_0 N_1 N_2 P_0 P_1 P_2 J_0 J_1 J_2
  refine (Reverse_bad pa pn pc ca cn cc ja jn jc R W12 (hR.out.grow hB12 hB12.size) HBD.out).mono ?_
  rintro e W13 ⟨rfl, hk12⟩
  have hB13 := hB12.trans (hk12.mono hB12.size)
  have hX13 := hX12.below hk12 hX12.lt
  have hN13 := hN12.below hk12 hN12.lt
  have hP13 := hP12.below hk12 hP12.lt
  have hJ13 := hJ12.below hk12 hJ12.lt
  have hlX := hX13.lt
  have hlN := hN13.lt
  have hlP := hP13.lt
  have hlJ := hJ13.lt
  have X_0 := hX13.cell 0
  have X_1 := hX13.cell 1
  have X_2 := hX13.cell 2
  have N_0 := hN13.cell 0
  have N_1 := hN13.cell 1
  have N_2 := hN13.cell 2
  have P_0 := hP13.cell 0
  have P_1 := hP13.cell 1
  have P_2 := hP13.cell 2
  have J_0 := hJ13.cell 0
  have J_1 := hJ13.cell 1
  have J_2 := hJ13.cell 2
  simp only [List.getElem?_toArray, List.getElem?_cons_zero, List.getElem?_cons_succ] at X_0 X_1 X_2 N_0 N_1 N_2 P_0 P_1 P_2 J_0 J_1 J_2
  go_wp2_with fail
  clear X_0 X_1 X_2 N_0 N_1 N_2 P_0 P_1 P_2 J_0 J_1 J_2
  obtain ⟨W14, hW14⟩ : ∃ W', W' = W13.alloc (.cells #[.slice none 0 0, .slice none 0 0, .slice none 0 0] 26) := ⟨_, rfl⟩
  have hk13 : Below W13.heap.size W13 W14 := by rw [hW14]; exact (Below.refl _ _).alloc (Nat.le_refl _) _
  have HZX : BK W14 W13.heap.size 26 #[.slice none 0 0, .slice none 0 0, .slice none 0 0] := by rw [hW14]; exact BK.new _ _ _
  rw [← hW14]
  clear hW14
  have hB14 := hB13.trans (hk13.mono hB13.size)
  have hX14 := hX13.below hk13 hX13.lt
  have hN14 := hN13.below hk13 hN13.lt
  have hP14 := hP13.below hk13 hP13.lt
  have hJ14 := hJ13.below hk13 hJ13.lt
  have HVN : Hid (BK W14 W13.heap.size 26 #[.slice none 0 0, .slice none 0 0, .slice none 0 0]) := HZX
  have hV14 := HVN.out
  clear HZX
  have X_0 := hX14.cell 0
  have X_1 := hX14.cell 1
  have X_2 := hX14.cell 2
  have N_0 := hN14.cell 0
  have N_1 := hN14.cell 1
  have N_2 := hN14.cell 2
  have P_0 := hP14.cell 0
  have P_1 := hP14.cell 1
  have P_2 := hP14.cell 2
  have J_0 := hJ14.cell 0
  have J_1 := hJ14.cell 1
  have J_2 := hJ14.cell 2
  have V_0 := hV14.cell 0
  have V_1 := hV14.cell 1
  have V_2 := hV14.cell 2
  simp only [List.getElem?_toArray, List.getElem?_cons_zero, List.getElem?_cons_succ] at X_0 X_1 X_2 N_0 N_1 N_2 P_0 P_1 P_2 J_0 J_1 J_2 V_0 V_1 V_2
  go_wp2_with fail
  clear X_0 X_1 X_2 N_0 N_1 N_2 P_0 P_1 P_2 J_0 J_1 J_2 V_0 V_1 V_2
  refine (Compare_bad 0 pa pn pc ca cn cc ja jn jc R pa pn pc ca cn cc ja jn jc W14 (hR.out.grow hB14 hB14.size) HBD.out).mono ?_
  rintro e W15 ⟨rfl, hk14⟩
  have hB15 := hB14.trans (hk14.mono hB14.size)
  have hX15 := hX14.below hk14 hX14.lt
  have hN15 := hN14.below hk14 hN14.lt
  have hP15 := hP14.below hk14 hP14.lt
  have hJ15 := hJ14.below hk14 hJ14.lt
  have hV15 := hV14.below hk14 hV14.lt
  have X_0 := hX15.cell 0
  have X_1 := hX15.cell 1
  have X_2 := hX15.cell 2
  have N_0 := hN15.cell 0
  have N_1 := hN15.cell 1
  have N_2 := hN15.cell 2
  have P_0 := hP15.cell 0
  have P_1 := hP15.cell 1
  have P_2 := hP15.cell 2
  have J_0 := hJ15.cell 0
  have J_1 := hJ15.cell 1
  have J_2 := hJ15.cell 2
  have V_0 := hV15.cell 0
  have V_1 := hV15.cell 1
  have V_2 := hV15.cell 2
  simp only [List.getElem?_toArray, List.getElem?_cons_zero, List.getElem?_cons_succ] at X_0 X_1 X_2 N_0 N_1 N_2 P_0 P_1 P_2 J_0 J_1 J_2 V_0 V_1 V_2
  go_wp2_with fail
  clear X_0 X_1 X_2 N_0 N_1 N_2 P_0 P_1 P_2 J_0 J_1 J_2 V_0 V_1 V_2
  refine (Safer_bad pa pn pc ca cn cc ja jn jc R pa pn pc ca cn cc ja jn jc W15 (hR.out.grow hB15 hB15.size) HBD.out).mono ?_
  rintro e W16 ⟨rfl, hk15⟩
  have hB16 := hB15.trans (hk15.mono hB15.size)
  have hX16 := hX15.below hk15 hX15.lt
  have hN16 := hN15.below hk15 hN15.lt
  have hP16 := hP15.below hk15 hP15.lt
  have hJ16 := hJ15.below hk15 hJ15.lt
  have hV16 := hV15.below hk15 hV15.lt
  have hlX := hX16.lt
  have hlN := hN16.lt
  have hlP := hP16.lt
  have hlJ := hJ16.lt
  have hlV := hV16.lt
  have X_0 := hX16.cell 0
  have X_1 := hX16.cell 1
  have X_2 := hX16.cell 2
  have N_0 := hN16.cell 0
  have N_1 := hN16.cell 1
  have N_2 := hN16.cell 2
  have P_0 := hP16.cell 0
  have P_1 := hP16.cell 1
  have P_2 := hP16.cell 2
  have J_0 := hJ16.cell 0
  have J_1 := hJ16.cell 1
  have J_2 := hJ16.cell 2
  have V_0 := hV16.cell 0
  have V_1 := hV16.cell 1
  have V_2 := hV16.cell 2
  simp only [List.getElem?_toArray, List.getElem?_cons_zero, List.getElem?_cons_succ] at X_0 X_1 X_2 N_0 N_1 N_2 P_0 P_1 P_2 J_0 J_1 J_2 V_0 V_1 V_2
  go_wp2_with fail
  clear X_0 X_1 X_2 N_0 N_1 N_2 P_0 P_1 P_2 J_0 J_1 J_2 V_0 V_1 V_2
  obtain ⟨W17, hW17⟩ : ∃ W', W' = W16.alloc (.cells #[.slice none 0 0, .slice none 0 0, .slice none 0 0] 26) := ⟨_, rfl⟩
  have hk16 : Below W16.heap.size W16 W17 := by rw [hW17]; exact (Below.refl _ _).alloc (Nat.le_refl _) _
  have HZX : BK W17 W16.heap.size 26 #[.slice none 0 0, .slice none 0 0, .slice none 0 0] := by rw [hW17]; exact BK.new _ _ _
  rw [← hW17]
  clear hW17
  have hB17 := hB16.trans (hk16.mono hB16.size)
  have hX17 := hX16.below hk16 hX16.lt
  have hN17 := hN16.below hk16 hN16.lt
  have hP17 := hP16.below hk16 hP16.lt
  have hJ17 := hJ16.below hk16 hJ16.lt
  have hV17 := hV16.below hk16 hV16.lt
  have HSN : Hid (BK W17 W16.heap.size 26 #[.slice none 0 0, .slice none 0 0, .slice none 0 0]) := HZX
  have hS17 := HSN.out
  clear HZX
  have X_0 := hX17.cell 0
  have X_1 := hX17.cell 1
  have X_2 := hX17.cell 2
  have N_0 := hN17.cell 0
  have N_1 := hN17.cell 1
  have N_2 := hN17.cell 2
  have P_0 := hP17.cell 0
  have P_1 := hP17.cell 1
  have P_2 := hP17.cell 2
  have J_0 := hJ17.cell 0
  have J_1 := hJ17.cell 1
  have J_2 := hJ17.cell 2
  have V_0 := hV17.cell 0
  have V_1 := hV17.cell 1
  have V_2 := hV17.cell 2
  have S_0 := hS17.cell 0
  have S_1 := hS17.cell 1
  have S_2 := hS17.cell 2
  simp only [List.getElem?_toArray, List.getElem?_cons_zero, List.getElem?_cons_succ] at X_0 X_1 X_2 N_0 N_1 N_2 P_0 P_1 P_2 J_0 J_1 J_2 V_0 V_1 V_2 S_0 S_1 S_2
  go_wp2_with fail
  clear X_0 X_1 X_2 N_0 N_1 N_2 P_0 P_1 P_2 J_0 J_1 J_2 V_0 V_1 V_2 S_0 S_1 S_2
  refine (Check_any pa pn pc ca cn cc ja jn jc R W17 (hR.out.grow hB17 hB17.size)).mono ?_
  rintro e W18 ⟨rfl, hk17⟩
  rw [HC.out]
  have hB18 := hB17.trans (hk17.mono hB17.size)
  have hX18 := hX17.below hk17 hX17.lt
  have hN18 := hN17.below hk17 hN17.lt
  have hP18 := hP17.below hk17 hP17.lt
  have hJ18 := hJ17.below hk17 hJ17.lt
  have hV18 := hV17.below hk17 hV17.lt
  have hS18 := hS17.below hk17 hS17.lt
  have X_0 := hX18.cell 0
  have X_1 := hX18.cell 1
  have X_2 := hX18.cell 2
  have N_0 := hN18.cell 0
  have N_1 := hN18.cell 1
  have N_2 := hN18.cell 2
  have P_0 := hP18.cell 0
  have P_1 := hP18.cell 1
  have P_2 := hP18.cell 2
  have J_0 := hJ18.cell 0
  have J_1 := hJ18.cell 1
  have J_2 := hJ18.cell 2
  have V_0 := hV18.cell 0
  have V_1 := hV18.cell 1
  have V_2 := hV18.cell 2
  have S_0 := hS18.cell 0
  have S_1 := hS18.cell 1
  have S_2 := hS18.cell 2
  simp only [List.getElem?_toArray, List.getElem?_cons_zero, List.getElem?_cons_succ] at X_0 X_1 X_2 N_0 N_1 N_2 P_0 P_1 P_2 J_0 J_1 J_2 V_0 V_1 V_2 S_0 S_1 S_2
  go_wp2_with fail
  clear X_0 X_1 X_2 N_0 N_1 N_2 P_0 P_1 P_2 J_0 J_1 J_2 V_0 V_1 V_2 S_0 S_1 S_2
  refine (none_any none 0 0 none 0 0 none 0 0 W18 (by omega) (by omega) (by omega)).mono ?_
  rintro e W19 ⟨rfl, hk18⟩
  have hB19 := hB18.trans (hk18.mono hB18.size)
  have hX19 := hX18.below hk18 hX18.lt
  have hN19 := hN18.below hk18 hN18.lt
  have hP19 := hP18.below hk18 hP18.lt
  have hJ19 := hJ18.below hk18 hJ18.lt
  have hV19 := hV18.below hk18 hV18.lt
  have hS19 := hS18.below hk18 hS18.lt
  have X_0 := hX19.cell 0
  have X_1 := hX19.cell 1
  have X_2 := hX19.cell 2
  have N_0 := hN19.cell 0
  have N_1 := hN19.cell 1
  have N_2 := hN19.cell 2
  have P_0 := hP19.cell 0
  have P_1 := hP19.cell 1
  have P_2 := hP19.cell 2
  have J_0 := hJ19.cell 0
  have J_1 := hJ19.cell 1
  have J_2 := hJ19.cell 2
  have V_0 := hV19.cell 0
  have V_1 := hV19.cell 1
  have V_2 := hV19.cell 2
  have S_0 := hS19.cell 0
  have S_1 := hS19.cell 1
  have S_2 := hS19.cell 2
  simp only [List.getElem?_toArray, List.getElem?_cons_zero, List.getElem?_cons_succ] at X_0 X_1 X_2 N_0 N_1 N_2 P_0 P_1 P_2 J_0 J_1 J_2 V_0 V_1 V_2 S_0 S_1 S_2
  go_wp2_with fail
  clear X_0 X_1 X_2 N_0 N_1 N_2 P_0 P_1 P_2 J_0 J_1 J_2 V_0 V_1 V_2 S_0 S_1 S_2
  refine (none_any none 0 0 none 0 0 none 0 0 W19 (by omega) (by omega) (by omega)).mono ?_
  rintro e W20 ⟨rfl, hk19⟩
  have hB20 := hB19.trans (hk19.mono hB19.size)
  have hX20 := hX19.below hk19 hX19.lt
  have hN20 := hN19.below hk19 hN19.lt
  have hP20 := hP19.below hk19 hP19.lt
  have hJ20 := hJ19.below hk19 hJ19.lt
  have hV20 := hV19.below hk19 hV19.lt
  have hS20 := hS19.below hk19 hS19.lt
  have X_0 := hX20.cell 0
  have X_1 := hX20.cell 1
  have X_2 := hX20.cell 2
  have N_0 := hN20.cell 0
  have N_1 := hN20.cell 1
  have N_2 := hN20.cell 2
  have P_0 := hP20.cell 0
  have P_1 := hP20.cell 1
  have P_2 := hP20.cell 2
  have J_0 := hJ20.cell 0
  have J_1 := hJ20.cell 1
  have J_2 := hJ20.cell 2
  have V_0 := hV20.cell 0
  have V_1 := hV20.cell 1
  have V_2 := hV20.cell 2
  have S_0 := hS20.cell 0
  have S_1 := hS20.cell 1
  have S_2 := hS20.cell 2
  simp only [List.getElem?_toArray, List.getElem?_cons_zero, List.getElem?_cons_succ] at X_0 X_1 X_2 N_0 N_1 N_2 P_0 P_1 P_2 J_0 J_1 J_2 V_0 V_1 V_2 S_0 S_1 S_2
  go_wp2_with fail
  clear X_0 X_1 X_2 N_0 N_1 N_2 P_0 P_1 P_2 J_0 J_1 J_2 V_0 V_1 V_2 S_0 S_1 S_2
  refine (none_any none 0 0 none 0 0 none 0 0 W20 (by omega) (by omega) (by omega)).mono ?_
  rintro e W21 ⟨rfl, hk20⟩
  have hB21 := hB20.trans (hk20.mono hB20.size)
  have hX21 := hX20.below hk20 hX20.lt
  have hN21 := hN20.below hk20 hN20.lt
  have hP21 := hP20.below hk20 hP20.lt
  have hJ21 := hJ20.below hk20 hJ20.lt
  have hV21 := hV20.below hk20 hV20.lt
  have hS21 := hS20.below hk20 hS20.lt
  have X_0 := hX21.cell 0
  have X_1 := hX21.cell 1
  have X_2 := hX21.cell 2
  have N_0 := hN21.cell 0
  have N_1 := hN21.cell 1
  have N_2 := hN21.cell 2
  have P_0 := hP21.cell 0
  have P_1 := hP21.cell 1
  have P_2 := hP21.cell 2
  have J_0 := hJ21.cell 0
  have J_1 := hJ21.cell 1
  have J_2 := hJ21.cell 2
  have V_0 := hV21.cell 0
  have V_1 := hV21.cell 1
  have V_2 := hV21.cell 2
  have S_0 := hS21.cell 0
  have S_1 := hS21.cell 1
  have S_2 := hS21.cell 2
  simp only [List.getElem?_toArray, List.getElem?_cons_zero, List.getElem?_cons_succ] at X_0 X_1 X_2 N_0 N_1 N_2 P_0 P_1 P_2 J_0 J_1 J_2 V_0 V_1 V_2 S_0 S_1 S_2
  go_wp2_with fail
  clear X_0 X_1 X_2 N_0 N_1 N_2 P_0 P_1 P_2 J_0 J_1 J_2 V_0 V_1 V_2 S_0 S_1 S_2
  refine (none_any none 0 0 none 0 0 none 0 0 W21 (by omega) (by omega) (by omega)).mono ?_
  rintro e W22 ⟨rfl, hk21⟩
  have hB22 := hB21.trans (hk21.mono hB21.size)
  have hX22 := hX21.below hk21 hX21.lt
  have hN22 := hN21.below hk21 hN21.lt
  have hP22 := hP21.below hk21 hP21.lt
  have hJ22 := hJ21.below hk21 hJ21.lt
  have hV22 := hV21.below hk21 hV21.lt
  have hS22 := hS21.below hk21 hS21.lt
  have X_0 := hX22.cell 0
  have X_1 := hX22.cell 1
  have X_2 := hX22.cell 2
  have N_0 := hN22.cell 0
  have N_1 := hN22.cell 1
  have N_2 := hN22.cell 2
  have P_0 := hP22.cell 0
  have P_1 := hP22.cell 1
  have P_2 := hP22.cell 2
  have J_0 := hJ22.cell 0
  have J_1 := hJ22.cell 1
  have J_2 := hJ22.cell 2
  have V_0 := hV22.cell 0
  have V_1 := hV22.cell 1
  have V_2 := hV22.cell 2
  have S_0 := hS22.cell 0
  have S_1 := hS22.cell 1
  have S_2 := hS22.cell 2
  simp only [List.getElem?_toArray, List.getElem?_cons_zero, List.getElem?_cons_succ] at X_0 X_1 X_2 N_0 N_1 N_2 P_0 P_1 P_2 J_0 J_1 J_2 V_0 V_1 V_2 S_0 S_1 S_2
  go_wp2_with fail
  clear X_0 X_1 X_2 N_0 N_1 N_2 P_0 P_1 P_2 J_0 J_1 J_2 V_0 V_1 V_2 S_0 S_1 S_2
  refine (none_any none 0 0 none 0 0 none 0 0 W22 (by omega) (by omega) (by omega)).mono ?_
  rintro e W23 ⟨rfl, hk22⟩
  have hB23 := hB22.trans (hk22.mono hB22.size)
  have hX23 := hX22.below hk22 hX22.lt
  have hN23 := hN22.below hk22 hN22.lt
  have hP23 := hP22.below hk22 hP22.lt
  have hJ23 := hJ22.below hk22 hJ22.lt
  have hV23 := hV22.below hk22 hV22.lt
  have hS23 := hS22.below hk22 hS22.lt
  have X_0 := hX23.cell 0
  have X_1 := hX23.cell 1
  have X_2 := hX23.cell 2
  have N_0 := hN23.cell 0
  have N_1 := hN23.cell 1
  have N_2 := hN23.cell 2
  have P_0 := hP23.cell 0
  have P_1 := hP23.cell 1
  have P_2 := hP23.cell 2
  have J_0 := hJ23.cell 0
  have J_1 := hJ23.cell 1
  have J_2 := hJ23.cell 2
  have V_0 := hV23.cell 0
  have V_1 := hV23.cell 1
  have V_2 := hV23.cell 2
  have S_0 := hS23.cell 0
  have S_1 := hS23.cell 1
  have S_2 := hS23.cell 2
  simp only [List.getElem?_toArray, List.getElem?_cons_zero, List.getElem?_cons_succ] at X_0 X_1 X_2 N_0 N_1 N_2 P_0 P_1 P_2 J_0 J_1 J_2 V_0 V_1 V_2 S_0 S_1 S_2
  go_wp2_with fail
  clear X_0 X_1 X_2 N_0 N_1 N_2 P_0 P_1 P_2 J_0 J_1 J_2 V_0 V_1 V_2 S_0 S_1 S_2
  refine (known_any W23).mono ?_
  rintro e W24 ⟨rfl, hk23⟩
  have hB24 := hB23.trans (hk23.mono hB23.size)
  have hX24 := hX23.below hk23 hX23.lt
  have hN24 := hN23.below hk23 hN23.lt
  have hP24 := hP23.below hk23 hP23.lt
  have hJ24 := hJ23.below hk23 hJ23.lt
  have hV24 := hV23.below hk23 hV23.lt
  have hS24 := hS23.below hk23 hS23.lt
  have X_0 := hX24.cell 0
  have X_1 := hX24.cell 1
  have X_2 := hX24.cell 2
  have N_0 := hN24.cell 0
  have N_1 := hN24.cell 1
  have N_2 := hN24.cell 2
  have P_0 := hP24.cell 0
  have P_1 := hP24.cell 1
  have P_2 := hP24.cell 2
  have J_0 := hJ24.cell 0
  have J_1 := hJ24.cell 1
  have J_2 := hJ24.cell 2
  have V_0 := hV24.cell 0
  have V_1 := hV24.cell 1
  have V_2 := hV24.cell 2
  have S_0 := hS24.cell 0
  have S_1 := hS24.cell 1
  have S_2 := hS24.cell 2
  simp only [List.getElem?_toArray, List.getElem?_cons_zero, List.getElem?_cons_succ] at X_0 X_1 X_2 N_0 N_1 N_2 P_0 P_1 P_2 J_0 J_1 J_2 V_0 V_1 V_2 S_0 S_1 S_2
  go_wp2_with fail
  clear X_0 X_1 X_2 N_0 N_1 N_2 P_0 P_1 P_2 J_0 J_1 J_2 V_0 V_1 V_2 S_0 S_1 S_2
  go_ret
  exact ⟨rfl, hB24⟩
end Go.Proofs.Ytomloklckpcaiaa
