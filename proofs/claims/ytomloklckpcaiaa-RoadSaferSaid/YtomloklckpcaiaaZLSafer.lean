/- The law function RoadSafer, walked: it returns true. -/
import Derived.Test.YtomloklckpcaiaaZSres
import Derived.Test.YtomloklckpcaiaaZBackM
import Derived.Test.YtomloklckpcaiaaZRSame
import Derived.Test.YtomloklckpcaiaaZBound
namespace Go.Proofs.Ytomloklckpcaiaa
open Go.RowKit Go.Shelf Go.Sort Go.Proofs

set_option maxRecDepth 100000 in
set_option maxHeartbeats 8000000 in
theorem RoadSafer_walk (pa : Option Addr) (pn pc : Nat) (ca : Option Addr) (cn cc : Nat) (ja : Option Addr) (jn jc : Nat) (R : Road) (pa2 : Option Addr) (pn2 pc2 : Nat) (ca2 : Option Addr) (cn2 cc2 : Nat) (ja2 : Option Addr) (jn2 jc2 : Nat) (R2 : Road) (w : World) (h : RD w w.heap.size pa pn ca cn ja jn R) (h2 : RD w w.heap.size pa2 pn2 ca2 cn2 ja2 jn2 R2) :
    Calls Try.prog 15 #[.agg #[.slice pa pn pc, .slice ca cn cc, .slice ja jn jc], .agg #[.slice pa2 pn2 pc2, .slice ca2 cn2 cc2, .slice ja2 jn2 jc2]] w fun e w' => e = .returned (.bool true) ∧ Below w.heap.size w w' := by
  have hmo : Try.prog.follows .mixedOrders = true := by kernel_rfl
  have hR := Lib.hid h
  have hpl := Lib.hid h.p.1
  have hR2 := Lib.hid h2
  have hpl2 := Lib.hid h2.p.1
  clear h h2
  go_enter Try.func15, Try.ntmps15
  go_wp2_with fail
  obtain ⟨W0, hW0⟩ : ∃ W0, W0 = (w.alloc (.cells #[.slice pa pn pc, .slice ca cn cc, .slice ja jn jc] 26)).alloc (.cells #[.slice pa2 pn2 pc2, .slice ca2 cn2 cc2, .slice ja2 jn2 jc2] 26) := ⟨_, rfl⟩
  have hB0 : Below w.heap.size w W0 := by rw [hW0]; exact ((Below.refl w.heap.size w).alloc (Nat.le_refl _) _).alloc (by simp) _
  have hX0 : BK W0 w.heap.size 26 #[.slice pa pn pc, .slice ca cn cc, .slice ja jn jc] := by rw [hW0]; exact (BK.new w _ _).alloc _
  have hY0 : BK W0 (w.heap.size + 1) 26 #[.slice pa2 pn2 pc2, .slice ca2 cn2 cc2, .slice ja2 jn2 jc2] := by rw [hW0]; have := BK.new (w.alloc (.cells #[.slice pa pn pc, .slice ca cn cc, .slice ja jn jc] 26)) 26 #[.slice pa2 pn2 pc2, .slice ca2 cn2 cc2, .slice ja2 jn2 jc2]; rw [World.size_alloc] at this; exact this
  rw [← hW0]
  clear hW0
  have X_0 := hX0.cell 0
  have X_1 := hX0.cell 1
  have X_2 := hX0.cell 2
  have Y_0 := hY0.cell 0
  have Y_1 := hY0.cell 1
  have Y_2 := hY0.cell 2
  simp only [List.getElem?_toArray, List.getElem?_cons_zero, List.getElem?_cons_succ] at X_0 X_1 X_2 Y_0 Y_1 Y_2
  go_wp2_with fail
  clear X_0 X_1 X_2 Y_0 Y_1 Y_2
  refine (small_any pa pn pc ca cn cc ja jn jc R W0 (hR.out.grow hB0 hB0.size)).mono ?_
  rintro e W1 ⟨rfl, hk0⟩
  have hB1 := hB0.trans (hk0.mono hB0.size)
  have hX1 := hX0.below hk0 hX0.lt
  have hY1 := hY0.below hk0 hY0.lt
  cases hs : sml R
  · have X_0 := hX1.cell 0
    have X_1 := hX1.cell 1
    have X_2 := hX1.cell 2
    have Y_0 := hY1.cell 0
    have Y_1 := hY1.cell 1
    have Y_2 := hY1.cell 2
    simp only [List.getElem?_toArray, List.getElem?_cons_zero, List.getElem?_cons_succ] at X_0 X_1 X_2 Y_0 Y_1 Y_2
    go_wp2_with fail
    clear X_0 X_1 X_2 Y_0 Y_1 Y_2
    refine (known_any W1).mono ?_
    rintro e W2 ⟨rfl, hk1⟩
    have hB2 := hB1.trans (hk1.mono hB1.size)
    have hX2 := hX1.below hk1 hX1.lt
    have hY2 := hY1.below hk1 hY1.lt
    have X_0 := hX2.cell 0
    have X_1 := hX2.cell 1
    have X_2 := hX2.cell 2
    have Y_0 := hY2.cell 0
    have Y_1 := hY2.cell 1
    have Y_2 := hY2.cell 2
    simp only [List.getElem?_toArray, List.getElem?_cons_zero, List.getElem?_cons_succ] at X_0 X_1 X_2 Y_0 Y_1 Y_2
    go_wp2_with fail
    clear X_0 X_1 X_2 Y_0 Y_1 Y_2
    go_ret
    exact ⟨rfl, hB2⟩
  have HS := Lib.hid hs
  clear hs
  have X_0 := hX1.cell 0
  have X_1 := hX1.cell 1
  have X_2 := hX1.cell 2
  have Y_0 := hY1.cell 0
  have Y_1 := hY1.cell 1
  have Y_2 := hY1.cell 2
  simp only [List.getElem?_toArray, List.getElem?_cons_zero, List.getElem?_cons_succ] at X_0 X_1 X_2 Y_0 Y_1 Y_2
  go_wp2_with fail
  clear X_0 X_1 X_2 Y_0 Y_1 Y_2
  refine (small_any pa2 pn2 pc2 ca2 cn2 cc2 ja2 jn2 jc2 R2 W1 (hR2.out.grow hB1 hB1.size)).mono ?_
  rintro e W2 ⟨rfl, hk1⟩
  have hB2 := hB1.trans (hk1.mono hB1.size)
  have hX2 := hX1.below hk1 hX1.lt
  have hY2 := hY1.below hk1 hY1.lt
  cases hs : sml R2
  · have X_0 := hX2.cell 0
    have X_1 := hX2.cell 1
    have X_2 := hX2.cell 2
    have Y_0 := hY2.cell 0
    have Y_1 := hY2.cell 1
    have Y_2 := hY2.cell 2
    simp only [List.getElem?_toArray, List.getElem?_cons_zero, List.getElem?_cons_succ] at X_0 X_1 X_2 Y_0 Y_1 Y_2
    go_wp2_with fail
    clear X_0 X_1 X_2 Y_0 Y_1 Y_2
    refine (known_any W2).mono ?_
    rintro e W3 ⟨rfl, hk2⟩
    have hB3 := hB2.trans (hk2.mono hB2.size)
    have hX3 := hX2.below hk2 hX2.lt
    have hY3 := hY2.below hk2 hY2.lt
    have X_0 := hX3.cell 0
    have X_1 := hX3.cell 1
    have X_2 := hX3.cell 2
    have Y_0 := hY3.cell 0
    have Y_1 := hY3.cell 1
    have Y_2 := hY3.cell 2
    simp only [List.getElem?_toArray, List.getElem?_cons_zero, List.getElem?_cons_succ] at X_0 X_1 X_2 Y_0 Y_1 Y_2
    go_wp2_with fail
    clear X_0 X_1 X_2 Y_0 Y_1 Y_2
    go_ret
    exact ⟨rfl, hB3⟩
  have HS2 := Lib.hid hs
  clear hs
  have X_0 := hX2.cell 0
  have X_1 := hX2.cell 1
  have X_2 := hX2.cell 2
  have Y_0 := hY2.cell 0
  have Y_1 := hY2.cell 1
  have Y_2 := hY2.cell 2
  simp only [List.getElem?_toArray, List.getElem?_cons_zero, List.getElem?_cons_succ] at X_0 X_1 X_2 Y_0 Y_1 Y_2
  go_wp2_with fail
  clear X_0 X_1 X_2 Y_0 Y_1 Y_2
  refine (Valid_any pa pn pc ca cn cc ja jn jc R W2 (hR.out.grow hB2 hB2.size)).mono ?_
  rintro e W3 ⟨rfl, hk2⟩
  have hB3 := hB2.trans (hk2.mono hB2.size)
  have hX3 := hX2.below hk2 hX2.lt
  have hY3 := hY2.below hk2 hY2.lt
  cases hv : val R
  · have X_0 := hX3.cell 0
    have X_1 := hX3.cell 1
    have X_2 := hX3.cell 2
    have Y_0 := hY3.cell 0
    have Y_1 := hY3.cell 1
    have Y_2 := hY3.cell 2
    simp only [List.getElem?_toArray, List.getElem?_cons_zero, List.getElem?_cons_succ] at X_0 X_1 X_2 Y_0 Y_1 Y_2
    go_wp2_with fail
    clear X_0 X_1 X_2 Y_0 Y_1 Y_2
    refine (known_any W3).mono ?_
    rintro e W4 ⟨rfl, hk3⟩
    have hB4 := hB3.trans (hk3.mono hB3.size)
    have hX4 := hX3.below hk3 hX3.lt
    have hY4 := hY3.below hk3 hY3.lt
    have X_0 := hX4.cell 0
    have X_1 := hX4.cell 1
    have X_2 := hX4.cell 2
    have Y_0 := hY4.cell 0
    have Y_1 := hY4.cell 1
    have Y_2 := hY4.cell 2
    simp only [List.getElem?_toArray, List.getElem?_cons_zero, List.getElem?_cons_succ] at X_0 X_1 X_2 Y_0 Y_1 Y_2
    go_wp2_with fail
    clear X_0 X_1 X_2 Y_0 Y_1 Y_2
    go_ret
    exact ⟨rfl, hB4⟩
  have hv' := Lib.hid ((val_iff R).1 hv)
  clear hv
  have X_0 := hX3.cell 0
  have X_1 := hX3.cell 1
  have X_2 := hX3.cell 2
  have Y_0 := hY3.cell 0
  have Y_1 := hY3.cell 1
  have Y_2 := hY3.cell 2
  simp only [List.getElem?_toArray, List.getElem?_cons_zero, List.getElem?_cons_succ] at X_0 X_1 X_2 Y_0 Y_1 Y_2
  go_wp2_with fail
  clear X_0 X_1 X_2 Y_0 Y_1 Y_2
  refine (Valid_any pa2 pn2 pc2 ca2 cn2 cc2 ja2 jn2 jc2 R2 W3 (hR2.out.grow hB3 hB3.size)).mono ?_
  rintro e W4 ⟨rfl, hk3⟩
  have hB4 := hB3.trans (hk3.mono hB3.size)
  have hX4 := hX3.below hk3 hX3.lt
  have hY4 := hY3.below hk3 hY3.lt
  cases hv : val R2
  · have X_0 := hX4.cell 0
    have X_1 := hX4.cell 1
    have X_2 := hX4.cell 2
    have Y_0 := hY4.cell 0
    have Y_1 := hY4.cell 1
    have Y_2 := hY4.cell 2
    simp only [List.getElem?_toArray, List.getElem?_cons_zero, List.getElem?_cons_succ] at X_0 X_1 X_2 Y_0 Y_1 Y_2
    go_wp2_with fail
    clear X_0 X_1 X_2 Y_0 Y_1 Y_2
    refine (known_any W4).mono ?_
    rintro e W5 ⟨rfl, hk4⟩
    have hB5 := hB4.trans (hk4.mono hB4.size)
    have hX5 := hX4.below hk4 hX4.lt
    have hY5 := hY4.below hk4 hY4.lt
    have X_0 := hX5.cell 0
    have X_1 := hX5.cell 1
    have X_2 := hX5.cell 2
    have Y_0 := hY5.cell 0
    have Y_1 := hY5.cell 1
    have Y_2 := hY5.cell 2
    simp only [List.getElem?_toArray, List.getElem?_cons_zero, List.getElem?_cons_succ] at X_0 X_1 X_2 Y_0 Y_1 Y_2
    go_wp2_with fail
    clear X_0 X_1 X_2 Y_0 Y_1 Y_2
    go_ret
    exact ⟨rfl, hB5⟩
  have hv2' := Lib.hid ((val_iff R2).1 hv)
  clear hv
  have hpn : pn ≤ 2000 := by rw [hpl.out]; exact hv'.out.p2
  have hpn2 : pn2 ≤ 2000 := by rw [hpl2.out]; exact hv2'.out.p2
  have hln := hv'.out.len
  have hln2 := hv2'.out.len
  obtain ⟨p20, -, -, n800⟩ := sml_bd hv'.out HS.out
  obtain ⟨q20, -, -, m800⟩ := sml_bd hv2'.out HS2.out
  by_cases hs : sumL R.ps = sumL R2.ps
  case neg =>
    have HNE := Lib.hid hs
    have es : (sumL R.ps != sumL R2.ps) = true := by simpa using hs
    clear hs
    have X_0 := hX4.cell 0
    have X_1 := hX4.cell 1
    have X_2 := hX4.cell 2
    have Y_0 := hY4.cell 0
    have Y_1 := hY4.cell 1
    have Y_2 := hY4.cell 2
    simp only [List.getElem?_toArray, List.getElem?_cons_zero, List.getElem?_cons_succ] at X_0 X_1 X_2 Y_0 Y_1 Y_2
    go_wp2_with fail
    clear X_0 X_1 X_2 Y_0 Y_1 Y_2
    refine (Safer_uneq pa pn pc ca cn cc ja jn jc R pa2 pn2 pc2 ca2 cn2 cc2 ja2 jn2 jc2 R2 W4 (hR.out.grow hB4 hB4.size) (hR2.out.grow hB4 hB4.size) hv'.out hv2'.out HNE.out).mono ?_
    rintro e W5 ⟨rfl, hk4⟩
    have hB5 := hB4.trans (hk4.mono hB4.size)
    have hX5 := hX4.below hk4 hX4.lt
    have hY5 := hY4.below hk4 hY4.lt
    have hlX := hX5.lt
    have hlY := hY5.lt
    have X_0 := hX5.cell 0
    have X_1 := hX5.cell 1
    have X_2 := hX5.cell 2
    have Y_0 := hY5.cell 0
    have Y_1 := hY5.cell 1
    have Y_2 := hY5.cell 2
    simp only [List.getElem?_toArray, List.getElem?_cons_zero, List.getElem?_cons_succ] at X_0 X_1 X_2 Y_0 Y_1 Y_2
    go_wp2_with fail
    clear X_0 X_1 X_2 Y_0 Y_1 Y_2
    obtain ⟨W6, hW6⟩ : ∃ W', W' = W5.alloc (.cells #[.slice none 0 0, .slice none 0 0, .slice none 0 0] 26) := ⟨_, rfl⟩
    have hk5 : Below W5.heap.size W5 W6 := by rw [hW6]; exact (Below.refl _ _).alloc (Nat.le_refl _) _
    have HZX : BK W6 W5.heap.size 26 #[.slice none 0 0, .slice none 0 0, .slice none 0 0] := by rw [hW6]; exact BK.new _ _ _
    rw [← hW6]
    clear hW6
    have hB6 := hB5.trans (hk5.mono hB5.size)
    have hX6 := hX5.below hk5 hX5.lt
    have hY6 := hY5.below hk5 hY5.lt
    have HPN : Hid (BK W6 W5.heap.size 26 #[.slice none 0 0, .slice none 0 0, .slice none 0 0]) := HZX
    have hP6 := HPN.out
    clear HZX
    have X_0 := fun d os => cell_regrown (hX6.cell 0) d os
    have X_1 := fun d os => cell_regrown (hX6.cell 1) d os
    have X_2 := fun d os => cell_regrown (hX6.cell 2) d os
    have Y_0 := fun d os => cell_regrown (hY6.cell 0) d os
    have Y_1 := fun d os => cell_regrown (hY6.cell 1) d os
    have Y_2 := fun d os => cell_regrown (hY6.cell 2) d os
    go_wp2_with fail
    refine wp_region_ch 4 [1, 3] hmo (by kernel_rfl) ?_
    simp only [List.take_succ_cons, List.take_zero, List.drop_succ_cons, List.drop_zero]
    repeat (refine wpC_q (by decide) (by decide) (fun K hK => ?_); go_simp; refine hK _ ?_; clear hK K)
    refine wpC_c (ι := Unit) 22 #[.agg #[.slice pa pn pc, .slice ca cn cc, .slice ja jn jc]] (fun _ => .int .i64 (sumL R.ps)) (fun _ _ => True) (by decide) (by decide) rfl (fun w => by go_simp) stable_true (fun _ => stable_true) (fun W hW hΦ => ?_) (fun i1 hs1 => ?_)
    · obtain ⟨p, rfl⟩ := hW
      have hb := below_regrown W6 p.d p.os
      have hb' := hB6.trans (hb.mono hB6.size)
      refine (rLength_any pa pn pc ca cn cc ja jn jc R _ (hR.out.grow hb' hb'.size) hv'.out.pk (by omega)).mono ?_
      rintro e w' ⟨rfl, hbl⟩
      exact ⟨(), rfl, trivial, hbl⟩
    repeat (refine wpC_q (by decide) (by decide) (fun K hK => ?_); go_simp; refine hK _ ?_; clear hK K)
    refine wpC_c (ι := Unit) 22 #[.agg #[.slice pa2 pn2 pc2, .slice ca2 cn2 cc2, .slice ja2 jn2 jc2]] (fun _ => .int .i64 (sumL R2.ps)) (fun _ _ => True) (by decide) (by decide) rfl (fun w => by go_simp) hs1 (fun _ => stable_true) (fun W hW hΦ => ?_) (fun i2 hs2 => ?_)
    · obtain ⟨p, rfl⟩ := hW
      have hb := below_regrown W6 p.d p.os
      have hb' := hB6.trans (hb.mono hB6.size)
      refine (rLength_any pa2 pn2 pc2 ca2 cn2 cc2 ja2 jn2 jc2 R2 _ (hR2.out.grow hb' hb'.size) hv2'.out.pk (by omega)).mono ?_
      rintro e w' ⟨rfl, hbl⟩
      exact ⟨(), rfl, trivial, hbl⟩
    repeat (refine wpC_q (by decide) (by decide) (fun K hK => ?_); go_simp; refine hK _ ?_; clear hK K)
    refine wpC_nil ?_
    intro W7 hk6 _
    clear hs1 hs2 X_0 X_1 X_2 Y_0 Y_1 Y_2
    have hB7 := hB6.trans (hk6.mono hB6.size)
    have hX7 := hX6.below hk6 hX6.lt
    have hY7 := hY6.below hk6 hY6.lt
    have hP7 := hP6.below hk6 hP6.lt
    have X_0 := hX7.cell 0
    have X_1 := hX7.cell 1
    have X_2 := hX7.cell 2
    have Y_0 := hY7.cell 0
    have Y_1 := hY7.cell 1
    have Y_2 := hY7.cell 2
    have P_0 := hP7.cell 0
    have P_1 := hP7.cell 1
    have P_2 := hP7.cell 2
    simp only [List.getElem?_toArray, List.getElem?_cons_zero, List.getElem?_cons_succ] at X_0 X_1 X_2 Y_0 Y_1 Y_2 P_0 P_1 P_2
    go_wp2_with fail
    clear X_0 X_1 X_2 Y_0 Y_1 Y_2 P_0 P_1 P_2
    refine (none_any none 0 0 none 0 0 none 0 0 W7 (by omega) (by omega) (by omega)).mono ?_
    rintro e W8 ⟨rfl, hk7⟩
    have hB8 := hB7.trans (hk7.mono hB7.size)
    have hX8 := hX7.below hk7 hX7.lt
    have hY8 := hY7.below hk7 hY7.lt
    have hP8 := hP7.below hk7 hP7.lt
    have X_0 := hX8.cell 0
    have X_1 := hX8.cell 1
    have X_2 := hX8.cell 2
    have Y_0 := hY8.cell 0
    have Y_1 := hY8.cell 1
    have Y_2 := hY8.cell 2
    have P_0 := hP8.cell 0
    have P_1 := hP8.cell 1
    have P_2 := hP8.cell 2
    simp only [List.getElem?_toArray, List.getElem?_cons_zero, List.getElem?_cons_succ] at X_0 X_1 X_2 Y_0 Y_1 Y_2 P_0 P_1 P_2
    go_wp2_with fail
    clear X_0 X_1 X_2 Y_0 Y_1 Y_2 P_0 P_1 P_2
    refine (known_any W8).mono ?_
    rintro e W9 ⟨rfl, hk8⟩
    have hB9 := hB8.trans (hk8.mono hB8.size)
    have hX9 := hX8.below hk8 hX8.lt
    have hY9 := hY8.below hk8 hY8.lt
    have hP9 := hP8.below hk8 hP8.lt
    have X_0 := hX9.cell 0
    have X_1 := hX9.cell 1
    have X_2 := hX9.cell 2
    have Y_0 := hY9.cell 0
    have Y_1 := hY9.cell 1
    have Y_2 := hY9.cell 2
    have P_0 := hP9.cell 0
    have P_1 := hP9.cell 1
    have P_2 := hP9.cell 2
    simp only [List.getElem?_toArray, List.getElem?_cons_zero, List.getElem?_cons_succ] at X_0 X_1 X_2 Y_0 Y_1 Y_2 P_0 P_1 P_2
    go_wp2_with fail
    clear X_0 X_1 X_2 Y_0 Y_1 Y_2 P_0 P_1 P_2
    go_ret
    exact ⟨rfl, hB9⟩
  have HSE := Lib.hid hs
  have es : (sumL R.ps != sumL R2.ps) = false := by simpa using hs
  obtain ⟨T, er, hte⟩ : ∃ T er, sres R R2 = (T, er) := ⟨_, _, rfl⟩
  have hto : sres R2 R = (T, er) := by rw [← sres_symm hv'.out hv2'.out hs, hte]
  have hbd := sres_bd R R2
  rw [hte] at hbd
  obtain ⟨t1, t2, t3⟩ := hbd
  dsimp only at t1 t2 t3
  have hno := normR_ok hv'.out
  have u1 := hno.p2
  have u2 := hno.c1
  have u3 := hno.j1
  have HTE := Lib.hid hte
  have HTO := Lib.hid hto
  have HTW := Lib.hid (sres_own hv'.out)
  clear hs hte hto hno
  have X_0 := hX4.cell 0
  have X_1 := hX4.cell 1
  have X_2 := hX4.cell 2
  have Y_0 := hY4.cell 0
  have Y_1 := hY4.cell 1
  have Y_2 := hY4.cell 2
  simp only [List.getElem?_toArray, List.getElem?_cons_zero, List.getElem?_cons_succ] at X_0 X_1 X_2 Y_0 Y_1 Y_2
  go_wp2_with fail
  clear X_0 X_1 X_2 Y_0 Y_1 Y_2
  refine (Safer_res pa pn pc ca cn cc ja jn jc R pa2 pn2 pc2 ca2 cn2 cc2 ja2 jn2 jc2 R2 W4 (hR.out.grow hB4 hB4.size) (hR2.out.grow hB4 hB4.size) hv'.out hv2'.out HSE.out (by omega)).mono ?_
  rintro e W5 ⟨⟨P1, nP1, cP1, P2, nP2, cP2, P3, nP3, cP3, HE, hd⟩, hk4⟩
  rw [HTE.out] at HE hd
  dsimp only at HE hd
  subst HE
  have hB5 := hB4.trans (hk4.mono hB4.size)
  have hX5 := hX4.below hk4 hX4.lt
  have hY5 := hY4.below hk4 hY4.lt
  have bP1 : nP1 ≤ 2000 := by rw [hd.p.1]; exact t1
  have bP2 : nP2 ≤ 1000 := by rw [hd.c.1]; exact t2
  have bP3 : nP3 ≤ 200 := by rw [hd.j.1]; exact t3
  have HRP := Lib.hid hd
  clear hd
  have hlX := hX5.lt
  have hlY := hY5.lt
  have X_0 := hX5.cell 0
  have X_1 := hX5.cell 1
  have X_2 := hX5.cell 2
  have Y_0 := hY5.cell 0
  have Y_1 := hY5.cell 1
  have Y_2 := hY5.cell 2
  simp only [List.getElem?_toArray, List.getElem?_cons_zero, List.getElem?_cons_succ] at X_0 X_1 X_2 Y_0 Y_1 Y_2
  go_wp2_with fail
  clear X_0 X_1 X_2 Y_0 Y_1 Y_2
  obtain ⟨W6, hW6⟩ : ∃ W', W' = W5.alloc (.cells #[.slice P1 nP1 cP1, .slice P2 nP2 cP2, .slice P3 nP3 cP3] 26) := ⟨_, rfl⟩
  have hk5 : Below W5.heap.size W5 W6 := by rw [hW6]; exact (Below.refl _ _).alloc (Nat.le_refl _) _
  have HZX : BK W6 W5.heap.size 26 #[.slice P1 nP1 cP1, .slice P2 nP2 cP2, .slice P3 nP3 cP3] := by rw [hW6]; exact BK.new _ _ _
  rw [← hW6]
  clear hW6
  have hB6 := hB5.trans (hk5.mono hB5.size)
  have hX6 := hX5.below hk5 hX5.lt
  have hY6 := hY5.below hk5 hY5.lt
  have HPN : Hid (BK W6 W5.heap.size 26 #[.slice P1 nP1 cP1, .slice P2 nP2 cP2, .slice P3 nP3 cP3]) := HZX
  have hP6 := HPN.out
  have HRP := Lib.hid (HRP.out.grow hk5 hk5.size)
  clear HZX
  have X_0 := fun d os => cell_regrown (hX6.cell 0) d os
  have X_1 := fun d os => cell_regrown (hX6.cell 1) d os
  have X_2 := fun d os => cell_regrown (hX6.cell 2) d os
  have Y_0 := fun d os => cell_regrown (hY6.cell 0) d os
  have Y_1 := fun d os => cell_regrown (hY6.cell 1) d os
  have Y_2 := fun d os => cell_regrown (hY6.cell 2) d os
  go_wp2_with fail
  refine wp_region_ch 4 [1, 3] hmo (by kernel_rfl) ?_
  simp only [List.take_succ_cons, List.take_zero, List.drop_succ_cons, List.drop_zero]
  repeat (refine wpC_q (by decide) (by decide) (fun K hK => ?_); go_simp; refine hK _ ?_; clear hK K)
  refine wpC_c (ι := Unit) 22 #[.agg #[.slice pa pn pc, .slice ca cn cc, .slice ja jn jc]] (fun _ => .int .i64 (sumL R.ps)) (fun _ _ => True) (by decide) (by decide) rfl (fun w => by go_simp) stable_true (fun _ => stable_true) (fun W hW hΦ => ?_) (fun i1 hs1 => ?_)
  · obtain ⟨p, rfl⟩ := hW
    have hb := below_regrown W6 p.d p.os
    have hb' := hB6.trans (hb.mono hB6.size)
    refine (rLength_any pa pn pc ca cn cc ja jn jc R _ (hR.out.grow hb' hb'.size) hv'.out.pk (by omega)).mono ?_
    rintro e w' ⟨rfl, hbl⟩
    exact ⟨(), rfl, trivial, hbl⟩
  repeat (refine wpC_q (by decide) (by decide) (fun K hK => ?_); go_simp; refine hK _ ?_; clear hK K)
  refine wpC_c (ι := Unit) 22 #[.agg #[.slice pa2 pn2 pc2, .slice ca2 cn2 cc2, .slice ja2 jn2 jc2]] (fun _ => .int .i64 (sumL R2.ps)) (fun _ _ => True) (by decide) (by decide) rfl (fun w => by go_simp) hs1 (fun _ => stable_true) (fun W hW hΦ => ?_) (fun i2 hs2 => ?_)
  · obtain ⟨p, rfl⟩ := hW
    have hb := below_regrown W6 p.d p.os
    have hb' := hB6.trans (hb.mono hB6.size)
    refine (rLength_any pa2 pn2 pc2 ca2 cn2 cc2 ja2 jn2 jc2 R2 _ (hR2.out.grow hb' hb'.size) hv2'.out.pk (by omega)).mono ?_
    rintro e w' ⟨rfl, hbl⟩
    exact ⟨(), rfl, trivial, hbl⟩
  repeat (refine wpC_q (by decide) (by decide) (fun K hK => ?_); go_simp; refine hK _ ?_; clear hK K)
  refine wpC_nil ?_
  intro W7 hk6 _
  clear hs1 hs2 X_0 X_1 X_2 Y_0 Y_1 Y_2
  have hB7 := hB6.trans (hk6.mono hB6.size)
  have hX7 := hX6.below hk6 hX6.lt
  have hY7 := hY6.below hk6 hY6.lt
  have hP7 := hP6.below hk6 hP6.lt
  have HRP := Lib.hid (HRP.out.grow hk6 hk6.size)
  have X_0 := hX7.cell 0
  have X_1 := hX7.cell 1
  have X_2 := hX7.cell 2
  have Y_0 := hY7.cell 0
  have Y_1 := hY7.cell 1
  have Y_2 := hY7.cell 2
  have P_0 := hP7.cell 0
  have P_1 := hP7.cell 1
  have P_2 := hP7.cell 2
  simp only [List.getElem?_toArray, List.getElem?_cons_zero, List.getElem?_cons_succ] at X_0 X_1 X_2 Y_0 Y_1 Y_2 P_0 P_1 P_2
  go_wp2_with fail
  clear X_0 X_1 X_2 Y_0 Y_1 Y_2 P_0 P_1 P_2
  refine (rSafer_res pa pn pc ca cn cc ja jn jc R pa2 pn2 pc2 ca2 cn2 cc2 ja2 jn2 jc2 R2 W7 (hR.out.grow hB7 hB7.size) (hR2.out.grow hB7 hB7.size) hv'.out hv2'.out HSE.out (by omega)).mono ?_
  rintro e W8 ⟨⟨Q1, nQ1, cQ1, Q2, nQ2, cQ2, Q3, nQ3, cQ3, HE, hd⟩, hk7⟩
  rw [HTE.out] at HE hd
  dsimp only at HE hd
  subst HE
  have HRP := Lib.hid (HRP.out.grow hk7 hk7.size)
  have hB8 := hB7.trans (hk7.mono hB7.size)
  have hX8 := hX7.below hk7 hX7.lt
  have hY8 := hY7.below hk7 hY7.lt
  have hP8 := hP7.below hk7 hP7.lt
  have bQ1 : nQ1 ≤ 2000 := by rw [hd.p.1]; exact t1
  have bQ2 : nQ2 ≤ 1000 := by rw [hd.c.1]; exact t2
  have bQ3 : nQ3 ≤ 200 := by rw [hd.j.1]; exact t3
  have HRQ := Lib.hid hd
  clear hd
  have hlX := hX8.lt
  have hlY := hY8.lt
  have hlP := hP8.lt
  have X_0 := hX8.cell 0
  have X_1 := hX8.cell 1
  have X_2 := hX8.cell 2
  have Y_0 := hY8.cell 0
  have Y_1 := hY8.cell 1
  have Y_2 := hY8.cell 2
  have P_0 := hP8.cell 0
  have P_1 := hP8.cell 1
  have P_2 := hP8.cell 2
  simp only [List.getElem?_toArray, List.getElem?_cons_zero, List.getElem?_cons_succ] at X_0 X_1 X_2 Y_0 Y_1 Y_2 P_0 P_1 P_2
  go_wp2_with fail
  clear X_0 X_1 X_2 Y_0 Y_1 Y_2 P_0 P_1 P_2
  obtain ⟨W9, hW9⟩ : ∃ W', W' = W8.alloc (.cells #[.slice Q1 nQ1 cQ1, .slice Q2 nQ2 cQ2, .slice Q3 nQ3 cQ3] 26) := ⟨_, rfl⟩
  have hk8 : Below W8.heap.size W8 W9 := by rw [hW9]; exact (Below.refl _ _).alloc (Nat.le_refl _) _
  have HZX : BK W9 W8.heap.size 26 #[.slice Q1 nQ1 cQ1, .slice Q2 nQ2 cQ2, .slice Q3 nQ3 cQ3] := by rw [hW9]; exact BK.new _ _ _
  rw [← hW9]
  clear hW9
  have hB9 := hB8.trans (hk8.mono hB8.size)
  have hX9 := hX8.below hk8 hX8.lt
  have hY9 := hY8.below hk8 hY8.lt
  have hP9 := hP8.below hk8 hP8.lt
  have HQN : Hid (BK W9 W8.heap.size 26 #[.slice Q1 nQ1 cQ1, .slice Q2 nQ2 cQ2, .slice Q3 nQ3 cQ3]) := HZX
  have hQ9 := HQN.out
  have HRP := Lib.hid (HRP.out.grow hk8 hk8.size)
  have HRQ := Lib.hid (HRQ.out.grow hk8 hk8.size)
  clear HZX
  clear es
  have X_0 := hX9.cell 0
  have X_1 := hX9.cell 1
  have X_2 := hX9.cell 2
  have Y_0 := hY9.cell 0
  have Y_1 := hY9.cell 1
  have Y_2 := hY9.cell 2
  have P_0 := hP9.cell 0
  have P_1 := hP9.cell 1
  have P_2 := hP9.cell 2
  have Q_0 := hQ9.cell 0
  have Q_1 := hQ9.cell 1
  have Q_2 := hQ9.cell 2
  simp only [List.getElem?_toArray, List.getElem?_cons_zero, List.getElem?_cons_succ] at X_0 X_1 X_2 Y_0 Y_1 Y_2 P_0 P_1 P_2 Q_0 Q_1 Q_2
  go_wp2_with fail
  clear X_0 X_1 X_2 Y_0 Y_1 Y_2 P_0 P_1 P_2 Q_0 Q_1 Q_2
  refine (Safer_res pa2 pn2 pc2 ca2 cn2 cc2 ja2 jn2 jc2 R2 pa pn pc ca cn cc ja jn jc R W9 (hR2.out.grow hB9 hB9.size) (hR.out.grow hB9 hB9.size) hv2'.out hv'.out HSE.out.symm (by omega)).mono ?_
  rintro e W10 ⟨⟨S1, nS1, cS1, S2, nS2, cS2, S3, nS3, cS3, HE, hd⟩, hk9⟩
  rw [HTO.out] at HE hd
  dsimp only at HE hd
  subst HE
  have HRP := Lib.hid (HRP.out.grow hk9 hk9.size)
  have HRQ := Lib.hid (HRQ.out.grow hk9 hk9.size)
  have hB10 := hB9.trans (hk9.mono hB9.size)
  have hX10 := hX9.below hk9 hX9.lt
  have hY10 := hY9.below hk9 hY9.lt
  have hP10 := hP9.below hk9 hP9.lt
  have hQ10 := hQ9.below hk9 hQ9.lt
  have bS1 : nS1 ≤ 2000 := by rw [hd.p.1]; exact t1
  have bS2 : nS2 ≤ 1000 := by rw [hd.c.1]; exact t2
  have bS3 : nS3 ≤ 200 := by rw [hd.j.1]; exact t3
  have HRS := Lib.hid hd
  clear hd
  have hlX := hX10.lt
  have hlY := hY10.lt
  have hlP := hP10.lt
  have hlQ := hQ10.lt
  have X_0 := hX10.cell 0
  have X_1 := hX10.cell 1
  have X_2 := hX10.cell 2
  have Y_0 := hY10.cell 0
  have Y_1 := hY10.cell 1
  have Y_2 := hY10.cell 2
  have P_0 := hP10.cell 0
  have P_1 := hP10.cell 1
  have P_2 := hP10.cell 2
  have Q_0 := hQ10.cell 0
  have Q_1 := hQ10.cell 1
  have Q_2 := hQ10.cell 2
  simp only [List.getElem?_toArray, List.getElem?_cons_zero, List.getElem?_cons_succ] at X_0 X_1 X_2 Y_0 Y_1 Y_2 P_0 P_1 P_2 Q_0 Q_1 Q_2
  go_wp2_with fail
  clear X_0 X_1 X_2 Y_0 Y_1 Y_2 P_0 P_1 P_2 Q_0 Q_1 Q_2
  obtain ⟨W11, hW11⟩ : ∃ W', W' = W10.alloc (.cells #[.slice S1 nS1 cS1, .slice S2 nS2 cS2, .slice S3 nS3 cS3] 26) := ⟨_, rfl⟩
  have hk10 : Below W10.heap.size W10 W11 := by rw [hW11]; exact (Below.refl _ _).alloc (Nat.le_refl _) _
  have HZX : BK W11 W10.heap.size 26 #[.slice S1 nS1 cS1, .slice S2 nS2 cS2, .slice S3 nS3 cS3] := by rw [hW11]; exact BK.new _ _ _
  rw [← hW11]
  clear hW11
  have hB11 := hB10.trans (hk10.mono hB10.size)
  have hX11 := hX10.below hk10 hX10.lt
  have hY11 := hY10.below hk10 hY10.lt
  have hP11 := hP10.below hk10 hP10.lt
  have hQ11 := hQ10.below hk10 hQ10.lt
  have HSN : Hid (BK W11 W10.heap.size 26 #[.slice S1 nS1 cS1, .slice S2 nS2 cS2, .slice S3 nS3 cS3]) := HZX
  have hS11 := HSN.out
  have HRP := Lib.hid (HRP.out.grow hk10 hk10.size)
  have HRQ := Lib.hid (HRQ.out.grow hk10 hk10.size)
  have HRS := Lib.hid (HRS.out.grow hk10 hk10.size)
  clear HZX
  have X_0 := hX11.cell 0
  have X_1 := hX11.cell 1
  have X_2 := hX11.cell 2
  have Y_0 := hY11.cell 0
  have Y_1 := hY11.cell 1
  have Y_2 := hY11.cell 2
  have P_0 := hP11.cell 0
  have P_1 := hP11.cell 1
  have P_2 := hP11.cell 2
  have Q_0 := hQ11.cell 0
  have Q_1 := hQ11.cell 1
  have Q_2 := hQ11.cell 2
  have S_0 := hS11.cell 0
  have S_1 := hS11.cell 1
  have S_2 := hS11.cell 2
  simp only [List.getElem?_toArray, List.getElem?_cons_zero, List.getElem?_cons_succ] at X_0 X_1 X_2 Y_0 Y_1 Y_2 P_0 P_1 P_2 Q_0 Q_1 Q_2 S_0 S_1 S_2
  go_wp2_with fail
  clear X_0 X_1 X_2 Y_0 Y_1 Y_2 P_0 P_1 P_2 Q_0 Q_1 Q_2 S_0 S_1 S_2
  refine (Safer_res pa pn pc ca cn cc ja jn jc R pa pn pc ca cn cc ja jn jc R W11 (hR.out.grow hB11 hB11.size) (hR.out.grow hB11 hB11.size) hv'.out hv'.out rfl (by omega)).mono ?_
  rintro e W12 ⟨⟨U1, nU1, cU1, U2, nU2, cU2, U3, nU3, cU3, HE, hd⟩, hk11⟩
  rw [HTW.out] at HE hd
  dsimp only at HE hd
  subst HE
  have HRP := Lib.hid (HRP.out.grow hk11 hk11.size)
  have HRQ := Lib.hid (HRQ.out.grow hk11 hk11.size)
  have HRS := Lib.hid (HRS.out.grow hk11 hk11.size)
  have hB12 := hB11.trans (hk11.mono hB11.size)
  have hX12 := hX11.below hk11 hX11.lt
  have hY12 := hY11.below hk11 hY11.lt
  have hP12 := hP11.below hk11 hP11.lt
  have hQ12 := hQ11.below hk11 hQ11.lt
  have hS12 := hS11.below hk11 hS11.lt
  have bU1 : nU1 ≤ 2000 := by rw [hd.p.1]; exact u1
  have bU2 : nU2 ≤ 1000 := by rw [hd.c.1]; exact u2
  have bU3 : nU3 ≤ 200 := by rw [hd.j.1]; exact u3
  have HRU := Lib.hid hd
  clear hd
  have hlX := hX12.lt
  have hlY := hY12.lt
  have hlP := hP12.lt
  have hlQ := hQ12.lt
  have hlS := hS12.lt
  have X_0 := hX12.cell 0
  have X_1 := hX12.cell 1
  have X_2 := hX12.cell 2
  have Y_0 := hY12.cell 0
  have Y_1 := hY12.cell 1
  have Y_2 := hY12.cell 2
  have P_0 := hP12.cell 0
  have P_1 := hP12.cell 1
  have P_2 := hP12.cell 2
  have Q_0 := hQ12.cell 0
  have Q_1 := hQ12.cell 1
  have Q_2 := hQ12.cell 2
  have S_0 := hS12.cell 0
  have S_1 := hS12.cell 1
  have S_2 := hS12.cell 2
  simp only [List.getElem?_toArray, List.getElem?_cons_zero, List.getElem?_cons_succ] at X_0 X_1 X_2 Y_0 Y_1 Y_2 P_0 P_1 P_2 Q_0 Q_1 Q_2 S_0 S_1 S_2
  go_wp2_with fail
  clear X_0 X_1 X_2 Y_0 Y_1 Y_2 P_0 P_1 P_2 Q_0 Q_1 Q_2 S_0 S_1 S_2
  obtain ⟨W13, hW13⟩ : ∃ W', W' = W12.alloc (.cells #[.slice U1 nU1 cU1, .slice U2 nU2 cU2, .slice U3 nU3 cU3] 26) := ⟨_, rfl⟩
  have hk12 : Below W12.heap.size W12 W13 := by rw [hW13]; exact (Below.refl _ _).alloc (Nat.le_refl _) _
  have HZX : BK W13 W12.heap.size 26 #[.slice U1 nU1 cU1, .slice U2 nU2 cU2, .slice U3 nU3 cU3] := by rw [hW13]; exact BK.new _ _ _
  rw [← hW13]
  clear hW13
  have hB13 := hB12.trans (hk12.mono hB12.size)
  have hX13 := hX12.below hk12 hX12.lt
  have hY13 := hY12.below hk12 hY12.lt
  have hP13 := hP12.below hk12 hP12.lt
  have hQ13 := hQ12.below hk12 hQ12.lt
  have hS13 := hS12.below hk12 hS12.lt
  have HUN : Hid (BK W13 W12.heap.size 26 #[.slice U1 nU1 cU1, .slice U2 nU2 cU2, .slice U3 nU3 cU3]) := HZX
  have hU13 := HUN.out
  have HRP := Lib.hid (HRP.out.grow hk12 hk12.size)
  have HRQ := Lib.hid (HRQ.out.grow hk12 hk12.size)
  have HRS := Lib.hid (HRS.out.grow hk12 hk12.size)
  have HRU := Lib.hid (HRU.out.grow hk12 hk12.size)
  clear HZX
  obtain ⟨Wc, hWc⟩ : ∃ Wc, Wc = W13 := ⟨_, rfl⟩
  rw [← hWc] at hB13 hX13 hP13 hQ13 hS13 hU13 HRP HRQ HRS HRU ⊢
  have hXc := hX13
  have hPc := hP13
  have hQc := hQ13
  have hSc := hS13
  have hUc := hU13
  have hBc := hB13
  have hRc := Lib.hid (hR.out.grow hBc hBc.size)
  clear hWc
  obtain rfl : nQ1 = nP1 := by rw [HRQ.out.p.1, HRP.out.p.1]
  obtain rfl : nQ2 = nP2 := by rw [HRQ.out.c.1, HRP.out.c.1]
  obtain rfl : nQ3 = nP3 := by rw [HRQ.out.j.1, HRP.out.j.1]
  obtain rfl : nS1 = nQ1 := by rw [HRS.out.p.1, HRQ.out.p.1]
  obtain rfl : nS2 = nQ2 := by rw [HRS.out.c.1, HRQ.out.c.1]
  obtain rfl : nS3 = nQ3 := by rw [HRS.out.j.1, HRQ.out.j.1]
  have x_0 := fun d os => cell_regrown (hXc.cell 0) d os
  have x_1 := fun d os => cell_regrown (hXc.cell 1) d os
  have x_2 := fun d os => cell_regrown (hXc.cell 2) d os
  have p_0 := fun d os => cell_regrown (hPc.cell 0) d os
  have p_1 := fun d os => cell_regrown (hPc.cell 1) d os
  have p_2 := fun d os => cell_regrown (hPc.cell 2) d os
  have q_0 := fun d os => cell_regrown (hQc.cell 0) d os
  have q_1 := fun d os => cell_regrown (hQc.cell 1) d os
  have q_2 := fun d os => cell_regrown (hQc.cell 2) d os
  have s_0 := fun d os => cell_regrown (hSc.cell 0) d os
  have s_1 := fun d os => cell_regrown (hSc.cell 1) d os
  have s_2 := fun d os => cell_regrown (hSc.cell 2) d os
  have u_0 := fun d os => cell_regrown (hUc.cell 0) d os
  have u_1 := fun d os => cell_regrown (hUc.cell 1) d os
  have u_2 := fun d os => cell_regrown (hUc.cell 2) d os
  go_wp2_with fail
  refine wp_region_ch 31 [8, 11, 13, 16, 18, 22, 25, 26, 28, 29] hmo (by kernel_rfl) ?_
  simp only [List.take_succ_cons, List.take_zero, List.drop_succ_cons, List.drop_zero]
  repeat (refine wpC_q (by decide) (by decide) (fun K hK => ?_); go_simp; refine hK _ ?_; clear hK K)
  refine wpC_v (ι := Unit) (fun _ => .bool true) (fun _ _ => True) (by decide) (by decide) rfl stable_true (fun _ => stable_true) (fun W _ _ => ⟨(), W, by go_simp, trivial, Below.refl _ _⟩) (fun i0 hs0 => ?_)
  repeat (refine wpC_q (by decide) (by decide) (fun K hK => ?_); go_simp; refine hK _ ?_; clear hK K)
  refine wpC_cg (ι := Unit) 36 #[.agg #[.slice P1 nS1 cP1, .slice P2 nS2 cP2, .slice P3 nS3 cP3], .agg #[.slice Q1 nS1 cQ1, .slice Q2 nS2 cQ2, .slice Q3 nS3 cQ3]] (fun _ => .bool true) (fun _ _ => True) (by decide) (by decide) (by go_simp) (fun w => by go_simp) hs0 (fun _ => stable_true) (fun W hW hΦ => ?_) (fun i1 hs1 => ?_)
  · obtain ⟨p, rfl⟩ := hW
    have hb := below_regrown Wc p.d p.os
    refine (rSame_true P1 nS1 cP1 P2 nS2 cP2 P3 nS3 cP3 Q1 cQ1 Q2 cQ2 Q3 cQ3 T _ (HRP.out.grow hb hb.size) (HRQ.out.grow hb hb.size) (by omega) (by omega) (by omega)).mono ?_
    rintro e w' ⟨rfl, hbl⟩
    exact ⟨(), rfl, trivial, hbl⟩
  repeat (refine wpC_q (by decide) (by decide) (fun K hK => ?_); go_simp; refine hK _ ?_; clear hK K)
  refine wpC_v (ι := Unit) (fun _ => .bool true) (fun _ _ => True) (by decide) (by decide) rfl hs1 (fun _ => stable_true) (fun W _ _ => ⟨(), W, by go_simp, trivial, Below.refl _ _⟩) (fun i2 hs2 => ?_)
  repeat (refine wpC_q (by decide) (by decide) (fun K hK => ?_); go_simp; refine hK _ ?_; clear hK K)
  refine wpC_cg (ι := Unit) 36 #[.agg #[.slice S1 nS1 cS1, .slice S2 nS2 cS2, .slice S3 nS3 cS3], .agg #[.slice Q1 nS1 cQ1, .slice Q2 nS2 cQ2, .slice Q3 nS3 cQ3]] (fun _ => .bool true) (fun _ _ => True) (by decide) (by decide) (by go_simp) (fun w => by go_simp) hs2 (fun _ => stable_true) (fun W hW hΦ => ?_) (fun i3 hs3 => ?_)
  · obtain ⟨p, rfl⟩ := hW
    have hb := below_regrown Wc p.d p.os
    refine (rSame_true S1 nS1 cS1 S2 nS2 cS2 S3 nS3 cS3 Q1 cQ1 Q2 cQ2 Q3 cQ3 T _ (HRS.out.grow hb hb.size) (HRQ.out.grow hb hb.size) (by omega) (by omega) (by omega)).mono ?_
    rintro e w' ⟨rfl, hbl⟩
    exact ⟨(), rfl, trivial, hbl⟩
  repeat (refine wpC_q (by decide) (by decide) (fun K hK => ?_); go_simp; refine hK _ ?_; clear hK K)
  refine wpC_v (ι := Unit) (fun _ => .bool true) (fun _ _ => True) (by decide) (by decide) rfl hs3 (fun _ => stable_true) (fun W _ _ => ⟨(), W, by go_simp, trivial, Below.refl _ _⟩) (fun i4 hs4 => ?_)
  repeat (refine wpC_q (by decide) (by decide) (fun K hK => ?_); go_simp; refine hK _ ?_; clear hK K)
  refine wpC_v (ι := Unit) (fun _ => .bool true) (fun _ _ => True) (by decide) (by decide) rfl hs4 (fun _ => stable_true) (fun W _ _ => ⟨(), W, by go_simp, trivial, Below.refl _ _⟩) (fun i5 hs5 => ?_)
  repeat (refine wpC_q (by decide) (by decide) (fun K hK => ?_); go_simp; refine hK _ ?_; clear hK K)
  refine wpC_cg (ι := Value) 37 #[.agg #[.slice pa pn pc, .slice ca cn cc, .slice ja jn jc]] (fun i => i) (fun i x => ∃ a1 m1 b1 a2 m2 b2 a3 m3 b3, i = .agg #[.slice a1 m1 b1, .slice a2 m2 b2, .slice a3 m3 b3] ∧ RD x x.heap.size a1 m1 a2 m2 a3 m3 (normR R)) (by decide) (by decide) (by go_simp) (fun w => by go_simp) hs5 (fun i x y ⟨a1, m1, a2, a3, m2, a4, a5, m3, a6, e, hd⟩ hb => ⟨a1, m1, a2, a3, m2, a4, a5, m3, a6, e, hd.grow hb hb.size⟩) (fun W hW _ => ?_) (fun i6 hs6 => ?_)
  · obtain ⟨p, rfl⟩ := hW
    have hb := below_regrown Wc p.d p.os
    refine (RNormal_in pa pn pc ca cn cc ja jn jc R _ (hRc.out.grow hb hb.size) hv'.out).mono ?_
    rintro e w' ⟨a1, m1, b1, a2, b2, a3, b3, rfl, ⟨o1, o2, o3⟩, hbl⟩
    have hd := RD.mk (R := normR R) (o1.sl pC_len) (o2.sl cC_len) (o3.sl jC_len)
    exact ⟨_, rfl, ⟨a1, m1, b1, a2, _, b2, a3, _, b3, rfl, hd⟩, hbl⟩
  repeat (refine wpC_q (by decide) (by decide) (fun K hK => ?_); go_simp; refine hK _ ?_; clear hK K)
  refine wpC_cg (ι := Unit) 36 #[.agg #[.slice U1 nU1 cU1, .slice U2 nU2 cU2, .slice U3 nU3 cU3], i6] (fun _ => .bool true) (fun _ _ => True) (by decide) (by decide) (by go_simp) (fun w => by go_simp) hs6 (fun _ => stable_true) (fun W hW hΦ => ?_) (fun i7 hs7 => ?_)
  · obtain ⟨p, rfl⟩ := hW
    have hb := below_regrown Wc p.d p.os
    obtain ⟨-, a1, m1, b1, a2, m2, b2, a3, m3, b3, rfl, hd⟩ := hΦ
    obtain rfl : m1 = nU1 := by rw [hd.p.1, HRU.out.p.1]
    obtain rfl : m2 = nU2 := by rw [hd.c.1, HRU.out.c.1]
    obtain rfl : m3 = nU3 := by rw [hd.j.1, HRU.out.j.1]
    refine (rSame_true U1 m1 cU1 U2 m2 cU2 U3 m3 cU3 a1 b1 a2 b2 a3 b3 (normR R) _ (HRU.out.grow hb hb.size) hd (by omega) (by omega) (by omega)).mono ?_
    rintro e w' ⟨rfl, hbl⟩
    exact ⟨(), rfl, trivial, hbl⟩
  repeat (refine wpC_q (by decide) (by decide) (fun K hK => ?_); go_simp; refine hK _ ?_; clear hK K)
  refine wpC_v (ι := Unit) (fun _ => .bool true) (fun _ _ => True) (by decide) (by decide) rfl hs7 (fun _ => stable_true) (fun W _ _ => ⟨(), W, by go_simp, trivial, Below.refl _ _⟩) (fun i8 hs8 => ?_)
  repeat (refine wpC_q (by decide) (by decide) (fun K hK => ?_); go_simp; refine hK _ ?_; clear hK K)
  refine wpC_cg (ι := Unit) 20 #[] (fun _ => .bool true) (fun _ _ => True) (by decide) (by decide) (by go_simp) (fun w => by go_simp) hs8 (fun _ => stable_true) (fun W hW hΦ => ?_) (fun i9 hs9 => ?_)
  · refine (known_any W).mono ?_
    rintro e w' ⟨rfl, hbl⟩
    exact ⟨(), rfl, trivial, hbl⟩
  repeat (refine wpC_q (by decide) (by decide) (fun K hK => ?_); go_simp; refine hK _ ?_; clear hK K)
  refine wpC_nil ?_
  intro We hke _
  clear hs0 hs1 hs2 hs3 hs4 hs5 hs6 hs7 hs8 hs9 x_0 x_1 x_2 p_0 p_1 p_2 q_0 q_1 q_2 s_0 s_1 s_2 u_0 u_1 u_2
  go_wp2_with fail
  go_ret
  exact ⟨rfl, hBc.trans (hke.mono hBc.size)⟩
end Go.Proofs.Ytomloklckpcaiaa
