/- The law function RoadParts, walked: it returns true. -/
import Derived.Test.YtomloklckpcaiaaKnown
import Derived.Test.YtomloklckpcaiaaPartOut
import Derived.Test.YtomloklckpcaiaaPartM
import Derived.Test.YtomloklckpcaiaaLMany
import Derived.Test.YtomloklckpcaiaaLJoins
import Derived.Test.YtomloklckpcaiaaRNorm
import Derived.Test.YtomloklckpcaiaaNormR
namespace Go.Proofs.Ytomloklckpcaiaa
open Go.RowKit Go.Shelf Go.Sort Go.Proofs

set_option maxRecDepth 100000 in
set_option maxHeartbeats 8000000 in
theorem RoadParts_walk (f t : Int) (pa : Option Addr) (pn pc : Nat) (ca : Option Addr) (cn cc : Nat) (ja : Option Addr) (jn jc : Nat) (R : Road) (w : World) (h : RD w w.heap.size pa pn ca cn ja jn R) :
    Calls Try.prog 14 #[.agg #[.slice pa pn pc, .slice ca cn cc, .slice ja jn jc], .int .i64 f, .int .i64 t] w fun e w' => e = .returned (.bool true) ∧ Below w.heap.size w w' := by
  have hmo : Try.prog.follows .mixedOrders = true := by kernel_rfl
  have hR := Lib.hid h
  have hpl := Lib.hid h.p.1
  clear h
  go_enter Try.func14, Try.ntmps14
  go_wp2_with fail
  obtain ⟨W0, hW0⟩ : ∃ W0, W0 = w.alloc (.cells #[.slice pa pn pc, .slice ca cn cc, .slice ja jn jc] 26) := ⟨_, rfl⟩
  have hB0 : Below w.heap.size w W0 := by rw [hW0]; exact (Below.refl w.heap.size w).alloc (Nat.le_refl _) _
  have hX0 : BK W0 w.heap.size 26 #[.slice pa pn pc, .slice ca cn cc, .slice ja jn jc] := by rw [hW0]; exact BK.new w _ _
  rw [← hW0]
  clear hW0
  refine (small_any pa pn pc ca cn cc ja jn jc R W0 (hR.out.grow hB0 hB0.size)).mono ?_
  rintro e W1 ⟨rfl, hk0⟩
  have hB1 := hB0.trans (hk0.mono hB0.size)
  have hX1 := hX0.below hk0 hX0.lt
  cases hs : sml R
  · have X_0 := hX1.cell 0
    have X_1 := hX1.cell 1
    have X_2 := hX1.cell 2
    simp only [List.getElem?_toArray, List.getElem?_cons_zero, List.getElem?_cons_succ] at X_0 X_1 X_2
    go_wp2_with fail
    clear X_0 X_1 X_2
    refine (known_any W1).mono ?_
    rintro e W2 ⟨rfl, hk1⟩
    have hB2 := hB1.trans (hk1.mono hB1.size)
    have hX2 := hX1.below hk1 hX1.lt
    have X_0 := hX2.cell 0
    have X_1 := hX2.cell 1
    have X_2 := hX2.cell 2
    simp only [List.getElem?_toArray, List.getElem?_cons_zero, List.getElem?_cons_succ] at X_0 X_1 X_2
    go_wp2_with fail
    clear X_0 X_1 X_2
    go_ret
    exact ⟨rfl, hB2⟩
  have HS := Lib.hid hs
  clear hs
  have X_0 := hX1.cell 0
  have X_1 := hX1.cell 1
  have X_2 := hX1.cell 2
  simp only [List.getElem?_toArray, List.getElem?_cons_zero, List.getElem?_cons_succ] at X_0 X_1 X_2
  go_wp2_with fail
  clear X_0 X_1 X_2
  refine (Valid_any pa pn pc ca cn cc ja jn jc R W1 (hR.out.grow hB1 hB1.size)).mono ?_
  rintro e W2 ⟨rfl, hk1⟩
  have hB2 := hB1.trans (hk1.mono hB1.size)
  have hX2 := hX1.below hk1 hX1.lt
  cases hv : val R
  · have X_0 := hX2.cell 0
    have X_1 := hX2.cell 1
    have X_2 := hX2.cell 2
    simp only [List.getElem?_toArray, List.getElem?_cons_zero, List.getElem?_cons_succ] at X_0 X_1 X_2
    go_wp2_with fail
    clear X_0 X_1 X_2
    refine (known_any W2).mono ?_
    rintro e W3 ⟨rfl, hk2⟩
    have hB3 := hB2.trans (hk2.mono hB2.size)
    have hX3 := hX2.below hk2 hX2.lt
    have X_0 := hX3.cell 0
    have X_1 := hX3.cell 1
    have X_2 := hX3.cell 2
    simp only [List.getElem?_toArray, List.getElem?_cons_zero, List.getElem?_cons_succ] at X_0 X_1 X_2
    go_wp2_with fail
    clear X_0 X_1 X_2
    go_ret
    exact ⟨rfl, hB3⟩
  have hok := (val_iff R).1 hv
  have hv' := Lib.hid hok
  have hn1 := hok.n1
  have hp2 := hok.p2
  have hpn : pn ≤ 2000 := by rw [hpl.out]; exact hp2
  have hln := hok.len
  clear hv hok
  by_cases hbad : f < 0 ∨ t ≤ f ∨ sumL R.ps < t
  · have HO := Lib.hid hbad
    have X_0 := hX2.cell 0
    have X_1 := hX2.cell 1
    have X_2 := hX2.cell 2
    simp only [List.getElem?_toArray, List.getElem?_cons_zero, List.getElem?_cons_succ] at X_0 X_1 X_2
    go_wp2_with fail
    clear X_0 X_1 X_2
    refine (Part_out f t pa pn pc ca cn cc ja jn jc R W2 (hR.out.grow hB2 hB2.size) hv'.out HO.out).mono ?_
    rintro e W3 ⟨rfl, hk2⟩
    have hB3 := hB2.trans (hk2.mono hB2.size)
    have hX3 := hX2.below hk2 hX2.lt
    have hlX := hX3.lt
    have X_0 := hX3.cell 0
    have X_1 := hX3.cell 1
    have X_2 := hX3.cell 2
    simp only [List.getElem?_toArray, List.getElem?_cons_zero, List.getElem?_cons_succ] at X_0 X_1 X_2
    go_wp2_with fail
    clear X_0 X_1 X_2
    obtain ⟨W4, hW4⟩ : ∃ W', W' = W3.alloc (.cells #[.slice none 0 0, .slice none 0 0, .slice none 0 0] 26) := ⟨_, rfl⟩
    have hk3 : Below W3.heap.size W3 W4 := by rw [hW4]; exact (Below.refl _ _).alloc (Nat.le_refl _) _
    have HZX : BK W4 W3.heap.size 26 #[.slice none 0 0, .slice none 0 0, .slice none 0 0] := by rw [hW4]; exact BK.new _ _ _
    rw [← hW4]
    clear hW4
    have hB4 := hB3.trans (hk3.mono hB3.size)
    have hX4 := hX3.below hk3 hX3.lt
    have HPN : Hid (BK W4 W3.heap.size 26 #[.slice none 0 0, .slice none 0 0, .slice none 0 0]) := HZX
    have hP4 := HPN.out
    clear HZX
    refine (rLength_any pa pn pc ca cn cc ja jn jc R W4 (hR.out.grow hB4 hB4.size) hv'.out.pk (by omega)).mono ?_
    rintro e W5 ⟨rfl, hk4⟩
    have hB5 := hB4.trans (hk4.mono hB4.size)
    have hX5 := hX4.below hk4 hX4.lt
    have hP5 := hP4.below hk4 hP4.lt
    clear hbad
    by_cases e1 : f < 0
    case pos =>
      have d1 : decide (f < 0) = true := by simpa using e1
      have X_0 := hX5.cell 0
      have X_1 := hX5.cell 1
      have X_2 := hX5.cell 2
      have P_0 := hP5.cell 0
      have P_1 := hP5.cell 1
      have P_2 := hP5.cell 2
      simp only [List.getElem?_toArray, List.getElem?_cons_zero, List.getElem?_cons_succ] at X_0 X_1 X_2 P_0 P_1 P_2
      go_wp2_with fail
      clear X_0 X_1 X_2 P_0 P_1 P_2
      refine (none_any none 0 0 none 0 0 none 0 0 W5 (by omega) (by omega) (by omega)).mono ?_
      rintro e W6 ⟨rfl, hk5⟩
      have hB6 := hB5.trans (hk5.mono hB5.size)
      have hX6 := hX5.below hk5 hX5.lt
      have hP6 := hP5.below hk5 hP5.lt
      have X_0 := hX6.cell 0
      have X_1 := hX6.cell 1
      have X_2 := hX6.cell 2
      have P_0 := hP6.cell 0
      have P_1 := hP6.cell 1
      have P_2 := hP6.cell 2
      simp only [List.getElem?_toArray, List.getElem?_cons_zero, List.getElem?_cons_succ] at X_0 X_1 X_2 P_0 P_1 P_2
      go_wp2_with fail
      clear X_0 X_1 X_2 P_0 P_1 P_2
      refine (known_any W6).mono ?_
      rintro e W7 ⟨rfl, hk6⟩
      have hB7 := hB6.trans (hk6.mono hB6.size)
      have hX7 := hX6.below hk6 hX6.lt
      have hP7 := hP6.below hk6 hP6.lt
      have X_0 := hX7.cell 0
      have X_1 := hX7.cell 1
      have X_2 := hX7.cell 2
      have P_0 := hP7.cell 0
      have P_1 := hP7.cell 1
      have P_2 := hP7.cell 2
      simp only [List.getElem?_toArray, List.getElem?_cons_zero, List.getElem?_cons_succ] at X_0 X_1 X_2 P_0 P_1 P_2
      go_wp2_with fail
      clear X_0 X_1 X_2 P_0 P_1 P_2
      go_ret
      exact ⟨rfl, hB7⟩
    have d1 : decide (f < 0) = false := by simpa using e1
    by_cases e2 : t ≤ f
    case pos =>
      have d2 : decide (t ≤ f) = true := by simpa using e2
      have X_0 := hX5.cell 0
      have X_1 := hX5.cell 1
      have X_2 := hX5.cell 2
      have P_0 := hP5.cell 0
      have P_1 := hP5.cell 1
      have P_2 := hP5.cell 2
      simp only [List.getElem?_toArray, List.getElem?_cons_zero, List.getElem?_cons_succ] at X_0 X_1 X_2 P_0 P_1 P_2
      go_wp2_with fail
      clear X_0 X_1 X_2 P_0 P_1 P_2
      refine (none_any none 0 0 none 0 0 none 0 0 W5 (by omega) (by omega) (by omega)).mono ?_
      rintro e W6 ⟨rfl, hk5⟩
      have hB6 := hB5.trans (hk5.mono hB5.size)
      have hX6 := hX5.below hk5 hX5.lt
      have hP6 := hP5.below hk5 hP5.lt
      have X_0 := hX6.cell 0
      have X_1 := hX6.cell 1
      have X_2 := hX6.cell 2
      have P_0 := hP6.cell 0
      have P_1 := hP6.cell 1
      have P_2 := hP6.cell 2
      simp only [List.getElem?_toArray, List.getElem?_cons_zero, List.getElem?_cons_succ] at X_0 X_1 X_2 P_0 P_1 P_2
      go_wp2_with fail
      clear X_0 X_1 X_2 P_0 P_1 P_2
      refine (known_any W6).mono ?_
      rintro e W7 ⟨rfl, hk6⟩
      have hB7 := hB6.trans (hk6.mono hB6.size)
      have hX7 := hX6.below hk6 hX6.lt
      have hP7 := hP6.below hk6 hP6.lt
      have X_0 := hX7.cell 0
      have X_1 := hX7.cell 1
      have X_2 := hX7.cell 2
      have P_0 := hP7.cell 0
      have P_1 := hP7.cell 1
      have P_2 := hP7.cell 2
      simp only [List.getElem?_toArray, List.getElem?_cons_zero, List.getElem?_cons_succ] at X_0 X_1 X_2 P_0 P_1 P_2
      go_wp2_with fail
      clear X_0 X_1 X_2 P_0 P_1 P_2
      go_ret
      exact ⟨rfl, hB7⟩
    have d2 : decide (t ≤ f) = false := by simpa using e2
    have d3 : decide (sumL R.ps < t) = true := by have := HO.out; simp; omega
    have X_0 := hX5.cell 0
    have X_1 := hX5.cell 1
    have X_2 := hX5.cell 2
    have P_0 := hP5.cell 0
    have P_1 := hP5.cell 1
    have P_2 := hP5.cell 2
    simp only [List.getElem?_toArray, List.getElem?_cons_zero, List.getElem?_cons_succ] at X_0 X_1 X_2 P_0 P_1 P_2
    go_wp2_with fail
    clear X_0 X_1 X_2 P_0 P_1 P_2
    refine (none_any none 0 0 none 0 0 none 0 0 W5 (by omega) (by omega) (by omega)).mono ?_
    rintro e W6 ⟨rfl, hk5⟩
    have hB6 := hB5.trans (hk5.mono hB5.size)
    have hX6 := hX5.below hk5 hX5.lt
    have hP6 := hP5.below hk5 hP5.lt
    have X_0 := hX6.cell 0
    have X_1 := hX6.cell 1
    have X_2 := hX6.cell 2
    have P_0 := hP6.cell 0
    have P_1 := hP6.cell 1
    have P_2 := hP6.cell 2
    simp only [List.getElem?_toArray, List.getElem?_cons_zero, List.getElem?_cons_succ] at X_0 X_1 X_2 P_0 P_1 P_2
    go_wp2_with fail
    clear X_0 X_1 X_2 P_0 P_1 P_2
    refine (known_any W6).mono ?_
    rintro e W7 ⟨rfl, hk6⟩
    have hB7 := hB6.trans (hk6.mono hB6.size)
    have hX7 := hX6.below hk6 hX6.lt
    have hP7 := hP6.below hk6 hP6.lt
    have X_0 := hX7.cell 0
    have X_1 := hX7.cell 1
    have X_2 := hX7.cell 2
    have P_0 := hP7.cell 0
    have P_1 := hP7.cell 1
    have P_2 := hP7.cell 2
    simp only [List.getElem?_toArray, List.getElem?_cons_zero, List.getElem?_cons_succ] at X_0 X_1 X_2 P_0 P_1 P_2
    go_wp2_with fail
    clear X_0 X_1 X_2 P_0 P_1 P_2
    go_ret
    exact ⟨rfl, hB7⟩
  have hf0 : 0 ≤ f := by omega
  have hft : f < t := by omega
  have htn : t ≤ sumL R.ps := by omega
  have hok1 := part_ok hv'.out hf0 hft htn
  have d1 : decide (f < 0) = false := by simp; omega
  have d2 : decide (t ≤ f) = false := by simp; omega
  have d3 : decide (sumL R.ps < t) = false := by simp; omega
  clear hbad
  have X_0 := hX2.cell 0
  have X_1 := hX2.cell 1
  have X_2 := hX2.cell 2
  simp only [List.getElem?_toArray, List.getElem?_cons_zero, List.getElem?_cons_succ] at X_0 X_1 X_2
  go_wp2_with fail
  clear X_0 X_1 X_2
  refine (Part_in f t pa pn pc ca cn cc ja jn jc R W2 (hR.out.grow hB2 hB2.size) hv'.out hf0 hft htn).mono ?_
  rintro e W3 ⟨P1, nP1, cP1, P2, nP2, cP2, P3, nP3, cP3, rfl, ⟨o1, o2, o3⟩, hk2⟩
  have hB3 := hB2.trans (hk2.mono hB2.size)
  have hX3 := hX2.below hk2 hX2.lt
  have HRP := Lib.hid (RD.mk (o1.sl pC_len) (o2.sl cC_len) (o3.sl jC_len))
  have hb1 : nP1 ≤ 2000 := by rw [o1.2]; exact hok1.1.p2
  have hb2 : nP2 ≤ 1000 := by rw [o2.2]; exact hok1.1.c1
  have hb3 : nP3 ≤ 200 := by rw [o3.2]; exact hok1.1.j1
  have hlX := hX3.lt
  clear o1 o2 o3 hok1
  have X_0 := hX3.cell 0
  have X_1 := hX3.cell 1
  have X_2 := hX3.cell 2
  simp only [List.getElem?_toArray, List.getElem?_cons_zero, List.getElem?_cons_succ] at X_0 X_1 X_2
  go_wp2_with fail
  clear X_0 X_1 X_2
  obtain ⟨W4, hW4⟩ : ∃ W', W' = W3.alloc (.cells #[.slice P1 nP1 cP1, .slice P2 nP2 cP2, .slice P3 nP3 cP3] 26) := ⟨_, rfl⟩
  have hk3 : Below W3.heap.size W3 W4 := by rw [hW4]; exact (Below.refl _ _).alloc (Nat.le_refl _) _
  have HZX : BK W4 W3.heap.size 26 #[.slice P1 nP1 cP1, .slice P2 nP2 cP2, .slice P3 nP3 cP3] := by rw [hW4]; exact BK.new _ _ _
  rw [← hW4]
  clear hW4
  have hB4 := hB3.trans (hk3.mono hB3.size)
  have hX4 := hX3.below hk3 hX3.lt
  have HPN : Hid (BK W4 W3.heap.size 26 #[.slice P1 nP1 cP1, .slice P2 nP2 cP2, .slice P3 nP3 cP3]) := HZX
  have hP4 := HPN.out
  have HRP := Lib.hid (HRP.out.grow hk3 hk3.size)
  clear HZX
  refine (rLength_any pa pn pc ca cn cc ja jn jc R W4 (hR.out.grow hB4 hB4.size) hv'.out.pk (by omega)).mono ?_
  rintro e W5 ⟨rfl, hk4⟩
  have HRP := Lib.hid (HRP.out.grow hk4 hk4.size)
  have hB5 := hB4.trans (hk4.mono hB4.size)
  have hX5 := hX4.below hk4 hX4.lt
  have hP5 := hP4.below hk4 hP4.lt
  obtain ⟨Wc, hWc⟩ : ∃ Wc, Wc = W5 := ⟨_, rfl⟩
  rw [← hWc] at hB5 hX5 hP5 HRP ⊢
  have hXc := hX5
  have hPc := hP5
  have hBc := hB5
  have hRc := Lib.hid (hR.out.grow hBc hBc.size)
  clear hWc
  have x_0 := fun d os => cell_regrown (hXc.cell 0) d os
  have x_1 := fun d os => cell_regrown (hXc.cell 1) d os
  have x_2 := fun d os => cell_regrown (hXc.cell 2) d os
  have p_0 := fun d os => cell_regrown (hPc.cell 0) d os
  have p_1 := fun d os => cell_regrown (hPc.cell 1) d os
  have p_2 := fun d os => cell_regrown (hPc.cell 2) d os
  go_wp2_with fail
  refine wp_region_ch 10 [7, 8] hmo (by kernel_rfl) ?_
  simp only [List.take_succ_cons, List.take_zero, List.drop_succ_cons, List.drop_zero]
  repeat (refine wpC_q (by decide) (by decide) (fun K hK => ?_); go_simp; refine hK _ ?_; clear hK K)
  refine wpC_cg (ι := Value) 45 #[.agg #[.slice pa pn pc, .slice ca cn cc, .slice ja jn jc], .int .i64 f, .int .i64 t] (fun i => i) (fun i x => ∃ a1 m1 b1 a2 m2 b2 a3 m3 b3, i = .agg #[.slice a1 m1 b1, .slice a2 m2 b2, .slice a3 m3 b3] ∧ RD x x.heap.size a1 m1 a2 m2 a3 m3 (partR f t R)) (by decide) (by decide) (by go_simp) (fun w => by go_simp) stable_true (fun i x y ⟨a1, m1, a2, a3, m2, a4, a5, m3, a6, e, hd⟩ hb => ⟨a1, m1, a2, a3, m2, a4, a5, m3, a6, e, hd.grow hb hb.size⟩) (fun W hW _ => ?_) (fun i4 hs4 => ?_)
  · obtain ⟨p, rfl⟩ := hW
    have hb := below_regrown Wc p.d p.os
    refine (rPart_in f t pa pn pc ca cn cc ja jn jc R _ (hRc.out.grow hb hb.size) hv'.out (by omega) (by omega) (by omega) (by omega)).mono ?_
    rintro e w' ⟨a1, m1, b1, a2, m2, b2, a3, m3, b3, rfl, ⟨o1, o2, o3⟩, hbl⟩
    exact ⟨_, rfl, ⟨a1, m1, b1, a2, m2, b2, a3, m3, b3, rfl, o1.sl pC_len, o2.sl cC_len, o3.sl jC_len⟩, hbl⟩
  refine wpC_cg (ι := Unit) 36 #[.agg #[.slice P1 nP1 cP1, .slice P2 nP2 cP2, .slice P3 nP3 cP3], i4] (fun _ => .bool true) (fun _ _ => True) (by decide) (by decide) (by go_simp) (fun w => by go_simp) hs4 (fun _ => stable_true) (fun W hW hΦ => ?_) (fun i5 hs5 => ?_)
  · obtain ⟨p, rfl⟩ := hW
    have hb := below_regrown Wc p.d p.os
    obtain ⟨-, a1, m1, b1, a2, m2, b2, a3, m3, b3, rfl, hd⟩ := hΦ
    obtain rfl : m1 = nP1 := by rw [hd.p.1, HRP.out.p.1]
    obtain rfl : m2 = nP2 := by rw [hd.c.1, HRP.out.c.1]
    obtain rfl : m3 = nP3 := by rw [hd.j.1, HRP.out.j.1]
    refine (rSame_true P1 m1 cP1 P2 m2 cP2 P3 m3 cP3 a1 b1 a2 b2 a3 b3 (partR f t R) _ (HRP.out.grow hb hb.size) hd (by omega) (by omega) (by omega)).mono ?_
    rintro e w' ⟨rfl, hbl⟩
    exact ⟨(), rfl, trivial, hbl⟩
  repeat (refine wpC_q (by decide) (by decide) (fun K hK => ?_); go_simp; refine hK _ ?_; clear hK K)
  refine wpC_nil ?_
  intro W6 hk5 _
  clear hs4 hs5 x_0 x_1 x_2 p_0 p_1 p_2
  have hB6 := hBc.trans (hk5.mono hBc.size)
  have hX6 := hXc.below hk5 hXc.lt
  have hP6 := hPc.below hk5 hPc.lt
  clear hXc hPc hBc hRc HRP
  by_cases he : t = sumL R.ps
  case pos =>
    have d4 : (t == sumL R.ps) = true := by simpa using he
    have X_0 := hX6.cell 0
    have X_1 := hX6.cell 1
    have X_2 := hX6.cell 2
    have P_0 := hP6.cell 0
    have P_1 := hP6.cell 1
    have P_2 := hP6.cell 2
    simp only [List.getElem?_toArray, List.getElem?_cons_zero, List.getElem?_cons_succ] at X_0 X_1 X_2 P_0 P_1 P_2
    go_wp2_with fail
    clear X_0 X_1 X_2 P_0 P_1 P_2
    refine (known_any W6).mono ?_
    rintro e W7 ⟨rfl, hk6⟩
    have hB7 := hB6.trans (hk6.mono hB6.size)
    have hX7 := hX6.below hk6 hX6.lt
    have hP7 := hP6.below hk6 hP6.lt
    have X_0 := hX7.cell 0
    have X_1 := hX7.cell 1
    have X_2 := hX7.cell 2
    have P_0 := hP7.cell 0
    have P_1 := hP7.cell 1
    have P_2 := hP7.cell 2
    simp only [List.getElem?_toArray, List.getElem?_cons_zero, List.getElem?_cons_succ] at X_0 X_1 X_2 P_0 P_1 P_2
    go_wp2_with fail
    clear X_0 X_1 X_2 P_0 P_1 P_2
    go_ret
    exact ⟨rfl, hB7⟩
  have d4 : (t == sumL R.ps) = false := by simpa using he
  have ht0 : 0 < t := by omega
  have htn2 : t < sumL R.ps := by omega
  obtain ⟨ok1, hs1⟩ := part_ok hv'.out (f := 0) (t := t) (Int.le_refl 0) ht0 htn
  obtain ⟨ok2, hs2⟩ := part_ok hv'.out (f := t) (t := sumL R.ps) (by omega) htn2 (Int.le_refl _)
  obtain ⟨hnj, hokj, hfit⟩ := part_join hv'.out (sml_bd hv'.out HS.out).1 ht0 htn2
  have OK1 := Lib.hid ok1
  have OK2 := Lib.hid ok2
  have OKJ := Lib.hid hokj
  have HNJ := Lib.hid hnj
  have HFT := Lib.hid hfit
  clear ok1 hs1 ok2 hs2 hnj hokj hfit he
  have X_0 := hX6.cell 0
  have X_1 := hX6.cell 1
  have X_2 := hX6.cell 2
  have P_0 := hP6.cell 0
  have P_1 := hP6.cell 1
  have P_2 := hP6.cell 2
  simp only [List.getElem?_toArray, List.getElem?_cons_zero, List.getElem?_cons_succ] at X_0 X_1 X_2 P_0 P_1 P_2
  go_wp2_with fail
  clear X_0 X_1 X_2 P_0 P_1 P_2
  refine (Part_in 0 t pa pn pc ca cn cc ja jn jc R W6 (hR.out.grow hB6 hB6.size) hv'.out (Int.le_refl 0) ht0 htn).mono ?_
  rintro e W7 ⟨U1, nU1, cU1, U2, nU2, cU2, U3, nU3, cU3, rfl, ⟨o1, o2, o3⟩, hk6⟩
  have hB7 := hB6.trans (hk6.mono hB6.size)
  have hX7 := hX6.below hk6 hX6.lt
  have hP7 := hP6.below hk6 hP6.lt
  have HRU := Lib.hid (RD.mk (o1.sl pC_len) (o2.sl cC_len) (o3.sl jC_len))
  have hu1 : nU1 ≤ 2000 := by rw [o1.2]; exact OK1.out.p2
  have hlX := hX7.lt
  have hlP := hP7.lt
  clear o1 o2 o3
  have X_0 := hX7.cell 0
  have X_1 := hX7.cell 1
  have X_2 := hX7.cell 2
  have P_0 := hP7.cell 0
  have P_1 := hP7.cell 1
  have P_2 := hP7.cell 2
  simp only [List.getElem?_toArray, List.getElem?_cons_zero, List.getElem?_cons_succ] at X_0 X_1 X_2 P_0 P_1 P_2
  go_wp2_with fail
  clear X_0 X_1 X_2 P_0 P_1 P_2
  obtain ⟨W8, hW8⟩ : ∃ W', W' = W7.alloc (.cells #[.slice U1 nU1 cU1, .slice U2 nU2 cU2, .slice U3 nU3 cU3] 26) := ⟨_, rfl⟩
  have hk7 : Below W7.heap.size W7 W8 := by rw [hW8]; exact (Below.refl _ _).alloc (Nat.le_refl _) _
  have HZX : BK W8 W7.heap.size 26 #[.slice U1 nU1 cU1, .slice U2 nU2 cU2, .slice U3 nU3 cU3] := by rw [hW8]; exact BK.new _ _ _
  rw [← hW8]
  clear hW8
  have hB8 := hB7.trans (hk7.mono hB7.size)
  have hX8 := hX7.below hk7 hX7.lt
  have hP8 := hP7.below hk7 hP7.lt
  have HUN : Hid (BK W8 W7.heap.size 26 #[.slice U1 nU1 cU1, .slice U2 nU2 cU2, .slice U3 nU3 cU3]) := HZX
  have hU8 := HUN.out
  have HRU := Lib.hid (HRU.out.grow hk7 hk7.size)
  clear HZX
  refine (Part_in t (sumL R.ps) pa pn pc ca cn cc ja jn jc R W8 (hR.out.grow hB8 hB8.size) hv'.out (by omega) htn2 (Int.le_refl _)).mono ?_
  rintro e W9 ⟨V1, nV1, cV1, V2, nV2, cV2, V3, nV3, cV3, rfl, ⟨o1, o2, o3⟩, hk8⟩
  have HRU := Lib.hid (HRU.out.grow hk8 hk8.size)
  have hB9 := hB8.trans (hk8.mono hB8.size)
  have hX9 := hX8.below hk8 hX8.lt
  have hP9 := hP8.below hk8 hP8.lt
  have hU9 := hU8.below hk8 hU8.lt
  have HRV := Lib.hid (RD.mk (o1.sl pC_len) (o2.sl cC_len) (o3.sl jC_len))
  have hv1 : nV1 ≤ 2000 := by rw [o1.2]; exact OK2.out.p2
  have hlX := hX9.lt
  have hlP := hP9.lt
  have hlU := hU9.lt
  clear o1 o2 o3
  have X_0 := hX9.cell 0
  have X_1 := hX9.cell 1
  have X_2 := hX9.cell 2
  have P_0 := hP9.cell 0
  have P_1 := hP9.cell 1
  have P_2 := hP9.cell 2
  have U_0 := hU9.cell 0
  have U_1 := hU9.cell 1
  have U_2 := hU9.cell 2
  simp only [List.getElem?_toArray, List.getElem?_cons_zero, List.getElem?_cons_succ] at X_0 X_1 X_2 P_0 P_1 P_2 U_0 U_1 U_2
  go_wp2_with fail
  clear X_0 X_1 X_2 P_0 P_1 P_2 U_0 U_1 U_2
  obtain ⟨W10, hW10⟩ : ∃ W', W' = W9.alloc (.cells #[.slice V1 nV1 cV1, .slice V2 nV2 cV2, .slice V3 nV3 cV3] 26) := ⟨_, rfl⟩
  have hk9 : Below W9.heap.size W9 W10 := by rw [hW10]; exact (Below.refl _ _).alloc (Nat.le_refl _) _
  have HZX : BK W10 W9.heap.size 26 #[.slice V1 nV1 cV1, .slice V2 nV2 cV2, .slice V3 nV3 cV3] := by rw [hW10]; exact BK.new _ _ _
  rw [← hW10]
  clear hW10
  have hB10 := hB9.trans (hk9.mono hB9.size)
  have hX10 := hX9.below hk9 hX9.lt
  have hP10 := hP9.below hk9 hP9.lt
  have hU10 := hU9.below hk9 hU9.lt
  have HVN : Hid (BK W10 W9.heap.size 26 #[.slice V1 nV1 cV1, .slice V2 nV2 cV2, .slice V3 nV3 cV3]) := HZX
  have hV10 := HVN.out
  have HRU := Lib.hid (HRU.out.grow hk9 hk9.size)
  have HRV := Lib.hid (HRV.out.grow hk9 hk9.size)
  clear HZX
  have X_0 := hX10.cell 0
  have X_1 := hX10.cell 1
  have X_2 := hX10.cell 2
  have P_0 := hP10.cell 0
  have P_1 := hP10.cell 1
  have P_2 := hP10.cell 2
  have U_0 := hU10.cell 0
  have U_1 := hU10.cell 1
  have U_2 := hU10.cell 2
  have V_0 := hV10.cell 0
  have V_1 := hV10.cell 1
  have V_2 := hV10.cell 2
  simp only [List.getElem?_toArray, List.getElem?_cons_zero, List.getElem?_cons_succ] at X_0 X_1 X_2 P_0 P_1 P_2 U_0 U_1 U_2 V_0 V_1 V_2
  go_wp2_with fail
  clear X_0 X_1 X_2 P_0 P_1 P_2 U_0 U_1 U_2 V_0 V_1 V_2
  refine (Join_in U1 nU1 cU1 U2 nU2 cU2 U3 nU3 cU3 (partR 0 t R) V1 nV1 cV1 V2 nV2 cV2 V3 nV3 cV3 (partR t (sumL R.ps) R) W10 HRU.out HRV.out OK1.out OK2.out).mono ?_
  rintro e W11 ⟨Q1, cQ1, Q2, nQ2, cQ2, Q3, nQ3, cQ3, rfl, ⟨o1, o2, o3⟩, hk10⟩
  rw [boundV, if_pos HFT.out]
  have hB11 := hB10.trans (hk10.mono hB10.size)
  have hX11 := hX10.below hk10 hX10.lt
  have hP11 := hP10.below hk10 hP10.lt
  have hU11 := hU10.below hk10 hU10.lt
  have hV11 := hV10.below hk10 hV10.lt
  have HRQ := Lib.hid (RD.mk (o1.sl pC_len) (o2.sl cC_len) (o3.sl jC_len))
  have hlX := hX11.lt
  have hlP := hP11.lt
  have hlU := hU11.lt
  have hlV := hV11.lt
  clear o1 o2 o3 HRU HRV
  have X_0 := hX11.cell 0
  have X_1 := hX11.cell 1
  have X_2 := hX11.cell 2
  have P_0 := hP11.cell 0
  have P_1 := hP11.cell 1
  have P_2 := hP11.cell 2
  have U_0 := hU11.cell 0
  have U_1 := hU11.cell 1
  have U_2 := hU11.cell 2
  have V_0 := hV11.cell 0
  have V_1 := hV11.cell 1
  have V_2 := hV11.cell 2
  simp only [List.getElem?_toArray, List.getElem?_cons_zero, List.getElem?_cons_succ] at X_0 X_1 X_2 P_0 P_1 P_2 U_0 U_1 U_2 V_0 V_1 V_2
  go_wp2_with fail
  clear X_0 X_1 X_2 P_0 P_1 P_2 U_0 U_1 U_2 V_0 V_1 V_2
  obtain ⟨W12, hW12⟩ : ∃ W', W' = W11.alloc (.cells #[.slice Q1 (nU1 + nV1) cQ1, .slice Q2 nQ2 cQ2, .slice Q3 nQ3 cQ3] 26) := ⟨_, rfl⟩
  have hk11 : Below W11.heap.size W11 W12 := by rw [hW12]; exact (Below.refl _ _).alloc (Nat.le_refl _) _
  have HZX : BK W12 W11.heap.size 26 #[.slice Q1 (nU1 + nV1) cQ1, .slice Q2 nQ2 cQ2, .slice Q3 nQ3 cQ3] := by rw [hW12]; exact BK.new _ _ _
  rw [← hW12]
  clear hW12
  have hB12 := hB11.trans (hk11.mono hB11.size)
  have hX12 := hX11.below hk11 hX11.lt
  have hP12 := hP11.below hk11 hP11.lt
  have hU12 := hU11.below hk11 hU11.lt
  have hV12 := hV11.below hk11 hV11.lt
  have HQN : Hid (BK W12 W11.heap.size 26 #[.slice Q1 (nU1 + nV1) cQ1, .slice Q2 nQ2 cQ2, .slice Q3 nQ3 cQ3]) := HZX
  have hQ12 := HQN.out
  have HRQ := Lib.hid (HRQ.out.grow hk11 hk11.size)
  clear HZX
  obtain ⟨Wc, hWc⟩ : ∃ Wc, Wc = W12 := ⟨_, rfl⟩
  rw [← hWc] at hB12 hX12 hQ12 HRQ ⊢
  have hXc := hX12
  have hQc := hQ12
  have hBc := hB12
  have hRc := Lib.hid (hR.out.grow hBc hBc.size)
  clear hWc
  have x_0 := fun d os => cell_regrown (hXc.cell 0) d os
  have x_1 := fun d os => cell_regrown (hXc.cell 1) d os
  have x_2 := fun d os => cell_regrown (hXc.cell 2) d os
  have q_0 := fun d os => cell_regrown (hQc.cell 0) d os
  have q_1 := fun d os => cell_regrown (hQc.cell 1) d os
  have q_2 := fun d os => cell_regrown (hQc.cell 2) d os
  go_wp2_with fail
  refine wp_region_ch 20 [12, 14, 15, 17, 18] hmo (by kernel_rfl) ?_
  simp only [List.take_succ_cons, List.take_zero, List.drop_succ_cons, List.drop_zero]
  repeat (refine wpC_q (by decide) (by decide) (fun K hK => ?_); go_simp; refine hK _ ?_; clear hK K)
  refine wpC_cg (ι := Value) 37 #[.agg #[.slice Q1 (nU1 + nV1) cQ1, .slice Q2 nQ2 cQ2, .slice Q3 nQ3 cQ3]] (fun i => i) (fun i x => ∃ a1 m1 b1 a2 m2 b2 a3 m3 b3, i = .agg #[.slice a1 m1 b1, .slice a2 m2 b2, .slice a3 m3 b3] ∧ RD x x.heap.size a1 m1 a2 m2 a3 m3 (normR R)) (by decide) (by decide) (by go_simp) (fun w => by go_simp) stable_true (fun i x y ⟨a1, m1, a2, a3, m2, a4, a5, m3, a6, e, hd⟩ hb => ⟨a1, m1, a2, a3, m2, a4, a5, m3, a6, e, hd.grow hb hb.size⟩) (fun W hW _ => ?_) (fun i4 hs4 => ?_)
  · obtain ⟨p, rfl⟩ := hW
    have hb := below_regrown Wc p.d p.os
    refine (RNormal_in Q1 (nU1 + nV1) cQ1 Q2 nQ2 cQ2 Q3 nQ3 cQ3 (joinR (partR 0 t R) (partR t (sumL R.ps) R)) _ (HRQ.out.grow hb hb.size) OKJ.out).mono ?_
    rintro e w' ⟨a1, m1, b1, a2, b2, a3, b3, rfl, ⟨o1, o2, o3⟩, hbl⟩
    have hd := RD.mk (R := normR (joinR (partR 0 t R) (partR t (sumL R.ps) R))) (o1.sl pC_len) (o2.sl cC_len) (o3.sl jC_len)
    rw [HNJ.out] at hd
    exact ⟨_, rfl, ⟨a1, m1, b1, a2, _, b2, a3, _, b3, rfl, hd⟩, hbl⟩
  repeat (refine wpC_q (by decide) (by decide) (fun K hK => ?_); go_simp; refine hK _ ?_; clear hK K)
  refine wpC_cg (ι := Value) 37 #[.agg #[.slice pa pn pc, .slice ca cn cc, .slice ja jn jc]] (fun i => i) (fun i x => ∃ a1 m1 b1 a2 m2 b2 a3 m3 b3, i = .agg #[.slice a1 m1 b1, .slice a2 m2 b2, .slice a3 m3 b3] ∧ RD x x.heap.size a1 m1 a2 m2 a3 m3 (normR R)) (by decide) (by decide) (by go_simp) (fun w => by go_simp) hs4 (fun i x y ⟨a1, m1, a2, a3, m2, a4, a5, m3, a6, e, hd⟩ hb => ⟨a1, m1, a2, a3, m2, a4, a5, m3, a6, e, hd.grow hb hb.size⟩) (fun W hW _ => ?_) (fun i5 hs5 => ?_)
  · obtain ⟨p, rfl⟩ := hW
    have hb := below_regrown Wc p.d p.os
    refine (RNormal_in pa pn pc ca cn cc ja jn jc (R) _ (hRc.out.grow hb hb.size) hv'.out).mono ?_
    rintro e w' ⟨a1, m1, b1, a2, b2, a3, b3, rfl, ⟨o1, o2, o3⟩, hbl⟩
    have hd := RD.mk (R := normR (R)) (o1.sl pC_len) (o2.sl cC_len) (o3.sl jC_len)
    exact ⟨_, rfl, ⟨a1, m1, b1, a2, _, b2, a3, _, b3, rfl, hd⟩, hbl⟩
  repeat (refine wpC_q (by decide) (by decide) (fun K hK => ?_); go_simp; refine hK _ ?_; clear hK K)
  refine wpC_cg (ι := Unit) 36 #[i4, i5] (fun _ => .bool true) (fun _ _ => True) (by decide) (by decide) (by go_simp) (fun w => by go_simp) hs5 (fun _ => stable_true) (fun W hW hΦ => ?_) (fun i6 hs6 => ?_)
  · obtain ⟨⟨-, a1, m1, b1, a2, m2, b2, a3, m3, b3, rfl, hd⟩, a1', m1', b1', a2', m2', b2', a3', m3', b3', rfl, hd'⟩ := hΦ
    obtain rfl : m1 = m1' := by rw [hd.p.1, hd'.p.1]
    obtain rfl : m2 = m2' := by rw [hd.c.1, hd'.c.1]
    obtain rfl : m3 = m3' := by rw [hd.j.1, hd'.j.1]
    have hno := normR_ok hv'.out
    refine (rSame_true a1 m1 b1 a2 m2 b2 a3 m3 b3 a1' b1' a2' b2' a3' b3' (normR R) _ hd hd' (by have := hno.p2; have := hd.p.1; omega) (by have := hno.c1; have := hd.c.1; omega) (by have := hno.j1; have := hd.j.1; omega)).mono ?_
    rintro e w' ⟨rfl, hbl⟩
    exact ⟨(), rfl, trivial, hbl⟩
  repeat (refine wpC_q (by decide) (by decide) (fun K hK => ?_); go_simp; refine hK _ ?_; clear hK K)
  refine wpC_v (ι := Unit) (fun _ => .bool true) (fun _ _ => True) (by decide) (by decide) rfl hs6 (fun _ => stable_true) (fun W _ _ => ⟨(), W, by go_simp, trivial, Below.refl _ _⟩) (fun i7 hs7 => ?_)
  repeat (refine wpC_q (by decide) (by decide) (fun K hK => ?_); go_simp; refine hK _ ?_; clear hK K)
  refine wpC_cg (ι := Unit) 20 #[] (fun _ => .bool true) (fun _ _ => True) (by decide) (by decide) (by go_simp) (fun w => by go_simp) hs7 (fun _ => stable_true) (fun W hW hΦ => ?_) (fun i8 hs8 => ?_)
  · refine (known_any W).mono ?_
    rintro e w' ⟨rfl, hbl⟩
    exact ⟨(), rfl, trivial, hbl⟩
  repeat (refine wpC_q (by decide) (by decide) (fun K hK => ?_); go_simp; refine hK _ ?_; clear hK K)
  refine wpC_nil ?_
  intro We hke _
  clear hs4 hs5 hs6 hs7 hs8 x_0 x_1 x_2 q_0 q_1 q_2
  go_wp2_with fail
  go_ret
  exact ⟨rfl, hBc.trans (hke.mono hBc.size)⟩
end Go.Proofs.Ytomloklckpcaiaa
