/- The law function RoadOrder, walked: it returns true. -/
import Derived.Test.YtomloklckpcaiaaKnown
import Derived.Test.YtomloklckpcaiaaCornOut
import Derived.Test.YtomloklckpcaiaaOrdM
namespace Go.Proofs.Ytomloklckpcaiaa
open Go.RowKit Go.Shelf Go.Sort Go.Proofs

theorem field_piece1 (p : Piece) (w : World) : (Instr.field 52 (.agg #[.int .i64 p.len, .int .i64 p.turn, .int .i64 p.rad, .int .i64 p.wid, .int .i64 p.sur]) 1).run Try.prog w = .ok (.int .i64 p.turn) w := by kernel_rfl
set_option maxRecDepth 100000 in
set_option maxHeartbeats 4000000 in
theorem RoadOrder_walk (gap least m : Int) (pa : Option Addr) (pn pc : Nat) (ca : Option Addr) (cn cc : Nat) (ja : Option Addr) (jn jc : Nat) (R : Road) (w : World) (h : RD w w.heap.size pa pn ca cn ja jn R) :
    Calls Try.prog 6 #[.agg #[.slice pa pn pc, .slice ca cn cc, .slice ja jn jc], .agg #[.int .i64 gap, .int .i64 least], .int .i64 m] w fun e w' => e = .returned (.bool true) ∧ Below w.heap.size w w' := by
  have hR := Lib.hid h
  have hpl := Lib.hid h.p.1
  clear h
  go_enter Try.func6, Try.ntmps6
  go_wp2_with fail
  obtain ⟨W0, hW0⟩ : ∃ W0, W0 = (w.alloc (.cells #[.slice pa pn pc, .slice ca cn cc, .slice ja jn jc] 26)).alloc (.cells #[.int .i64 gap, .int .i64 least] 41) := ⟨_, rfl⟩
  have hB0 : Below w.heap.size w W0 := by rw [hW0]; exact ((Below.refl w.heap.size w).alloc (Nat.le_refl _) _).alloc (by simp <;> omega) _
  have hX0 : BK W0 w.heap.size 26 #[.slice pa pn pc, .slice ca cn cc, .slice ja jn jc] := by rw [hW0]; exact (BK.new w _ _).alloc _
  have hY0 : BK W0 (w.heap.size + 1) 41 #[.int .i64 gap, .int .i64 least] := by rw [hW0]; have := BK.new (w.alloc (.cells #[.slice pa pn pc, .slice ca cn cc, .slice ja jn jc] 26)) 41 #[.int .i64 gap, .int .i64 least]; rw [World.size_alloc] at this; exact this
  rw [← hW0]
  clear hW0
  refine (small_any pa pn pc ca cn cc ja jn jc R W0 (hR.out.grow hB0 hB0.size)).mono ?_
  rintro e W1 ⟨rfl, hk0⟩
  have hB1 := hB0.trans (hk0.mono hB0.size)
  have hX1 := hX0.below hk0 hX0.lt
  have hY1 := hY0.below hk0 hY0.lt
  cases hs : sml R
  · have X_0 := hX1.cell 0
    have X_1 := hX1.cell 1
    have X_2 := hX1.cell 2
    have Y_0 := hY1.cell 0
    have Y_1 := hY1.cell 1
    simp only [List.getElem?_toArray, List.getElem?_cons_zero, List.getElem?_cons_succ] at X_0 X_1 X_2 Y_0 Y_1
    go_wp2_with fail
    clear X_0 X_1 X_2 Y_0 Y_1
    refine (known_any W1).mono ?_
    rintro e W2 ⟨rfl, hk1⟩
    have hB2 := hB1.trans (hk1.mono hB1.size)
    have hX2 := hX1.below hk1 hX1.lt
    have hY2 := hY1.below hk1 hY1.lt
    have X_0 := hX2.cell 0
    have X_1 := hX2.cell 1
    have X_2 := hX2.cell 2
    have Y_0 := hY2.cell 0
    have Y_1 := hY2.cell 1
    simp only [List.getElem?_toArray, List.getElem?_cons_zero, List.getElem?_cons_succ] at X_0 X_1 X_2 Y_0 Y_1
    go_wp2_with fail
    clear X_0 X_1 X_2 Y_0 Y_1
    go_ret
    exact ⟨rfl, hB2⟩
  have HS := Lib.hid hs
  clear hs
  have X_0 := hX1.cell 0
  have X_1 := hX1.cell 1
  have X_2 := hX1.cell 2
  have Y_0 := hY1.cell 0
  have Y_1 := hY1.cell 1
  simp only [List.getElem?_toArray, List.getElem?_cons_zero, List.getElem?_cons_succ] at X_0 X_1 X_2 Y_0 Y_1
  go_wp2_with fail
  clear X_0 X_1 X_2 Y_0 Y_1
  refine (Valid_any pa pn pc ca cn cc ja jn jc R W1 (hR.out.grow hB1 hB1.size)).mono ?_
  rintro e W2 ⟨rfl, hk1⟩
  have hB2 := hB1.trans (hk1.mono hB1.size)
  have hX2 := hX1.below hk1 hX1.lt
  have hY2 := hY1.below hk1 hY1.lt
  cases hv : val R
  · have X_0 := hX2.cell 0
    have X_1 := hX2.cell 1
    have X_2 := hX2.cell 2
    have Y_0 := hY2.cell 0
    have Y_1 := hY2.cell 1
    simp only [List.getElem?_toArray, List.getElem?_cons_zero, List.getElem?_cons_succ] at X_0 X_1 X_2 Y_0 Y_1
    go_wp2_with fail
    clear X_0 X_1 X_2 Y_0 Y_1
    refine (known_any W2).mono ?_
    rintro e W3 ⟨rfl, hk2⟩
    have hB3 := hB2.trans (hk2.mono hB2.size)
    have hX3 := hX2.below hk2 hX2.lt
    have hY3 := hY2.below hk2 hY2.lt
    have X_0 := hX3.cell 0
    have X_1 := hX3.cell 1
    have X_2 := hX3.cell 2
    have Y_0 := hY3.cell 0
    have Y_1 := hY3.cell 1
    simp only [List.getElem?_toArray, List.getElem?_cons_zero, List.getElem?_cons_succ] at X_0 X_1 X_2 Y_0 Y_1
    go_wp2_with fail
    clear X_0 X_1 X_2 Y_0 Y_1
    go_ret
    exact ⟨rfl, hB3⟩
  have hok := (val_iff R).1 hv
  have hv' := Lib.hid hok
  have hn1 := hok.n1
  have hp2 := hok.p2
  have hpn : pn ≤ 2000 := by rw [hpl.out]; exact hp2
  have hln := hok.len
  clear hv hok
  have X_0 := hX2.cell 0
  have X_1 := hX2.cell 1
  have X_2 := hX2.cell 2
  have Y_0 := hY2.cell 0
  have Y_1 := hY2.cell 1
  simp only [List.getElem?_toArray, List.getElem?_cons_zero, List.getElem?_cons_succ] at X_0 X_1 X_2 Y_0 Y_1
  go_wp2_with fail
  clear X_0 X_1 X_2 Y_0 Y_1
  refine (Bends_any gap least W2).mono ?_
  rintro e W3 ⟨rfl, hk2⟩
  have hB3 := hB2.trans (hk2.mono hB2.size)
  have hX3 := hX2.below hk2 hX2.lt
  have hY3 := hY2.below hk2 hY2.lt
  cases hbd : bendsOk gap least
  · have X_0 := hX3.cell 0
    have X_1 := hX3.cell 1
    have X_2 := hX3.cell 2
    have Y_0 := hY3.cell 0
    have Y_1 := hY3.cell 1
    simp only [List.getElem?_toArray, List.getElem?_cons_zero, List.getElem?_cons_succ] at X_0 X_1 X_2 Y_0 Y_1
    go_wp2_with fail
    clear X_0 X_1 X_2 Y_0 Y_1
    refine (known_any W3).mono ?_
    rintro e W4 ⟨rfl, hk3⟩
    have hB4 := hB3.trans (hk3.mono hB3.size)
    have hX4 := hX3.below hk3 hX3.lt
    have hY4 := hY3.below hk3 hY3.lt
    have X_0 := hX4.cell 0
    have X_1 := hX4.cell 1
    have X_2 := hX4.cell 2
    have Y_0 := hY4.cell 0
    have Y_1 := hY4.cell 1
    simp only [List.getElem?_toArray, List.getElem?_cons_zero, List.getElem?_cons_succ] at X_0 X_1 X_2 Y_0 Y_1
    go_wp2_with fail
    clear X_0 X_1 X_2 Y_0 Y_1
    go_ret
    exact ⟨rfl, hB4⟩
  have HO := Lib.hid hbd
  have hbb := hbd
  simp only [bendsOk, inR, Bool.and_eq_true, decide_eq_true_eq] at hbb
  obtain ⟨⟨he1, he2⟩, he3, he4⟩ := hbb
  clear hbd
  by_cases hm0 : m < 0
  · have X_0 := hX3.cell 0
    have X_1 := hX3.cell 1
    have X_2 := hX3.cell 2
    have Y_0 := hY3.cell 0
    have Y_1 := hY3.cell 1
    simp only [List.getElem?_toArray, List.getElem?_cons_zero, List.getElem?_cons_succ] at X_0 X_1 X_2 Y_0 Y_1
    go_wp2_with fail
    clear X_0 X_1 X_2 Y_0 Y_1
    refine (known_any W3).mono ?_
    rintro e W4 ⟨rfl, hk3⟩
    have hB4 := hB3.trans (hk3.mono hB3.size)
    have hX4 := hX3.below hk3 hX3.lt
    have hY4 := hY3.below hk3 hY3.lt
    have X_0 := hX4.cell 0
    have X_1 := hX4.cell 1
    have X_2 := hX4.cell 2
    have Y_0 := hY4.cell 0
    have Y_1 := hY4.cell 1
    simp only [List.getElem?_toArray, List.getElem?_cons_zero, List.getElem?_cons_succ] at X_0 X_1 X_2 Y_0 Y_1
    go_wp2_with fail
    clear X_0 X_1 X_2 Y_0 Y_1
    go_ret
    exact ⟨rfl, hB4⟩
  have hd0 : decide (m < 0) = false := by simpa using hm0
  by_cases hm1 : 10000 < m
  · have X_0 := hX3.cell 0
    have X_1 := hX3.cell 1
    have X_2 := hX3.cell 2
    have Y_0 := hY3.cell 0
    have Y_1 := hY3.cell 1
    simp only [List.getElem?_toArray, List.getElem?_cons_zero, List.getElem?_cons_succ] at X_0 X_1 X_2 Y_0 Y_1
    go_wp2_with fail
    clear X_0 X_1 X_2 Y_0 Y_1
    refine (known_any W3).mono ?_
    rintro e W4 ⟨rfl, hk3⟩
    have hB4 := hB3.trans (hk3.mono hB3.size)
    have hX4 := hX3.below hk3 hX3.lt
    have hY4 := hY3.below hk3 hY3.lt
    have X_0 := hX4.cell 0
    have X_1 := hX4.cell 1
    have X_2 := hX4.cell 2
    have Y_0 := hY4.cell 0
    have Y_1 := hY4.cell 1
    simp only [List.getElem?_toArray, List.getElem?_cons_zero, List.getElem?_cons_succ] at X_0 X_1 X_2 Y_0 Y_1
    go_wp2_with fail
    clear X_0 X_1 X_2 Y_0 Y_1
    go_ret
    exact ⟨rfl, hB4⟩
  have hd1 : decide (10000 < m) = false := by simpa using hm1
  have X_0 := hX3.cell 0
  have X_1 := hX3.cell 1
  have X_2 := hX3.cell 2
  have Y_0 := hY3.cell 0
  have Y_1 := hY3.cell 1
  simp only [List.getElem?_toArray, List.getElem?_cons_zero, List.getElem?_cons_succ] at X_0 X_1 X_2 Y_0 Y_1
  go_wp2_with fail
  clear X_0 X_1 X_2 Y_0 Y_1
  refine (Corners_in gap least pa pn pc ca cn cc ja jn jc R W3 (hR.out.grow hB3 hB3.size) hv'.out HO.out).mono ?_
  rintro e W4 ⟨A, n, c, rfl, hs, hk3⟩
  have hB4 := hB3.trans (hk3.mono hB3.size)
  have hX4 := hX3.below hk3 hX3.lt
  have hY4 := hY3.below hk3 hY3.lt
  have HOW := Lib.hid hs
  have HSL := Lib.hid (hs.sl kC_len)
  have hnc := hs.2
  have hzW := hB3.size
  have hzY := hY3.lt
  have hcl := crns_len gap least R
  have hn2000 : n ≤ 2000 := by rw [hnc]; omega
  have HNC := Lib.hid hnc
  clear hs hnc
  obtain ⟨Wc, hWc⟩ : ∃ Wc, Wc = W4 := ⟨_, rfl⟩
  rw [← hWc] at hB4 hX4 hY4 HSL HOW ⊢
  have hBc := hB4
  have hXc := hX4
  have hYc := hY4
  clear hWc
  have hmo : Try.prog.follows .mixedOrders = true := by kernel_rfl
  go_wp2_with fail
  go_loopw [9, 10] (fun la i wr => ∃ (k : Nat) (l : Int), k ≤ n ∧ i = .int .i64 k ∧ la = .int .i64 l ∧ Hid (∀ c, (crns gap least R)[k]? = some c → l ≤ c.fr) ∧ Below Wc.heap.size Wc wr)
    (fun _ i _ => n - (intOf i).toNat)
  case atStart =>
    refine ⟨0, 0, Nat.zero_le _, rfl, rfl, fun c hc => ?_, Below.refl _ _⟩
    exact (crn_fine hv'.out (List.mem_of_getElem? hc)).lo
  case round =>
    obtain ⟨k, l, hk, rfl, rfl, hla, hb⟩ := hrel
    have hz := hb.size
    have hXr := hXc.below hb hXc.lt
    have hYr := hYc.below hb hYc.lt
    have hBr := hBc.trans (hb.mono hBc.size)
    by_cases hlt : k < n
    · have hkl : k < (crns gap least R).length := by rw [← HNC.out]; exact hlt
      obtain ⟨b, off, hA, hbB, d0, d1, d2, d3, d4, d5, d6⟩ := KS.at_ (HSL.out.grow hb hz) (k := k) hkl
      have hck : (crns gap least R)[k]? = some (crns gap least R)[k] := List.getElem?_eq_getElem hkl
      have hF := crn_fine hv'.out (List.mem_of_getElem? hck)
      have hlac := hla.out _ hck
      have hnext : Hid (∀ c, (crns gap least R)[k + 1]? = some c → (crns gap least R)[k].til ≤ c.fr) := fun c hc => by
        obtain ⟨h1, h2⟩ := List.getElem?_eq_some_iff.1 hc
        have := List.pairwise_iff_getElem.1 (crns_pw hv'.out gap least) k (k + 1) hkl h1 (by omega)
        rwa [h2] at this
      generalize (crns gap least R)[k]'hkl = C at d0 d1 d2 d3 d4 d5 d6 hF hlac hnext
      obtain ⟨F, T, tu, ra, inn, ou, an⟩ := C
      simp only at d0 d1 d2 d3 d4 d5 d6 hF hlac hnext
      clear hck hkl hla
      subst hA
      obtain ⟨f1, f2, f3, f4, f5, f6, f7, f8, f9, f10, f11, f12⟩ := hF
      simp only at f1 f2 f3 f4 f5 f6 f7 f8 f9 f10 f11 f12
      obtain ⟨i1, hi1⟩ := At.exists_ hv'.out.pk f2 (show F < sumL R.ps by omega)
      obtain ⟨i2, hi2⟩ := At.exists_ hv'.out.pk (show 0 ≤ T - 1 by omega) (show T - 1 < sumL R.ps by omega)
      have g1 := f10 i1 _ hi1 (List.getElem?_eq_getElem hi1.1)
      have g2 := f11 i2 _ hi2 (List.getElem?_eq_getElem hi2.1)
      have gp1 : Hid (R.ps[i1]? = some (R.ps[i1]'hi1.1)) := List.getElem?_eq_getElem hi1.1
      have gp2 : Hid (R.ps[i2]? = some (R.ps[i2]'hi2.1)) := List.getElem?_eq_getElem hi2.1
      have HI1 := Lib.hid hi1
      have HI2 := Lib.hid hi2
      have hpos1 := hi1.1
      have hpos2 := hi2.1
      generalize R.ps[i1]'hi1.1 = p1 at g1 gp1
      generalize R.ps[i2]'hi2.1 = p2 at g2 gp2
      have hg1 : (p1.turn != tu) = false := by simpa using g1
      have hg2 : (p2.turn != tu) = false := by simpa using g2
      obtain ⟨D, hD⟩ : ∃ D, D = tu * an := ⟨_, rfl⟩
      have HTUR : Hid (upt R.ps T - upt R.ps F = D) := by rw [hD]; exact f9
      have hDb : -800000000000 ≤ D ∧ D ≤ 800000000000 := by rcases f8 with h | h <;> rw [hD, h] <;> omega
      have hwm : IntKind.i64.wrap (tu * an) = D := by rw [← hD]; exact IntWalk.i64_in _ (by omega)
      obtain ⟨Z, hZ⟩ : ∃ Z, Z = T - 1 := ⟨_, rfl⟩
      have hwz : IntKind.i64.wrap (T - 1) = Z := by rw [← hZ]; exact IntWalk.i64_in _ (by omega)
      rw [← hZ] at HI2
      have hwt : IntKind.i64.wrap (-tu) = -tu := IntWalk.i64_in _ (by omega)
      have hf12 := Lib.hid f12
      have hq1 : decide (F < l) = false := by simpa using hlac
      have hq2 : decide (T ≤ F) = false := by simpa using f1
      have hq3 : decide (sumL R.ps < T) = false := by simpa using f3
      have hq4 : decide (an < least) = false := by simpa using f4
      have hq5 : decide (inn < ra) = false := by simpa using f6
      have hq6 : decide (ou < ra) = false := by simpa using f7
      clear f4 f5 f6 f7 f9 f10 f11 f12 hi1 hi2 g1 g2 hD hZ hlac
      have x0 := hXr.cell 0
      have x1 := hXr.cell 1
      have x2 := hXr.cell 2
      simp only [List.getElem?_toArray, List.getElem?_cons_zero, List.getElem?_cons_succ] at x0 x1 x2
      go_wp2_with fail
      obtain ⟨w1, hw1⟩ : ∃ w1, w1 = wr.alloc (.cells #[.int .i64 F, .int .i64 T, .int .i64 tu, .int .i64 ra, .int .i64 inn, .int .i64 ou, .int .i64 an] 50) := ⟨_, rfl⟩
      have hb1 : Below wr.heap.size wr w1 := by rw [hw1]; exact (Below.refl _ _).alloc (Nat.le_refl _) _
      have hC1 : BK w1 wr.heap.size 50 #[.int .i64 F, .int .i64 T, .int .i64 tu, .int .i64 ra, .int .i64 inn, .int .i64 ou, .int .i64 an] := by rw [hw1]; exact BK.new wr _ _
      have hX1 := hXr.below hb1 hXr.lt
      have hY1 := hYr.below hb1 hYr.lt
      have hB1 := hBr.trans (hb1.mono hBr.size)
      rw [← hw1]
      clear hw1 d0 d1 d2 d3 d4 d5 d6 x0 x1 x2
      have x0 := fun d os => cell_regrown (hX1.cell 0) d os
      have x1 := fun d os => cell_regrown (hX1.cell 1) d os
      have x2 := fun d os => cell_regrown (hX1.cell 2) d os
      have y1 := fun d os => cell_regrown (hY1.cell 1) d os
      have c0 := fun d os => cell_regrown (hC1.cell 0) d os
      have c1 := fun d os => cell_regrown (hC1.cell 1) d os
      have c3 := fun d os => cell_regrown (hC1.cell 3) d os
      have c4 := fun d os => cell_regrown (hC1.cell 4) d os
      have c5 := fun d os => cell_regrown (hC1.cell 5) d os
      have c6 := fun d os => cell_regrown (hC1.cell 6) d os
      have HG := Lib.hid (fun d os => hR.out.grow (hB1.trans ((below_regrown w1 d os).mono hB1.size)) (Nat.le_trans hB1.size (below_regrown w1 d os).size))
      have HL := Lib.hid (fun (W : World) (hW : RD W W.heap.size pa pn ca cn ja jn R) => rLength_any pa pn pc ca cn cc ja jn jc R W hW hv'.out.pk (by omega))
      refine wp_region_qt 38 hmo (by kernel_rfl) ?_
      simp only [List.take_succ_cons, List.take_zero, List.drop_succ_cons, List.drop_zero]
      repeat (quiet_step ((go_at_call 22; exact Calls.regrown_of (HL.out _ (HG.out _ _)))))
      refine wpQuiet_nil ?_
      intro w2 hb2
      clear x0 x1 x2 y1 c0 c1 c3 c4 c5 c6 HG HL hq1 hq2 hq3 hq4 hq5 hq6
      have hC2 := hC1.below hb2 hC1.lt
      have hX2 := hX1.below hb2 hX1.lt
      have hY2 := hY1.below hb2 hY1.lt
      have hB2 := hB1.trans (hb2.mono hB1.size)
      have x0 := hX2.cell 0
      have x1 := hX2.cell 1
      have x2 := hX2.cell 2
      have c0 := hC2.cell 0
      have c1 := hC2.cell 1
      simp only [List.getElem?_toArray, List.getElem?_cons_zero, List.getElem?_cons_succ] at x0 x1 x2 c0 c1
      go_wp2_with fail
      refine (Turning_in F T pa pn pc ca cn cc ja jn jc R w2 (hR.out.grow hB2 hB2.size) hv'.out (by omega) (by omega) (by omega)).mono ?_
      rintro e w3 ⟨rfl, hb3⟩
      rw [HTUR.out]
      have hC3 := hC2.below hb3 hC2.lt
      have hX3 := hX2.below hb3 hX2.lt
      have hY3 := hY2.below hb3 hY2.lt
      have hB3 := hB2.trans (hb3.mono hB2.size)
      clear x0 x1 x2 c0 c1
      go_wp2_with fail
      have x0 := fun d os => cell_regrown (hX3.cell 0) d os
      have x1 := fun d os => cell_regrown (hX3.cell 1) d os
      have x2 := fun d os => cell_regrown (hX3.cell 2) d os
      have c0 := fun d os => cell_regrown (hC3.cell 0) d os
      have c1 := fun d os => cell_regrown (hC3.cell 1) d os
      have c2 := fun d os => cell_regrown (hC3.cell 2) d os
      have c6 := fun d os => cell_regrown (hC3.cell 6) d os
      have HG := Lib.hid (fun d os => hR.out.grow (hB3.trans ((below_regrown w3 d os).mono hB3.size)) (Nat.le_trans hB3.size (below_regrown w3 d os).size))
      have H1 := Lib.hid (fun (W : World) (hW : RD W W.heap.size pa pn ca cn ja jn R) => rAt_in F i1 pa pn pc ca cn cc ja jn jc R W hW hv'.out.pk (by omega) HI1.out p1 gp1.out)
      have H2 := Lib.hid (fun (W : World) (hW : RD W W.heap.size pa pn ca cn ja jn R) => rAt_in Z i2 pa pn pc ca cn cc ja jn jc R W hW hv'.out.pk (by omega) HI2.out p2 gp2.out)
      have hfd1 := fun W => field_piece1 p1 W
      have hfd2 := fun W => field_piece1 p2 W
      refine wp_region_qt 31 hmo (by kernel_rfl) ?_
      simp only [List.take_succ_cons, List.take_zero, List.drop_succ_cons, List.drop_zero]
      repeat (quiet_step (first | (go_at_call_of 30 F; exact Calls.regrown_of (H1.out _ (HG.out _ _))) | (go_at_call_of 30 Z; exact Calls.regrown_of (H2.out _ (HG.out _ _)))))
      refine wpQuiet_nil ?_
      intro w4 hb4
      clear x0 x1 x2 c0 c1 c2 c6 HG H1 H2 hwm hwz hg1 hg2 hfd1 hfd2
      have hC4 := hC3.below hb4 hC3.lt
      have hX4 := hX3.below hb4 hX3.lt
      have hY4 := hY3.below hb4 hY3.lt
      have hB4 := hB3.trans (hb4.mono hB3.size)
      have c0 := hC4.cell 0
      simp only [List.getElem?_toArray, List.getElem?_cons_zero] at c0
      have hb14 : Below Wc.heap.size Wc w4 := (((hb.trans (hb1.mono hz)).trans (hb2.mono (Nat.le_trans hz hb1.size))).trans (hb3.mono (Nat.le_trans hz (Nat.le_trans hb1.size hb2.size)))).trans (hb4.mono (Nat.le_trans hz (Nat.le_trans hb1.size (Nat.le_trans hb2.size hb3.size))))
      obtain ⟨wo, rfl⟩ : ∃ wo : World, wo = wr := ⟨_, rfl⟩
      go_wp2_with fail
      go_loopw [14] (fun p wr => ∃ x : Int, F ≤ x ∧ x ≤ T ∧ p = .int .i64 x ∧ Below w4.heap.size w4 wr) (fun p _ => (T - intOf p).toNat)
      case atStart => exact ⟨F, Int.le_refl _, by omega, rfl, Below.refl _ _⟩
      case round =>
        obtain ⟨x, hx1, hx2, rfl, hb5⟩ := hrel
        have hC5 := hC4.below hb5 hC4.lt
        have hX5 := hX4.below hb5 hX4.lt
        have hB5 := hB4.trans (hb5.mono hB4.size)
        have c1 := hC5.cell 1
        simp only [List.getElem?_toArray, List.getElem?_cons_zero, List.getElem?_cons_succ] at c1
        clear c0
        by_cases hxT : x < T
        · obtain ⟨i3, hi3⟩ := At.exists_ hv'.out.pk (show 0 ≤ x by omega) (show x < sumL R.ps by omega)
          have g3 := hf12.out x i3 _ hx1 hxT hi3 (List.getElem?_eq_getElem hi3.1)
          have gp3 : Hid (R.ps[i3]? = some (R.ps[i3]'hi3.1)) := List.getElem?_eq_getElem hi3.1
          have HI3 := Lib.hid hi3
          generalize R.ps[i3]'hi3.1 = p3 at g3 gp3
          have hg3 : (p3.turn == -tu) = false := by simpa using g3
          clear hi3 g3
          go_wp2_with fail
          have x0 := fun d os => cell_regrown (hX5.cell 0) d os
          have x1 := fun d os => cell_regrown (hX5.cell 1) d os
          have x2 := fun d os => cell_regrown (hX5.cell 2) d os
          have c2 := fun d os => cell_regrown (hC5.cell 2) d os
          have HG := Lib.hid (fun d os => hR.out.grow (hB5.trans ((below_regrown wr d os).mono hB5.size)) (Nat.le_trans hB5.size (below_regrown wr d os).size))
          have H3 := Lib.hid (fun (W : World) (hW : RD W W.heap.size pa pn ca cn ja jn R) => rAt_in x i3 pa pn pc ca cn cc ja jn jc R W hW hv'.out.pk (by omega) HI3.out p3 gp3.out)
          have hfd3 := fun W => field_piece1 p3 W
          refine wp_region_qt 7 hmo (by kernel_rfl) ?_
          simp only [List.take_succ_cons, List.take_zero, List.drop_succ_cons, List.drop_zero]
          repeat (quiet_step ((go_at_call 30; exact Calls.regrown_of (H3.out _ (HG.out _ _)))))
          refine wpQuiet_nil ?_
          intro w6 hb6
          clear x0 x1 x2 c2 HG H3 c1 hfd3
          go_wp2_with fail
          go_roundw
          case rel => exact ⟨x + 1, by omega, by omega, rfl, hb5.trans (hb6.mono hb5.size)⟩
          case measure => simp [intOf]; omega
        · go_wp2_with fail
          go_roundw
          case rel => exact ⟨k + 1, T, by omega, by go_num, rfl, hnext, hb14.trans (hb5.mono hb14.size)⟩
          case measure => simp [intOf]; omega
    · obtain rfl : k = n := by omega
      have hXk := hXr
      have hYk := hYr
      have x0 := hXr.cell 0
      have x1 := hXr.cell 1
      have x2 := hXr.cell 2
      have y0 := hYr.cell 0
      have y1 := hYr.cell 1
      have yf := hYr.frozen 1
      simp only [List.getElem?_toArray, List.getElem?_cons_zero, List.getElem?_cons_succ] at x0 x1 x2 y0 y1
      obtain ⟨L2, hL2⟩ : ∃ L2, L2 = min 10000 (least + m) := ⟨_, rfl⟩
      have hite : (if least + m < 10000 then least + m else 10000) = L2 := by rw [hL2]; split <;> omega
      have hO2 : bendsOk' gap L2 = true := by simp [bendsOk', inR]; omega
      have hmore := crns_more gap least L2 R (by omega)
      have HO2 := Lib.hid hO2
      have HM := Lib.hid hmore
      have hL2a : 1 ≤ L2 := by omega
      clear hL2 hO2 hmore hla
      have hxl := hXr.lt
      have hyl := hYr.lt
      have hxy : ¬ w.heap.size + 1 = w.heap.size := by omega
      go_wp2_with fail
      obtain ⟨wo, rfl⟩ : ∃ wo : World, wo = wr := ⟨_, rfl⟩
      obtain ⟨v1, hv1⟩ : ∃ v1, v1 = wo.setCell ⟨w.heap.size + 1, 1, none⟩ (.int .i64 L2) := ⟨_, rfl⟩
      have hBv : Below w.heap.size w v1 := by rw [hv1]; exact hBr.setCell (by simp) _
      have hYv : BK v1 (w.heap.size + 1) 41 #[.int .i64 gap, .int .i64 L2] := by rw [hv1]; exact hYr.set_ 1 _
      have hSLv : Hid (SL kC 7 v1 v1.heap.size A k (crns gap least R)) := by
        have h1 := (HOW.out.call hb).setCell (p := ⟨w.heap.size + 1, 1, none⟩) (fun g hg => by have := (HOW.out.lt hg).1; show g.block ≠ w.heap.size + 1; omega) (.int .i64 L2)
        rw [hv1]
        exact h1.sl kC_len
      rw [← hv1]
      clear hv1
      refine (Corners_in gap L2 pa pn pc ca cn cc ja jn jc R v1 (hR.out.grow hBv hBv.size) hv'.out HO2.out).mono ?_
      rintro e v2 ⟨A2, n2, c2, rfl, hs2, hk2⟩
      have hBv2 := hBv.trans (hk2.mono hBv.size)
      have hYv2 := hYv.below hk2 hYv.lt
      have HS1 : Hid (SL kC 7 v2 v2.heap.size A k (crns gap least R)) := hSLv.out.grow hk2 hk2.size
      have HS2 := Lib.hid (hs2.sl kC_len)
      have HN2 := Lib.hid hs2.2
      have hn2 : n2 ≤ 2000 := by have h1 := hs2.2; have h2 := crns_len gap L2 R; omega
      clear hs2 x0 x1 x2 y0 y1 yf
      go_wp2_with fail
      go_loopw [17, 18] (fun at' i wr => ∃ (q j : Nat), q ≤ k ∧ j ≤ n2 ∧ i = .int .i64 q ∧ at' = .int .i64 j ∧ Hid ((crns gap L2 R).drop j = ((crns gap least R).drop q).filter fun c => decide (L2 ≤ c.ang)) ∧ Below v2.heap.size v2 wr)
        (fun _ i _ => k - (intOf i).toNat)
      case atStart => exact ⟨0, 0, Nat.zero_le _, Nat.zero_le _, rfl, rfl, by rw [List.drop_zero, List.drop_zero]; exact HM.out, Below.refl _ _⟩
      case round =>
        obtain ⟨q, j, hq, hj, rfl, rfl, hdr, hb7⟩ := hrel
        have hz7 := hb7.size
        have hYq := hYv2.below hb7 hYv2.lt
        have y1 := hYq.cell 1
        simp only [List.getElem?_toArray, List.getElem?_cons_zero, List.getElem?_cons_succ] at y1
        have hq1 : (0 : Int) ≤ (q : Int) := by omega
        have hj1 : (0 : Int) ≤ (j : Int) := by omega
        by_cases hlt2 : q < k
        · have hql : q < (crns gap least R).length := by rw [← HNC.out]; exact hlt2
          have hq2 : (q : Int) < (k : Int) := by omega
          obtain ⟨b, off, hA, hbB, d0, d1, d2, d3, d4, d5, d6⟩ := KS.at_ (HS1.out.grow hb7 hz7) (k := q) hql
          have hdq := hdr.out
          rw [List.drop_eq_getElem_cons hql, List.filter_cons] at hdq
          have hbeh : Hid (∀ d ∈ (crns gap least R).drop (q + 1), (crns gap least R)[q].til ≤ d.fr) := fun d hd => by
            obtain ⟨i, hi, rfl⟩ := List.getElem_of_mem hd
            rw [List.getElem_drop]
            exact List.pairwise_iff_getElem.1 (crns_pw hv'.out gap least) q (q + 1 + i) hql (by simp at hi; omega) (by omega)
          have hF := crn_fine hv'.out (List.mem_of_getElem? (List.getElem?_eq_getElem hql))
          have hFl := hF.lt
          clear hF
          generalize (crns gap least R)[q]'hql = C at d0 d1 d2 d3 d4 d5 d6 hdq hbeh hFl
          obtain ⟨F, T, tu, ra, inn, ou, an⟩ := C
          simp only at d0 d1 d2 d3 d4 d5 d6 hdq hbeh hFl
          by_cases hle : L2 ≤ an
          · rw [if_pos (by simpa using hle)] at hdq
            have hjl : j < (crns gap L2 R).length := by
              rcases Nat.lt_or_ge j (crns gap L2 R).length with h | h
              · exact h
              · rw [List.drop_eq_nil_of_le h] at hdq; cases hdq
            have hjn : j < n2 := by rw [HN2.out]; exact hjl
            rw [List.drop_eq_getElem_cons hjl] at hdq
            obtain ⟨b', off', hA', hbB', e0, e1, e2, e3, e4, e5, e6⟩ := KS.at_ (HS2.out.grow hb7 hz7) (k := j) hjl
            injection hdq with hd1 hd2
            rw [hd1] at e0 e1 e2 e3 e4 e5 e6
            have hd2' := Lib.hid hd2
            have hj2 : (j : Int) < (n2 : Int) := by omega
            have hg : decide ((j : Int) < (n2 : Int)) = true := by simpa using hjn
            clear hd1 hd2 hdr hjl hql hbeh
            subst hA
            subst hA'
            go_wp2_with fail
            go_quiet (fail)
            go_wp2_with fail
            go_roundw
            case rel => exact ⟨q + 1, j + 1, by omega, by omega, by go_num, by go_num, hd2'.out, below_drewN hb7 _⟩
            case measure => simp [intOf]; omega
          · rw [if_neg (by simpa using hle)] at hdq
            have hd2' := Lib.hid hdq
            have hnl : decide (L2 ≤ an) = false := by simpa using hle
            by_cases hjn : j < n2
            · have hjl : j < (crns gap L2 R).length := by rw [← HN2.out]; exact hjn
              rw [List.drop_eq_getElem_cons hjl] at hdq
              obtain ⟨b', off', hA', hbB', e0, e1, e2, e3, e4, e5, e6⟩ := KS.at_ (HS2.out.grow hb7 hz7) (k := j) hjl
              have hmem : (crns gap L2 R)[j] ∈ (crns gap least R).drop (q + 1) := by
                have : (crns gap L2 R)[j] ∈ ((crns gap least R).drop (q + 1)).filter fun c => decide (L2 ≤ c.ang) := hdq ▸ List.mem_cons_self ..
                exact (List.mem_filter.1 this).1
              have hfr := hbeh.out _ hmem
              generalize (crns gap L2 R)[j]'hjl = E at e0 e1 e2 e3 e4 e5 e6 hfr
              obtain ⟨F', T', tu', ra', inn', ou', an'⟩ := E
              simp only at e0 e1 e2 e3 e4 e5 e6 hfr
              have hne1 : (F' == F) = false := by simp; omega
              have hj2 : (j : Int) < (n2 : Int) := by omega
              have hg : decide ((j : Int) < (n2 : Int)) = true := by simpa using hjn
              clear hdq hdr hjl hql hbeh hmem hle
              subst hA
              subst hA'
              go_wp2_with fail
              go_quiet (fail)
              go_wp2_with fail
              go_quiet (fail)
              go_wp2_with fail
              go_roundw
              case rel => exact ⟨q + 1, j, by omega, by omega, by go_num, rfl, hd2'.out, below_drewN hb7 _⟩
              case measure => simp [intOf]; omega
            · have hg : decide ((j : Int) < (n2 : Int)) = false := by simp; omega
              clear hdq hdr hql hbeh hle
              subst hA
              go_wp2_with fail
              go_quiet (fail)
              go_wp2_with fail
              go_quiet (fail)
              go_wp2_with fail
              go_roundw
              case rel => exact ⟨q + 1, j, by omega, by omega, by go_num, rfl, hd2'.out, below_drewN hb7 _⟩
              case measure => simp [intOf]; omega
        · obtain rfl : q = k := by omega
          have hjn : j = n2 := by
            have h1 := hdr.out
            have h0 : (crns gap least R).drop q = [] := List.drop_eq_nil_of_le (by rw [← HNC.out]; exact Nat.le_refl _)
            rw [h0, List.filter_nil] at h1
            have h2 := List.drop_eq_nil_iff.1 h1
            have h3 := HN2.out
            omega
          subst hjn
          go_wp2_with fail
          refine (known_any _).mono ?_
          rintro e v9 ⟨rfl, hk9⟩
          go_wp2_with fail
          go_ret
          have hz9 := hBv2.trans (hb7.mono hBv2.size)
          exact ⟨rfl, hz9.trans (hk9.mono hz9.size)⟩

end Go.Proofs.Ytomloklckpcaiaa
