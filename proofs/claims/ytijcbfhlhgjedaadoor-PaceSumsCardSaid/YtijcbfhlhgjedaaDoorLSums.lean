/- The law function PaceSums, walked: it returns true. -/
import Derived.Test.YtijcbfhlhgjedaaDoorKnown3
import Derived.Test.YtijcbfhlhgjedaaDoorSumsP
namespace Go.Proofs.YtijcbfhlhgjedaaDoor
open Go.RowKit Go.Shelf Go.Sort Go.Proofs

theorem btw_i {S : Spd} {R : Road} {f t : Int} (h0 : 0 ≤ f) (h1 : f ≤ t) (h2 : t ≤ sumL R.ps) : btw S R f t = (tQ S R.ps t.toNat - tQ S R.ps f.toNat, tSl S R.ps t.toNat - tSl S R.ps f.toNat, 0) := by
  unfold btw
  rw [if_pos (by simp [inR]; omega)]
set_option maxRecDepth 100000 in
set_option maxHeartbeats 8000000 in
theorem LSums_walk (a b c : Int) (pa : Option Addr) (pn pc : Nat) (ca : Option Addr) (cn cc : Nat) (ja : Option Addr) (jn jc : Nat) (R : Road) (ra : Option Addr) (rn rc : Nat) (sa : Option Addr) (sn sc : Nat) (S : Spd) (w : World)
    (h : RD w w.heap.size pa pn ca cn ja jn R) (hD : SD w w.heap.size ra rn sa sn S) (hmx : pn ≤ 9223372036854775807) :
    Calls Tryd.prog 15 #[.agg #[.slice pa pn pc, .slice ca cn cc, .slice ja jn jc], .agg #[.int .i64 S.least, .int .i64 S.most, .slice ra rn rc, .slice sa sn sc], .int .i64 a, .int .i64 b, .int .i64 c] w fun e w' => e = .returned (.bool true) ∧ Below w.heap.size w w' := by
  have HR := Lib.hid h
  have HD := Lib.hid hD
  clear h hD
  obtain ⟨w0, hw0⟩ : ∃ w0, w0 = (w.alloc (.cells #[.slice pa pn pc, .slice ca cn cc, .slice ja jn jc] 26)).alloc (.cells #[.int .i64 S.least, .int .i64 S.most, .slice ra rn rc, .slice sa sn sc] 30) := ⟨_, rfl⟩
  have hB0 : Below w.heap.size w w0 := by rw [hw0]; exact ((Below.refl w.heap.size w).alloc (Nat.le_refl _) _).alloc (by simp) _
  have hX0 : BK w0 (w.heap.size) 26 #[.slice pa pn pc, .slice ca cn cc, .slice ja jn jc] := by rw [hw0]; exact ((BK.new w 26 #[.slice pa pn pc, .slice ca cn cc, .slice ja jn jc])).alloc _
  have hY0 : BK w0 (w.heap.size + 1) 30 #[.int .i64 S.least, .int .i64 S.most, .slice ra rn rc, .slice sa sn sc] := by rw [hw0]; have := BK.new (w.alloc (.cells #[.slice pa pn pc, .slice ca cn cc, .slice ja jn jc] 26)) 30 #[.int .i64 S.least, .int .i64 S.most, .slice ra rn rc, .slice sa sn sc]; rw [World.size_alloc] at this; exact this
  go_enter Tryd.func15, Tryd.ntmps15
  go_wp2_with fail
  rw [← hw0]
  clear hw0
  have x0 := hX0.cell 0
  have x1 := hX0.cell 1
  have x2 := hX0.cell 2
  have y0 := hY0.cell 0
  have y1 := hY0.cell 1
  have y2 := hY0.cell 2
  have y3 := hY0.cell 3
  simp only [List.getElem?_toArray, List.getElem?_cons_zero, List.getElem?_cons_succ] at x0 x1 x2 y0 y1 y2 y3
  go_wp2_with fail
  clear x0 x1 x2 y0 y1 y2 y3
  refine (few_any pa pn pc ca cn cc ja jn jc R w0 (HR.out.grow hB0 hB0.size) hmx).mono ?_
  rintro e w1 ⟨rfl, hk⟩
  have hB1 := hB0.trans (hk.mono hB0.size)
  have hX1 := hX0.below hk hX0.lt
  have hY1 := hY0.below hk hY0.lt
  clear hX0 hY0 hB0 hk
  cases hfew : fewB R
  case false =>
    go_wp2_with fail
    have hBX := hB1
    refine (known_any _).mono ?_
    rintro e w9 ⟨rfl, hk⟩
    go_wp2_with fail
    go_ret
    exact ⟨rfl, hBX.trans (hk.mono hBX.size)⟩
  have x0 := hX1.cell 0
  have x1 := hX1.cell 1
  have x2 := hX1.cell 2
  have y0 := hY1.cell 0
  have y1 := hY1.cell 1
  have y2 := hY1.cell 2
  have y3 := hY1.cell 3
  simp only [List.getElem?_toArray, List.getElem?_cons_zero, List.getElem?_cons_succ] at x0 x1 x2 y0 y1 y2 y3
  go_wp2_with fail
  clear x0 x1 x2 y0 y1 y2 y3
  refine (quick_any3 ra rn rc sa sn sc S w1 (HD.out.grow hB1 hB1.size)).mono ?_
  rintro e w2 ⟨rfl, hk⟩
  have hB2 := hB1.trans (hk.mono hB1.size)
  have hX2 := hX1.below hk hX1.lt
  have hY2 := hY1.below hk hY1.lt
  clear hX1 hY1 hB1 hk
  cases hqu : quickB S
  case false =>
    go_wp2_with fail
    have hBX := hB2
    refine (known_any _).mono ?_
    rintro e w9 ⟨rfl, hk⟩
    go_wp2_with fail
    go_ret
    exact ⟨rfl, hBX.trans (hk.mono hBX.size)⟩
  clear hfew hqu
  have x0 := hX2.cell 0
  have x1 := hX2.cell 1
  have x2 := hX2.cell 2
  have y0 := hY2.cell 0
  have y1 := hY2.cell 1
  have y2 := hY2.cell 2
  have y3 := hY2.cell 3
  simp only [List.getElem?_toArray, List.getElem?_cons_zero, List.getElem?_cons_succ] at x0 x1 x2 y0 y1 y2 y3
  go_wp2_with fail
  clear x0 x1 x2 y0 y1 y2 y3
  refine (fine_any pa pn pc ca cn cc ja jn jc R ra rn rc sa sn sc S w2 (HR.out.grow hB2 hB2.size) (HD.out.grow hB2 hB2.size)).mono ?_
  rintro e w3 ⟨rfl, hk⟩
  have hB3 := hB2.trans (hk.mono hB2.size)
  have hX3 := hX2.below hk hX2.lt
  have hY3 := hY2.below hk hY2.lt
  clear hX2 hY2 hB2 hk
  cases hvs : val R && spB S
  case false =>
    go_wp2_with fail
    have hBX := hB3
    refine (known_any _).mono ?_
    rintro e w9 ⟨rfl, hk⟩
    go_wp2_with fail
    go_ret
    exact ⟨rfl, hBX.trans (hk.mono hBX.size)⟩
  have HV : Hid (OK R) := by have := hvs; rw [Bool.and_eq_true] at this; exact (val_iff R).1 this.1
  have HS : Hid (SOK S) := by have := hvs; rw [Bool.and_eq_true] at this; exact (spB_iff S).1 this.2
  clear hvs
  obtain ⟨N, hN⟩ : ∃ N : Nat, sumL R.ps = (N : Int) := ⟨(sumL R.ps).toNat, by have := (sumL_bd R.ps HV.out.pk).1; omega⟩
  have hN1 : N ≤ 100000 := by have := HV.out.n1; omega
  have HN := Lib.hid hN
  clear hN
  by_cases ha : 0 ≤ a
  case neg =>
    have ga : decide (a < 0) = true := decide_eq_true (by omega)
    go_wp2_with fail
    have hBX := hB3
    refine (known_any _).mono ?_
    rintro e w9 ⟨rfl, hk⟩
    go_wp2_with fail
    go_ret
    exact ⟨rfl, hBX.trans (hk.mono hBX.size)⟩
  have ga : decide (a < 0) = false := decide_eq_false (by omega)
  by_cases hab : a ≤ b
  case neg =>
    have gb : decide (b < a) = true := decide_eq_true (by omega)
    go_wp2_with fail
    have hBX := hB3
    refine (known_any _).mono ?_
    rintro e w9 ⟨rfl, hk⟩
    go_wp2_with fail
    go_ret
    exact ⟨rfl, hBX.trans (hk.mono hBX.size)⟩
  have gb : decide (b < a) = false := decide_eq_false (by omega)
  by_cases hbc : b ≤ c
  case neg =>
    have gc : decide (c < b) = true := decide_eq_true (by omega)
    go_wp2_with fail
    have hBX := hB3
    refine (known_any _).mono ?_
    rintro e w9 ⟨rfl, hk⟩
    go_wp2_with fail
    go_ret
    exact ⟨rfl, hBX.trans (hk.mono hBX.size)⟩
  have gc : decide (c < b) = false := decide_eq_false (by omega)
  have x0 := hX3.cell 0
  have x1 := hX3.cell 1
  have x2 := hX3.cell 2
  have y0 := hY3.cell 0
  have y1 := hY3.cell 1
  have y2 := hY3.cell 2
  have y3 := hY3.cell 3
  simp only [List.getElem?_toArray, List.getElem?_cons_zero, List.getElem?_cons_succ] at x0 x1 x2 y0 y1 y2 y3
  go_wp2_with fail
  clear x0 x1 x2 y0 y1 y2 y3
  clear ga gb gc
  refine (R3Length_any pa pn pc ca cn cc ja jn jc R w3 (HR.out.grow hB3 hB3.size) HV.out).mono ?_
  rintro e w4 ⟨rfl, hk⟩
  rw [HN.out]
  have hB4 := hB3.trans (hk.mono hB3.size)
  have hX4 := hX3.below hk hX3.lt
  have hY4 := hY3.below hk hY3.lt
  clear hX3 hY3 hB3 hk
  by_cases hcN : c ≤ (N : Int)
  case neg =>
    have gn : decide ((N : Int) < c) = true := decide_eq_true (by omega)
    go_wp2_with fail
    have hBX := hB4
    refine (known_any _).mono ?_
    rintro e w9 ⟨rfl, hk⟩
    go_wp2_with fail
    go_ret
    exact ⟨rfl, hBX.trans (hk.mono hBX.size)⟩
  have gn : decide ((N : Int) < c) = false := decide_eq_false (by omega)
  obtain ⟨i, rfl⟩ : ∃ i : Nat, a = (i : Int) := ⟨a.toNat, by omega⟩
  obtain ⟨j, rfl⟩ : ∃ j : Nat, b = (j : Int) := ⟨b.toNat, by omega⟩
  obtain ⟨k, rfl⟩ : ∃ k : Nat, c = (k : Int) := ⟨c.toNat, by omega⟩
  obtain ⟨X1, hX1⟩ : ∃ X1, X1 = tQ S R.ps j - tQ S R.ps i := ⟨_, rfl⟩
  obtain ⟨X2, hX2⟩ : ∃ X2, X2 = tQ S R.ps k - tQ S R.ps j := ⟨_, rfl⟩
  obtain ⟨X, hX⟩ : ∃ X, X = tQ S R.ps k - tQ S R.ps i := ⟨_, rfl⟩
  obtain ⟨Y1, hY1⟩ : ∃ Y1, Y1 = tSl S R.ps j - tSl S R.ps i := ⟨_, rfl⟩
  obtain ⟨Y2, hY2⟩ : ∃ Y2, Y2 = tSl S R.ps k - tSl S R.ps j := ⟨_, rfl⟩
  obtain ⟨Y, hY⟩ : ∃ Y, Y = tSl S R.ps k - tSl S R.ps i := ⟨_, rfl⟩
  have HB1 : Hid (btw S R i j = (X1, Y1, 0)) := by show _ = _; rw [btw_i (by omega) hab (by rw [HN.out]; omega), hX1, hY1]; rfl
  have HB2 : Hid (btw S R j k = (X2, Y2, 0)) := by show _ = _; rw [btw_i (by omega) hbc (by rw [HN.out]; omega), hX2, hY2]; rfl
  have HB3 : Hid (btw S R i k = (X, Y, 0)) := by show _ = _; rw [btw_i (by omega) (by omega) (by rw [HN.out]; omega), hX, hY]; rfl
  have b1 := tQ_bd HS.out HV.out i
  have b2 := tQ_bd HS.out HV.out j
  have b3 := tQ_bd HS.out HV.out k
  have b4 := tSl_bd HS.out HV.out i
  have b5 := tSl_bd HS.out HV.out j
  have b6 := tSl_bd HS.out HV.out k
  have hwX : IntKind.i64.wrap (X1 + X2) = X := (IntWalk.i64_in _ (by omega)).trans (by omega)
  have hwY : IntKind.i64.wrap (Y1 + Y2) = Y := (IntWalk.i64_in _ (by omega)).trans (by omega)
  obtain ⟨XX, hXX⟩ : ∃ XX, XX = 2 * X := ⟨_, rfl⟩
  obtain ⟨YY, hYY⟩ : ∃ YY, YY = 2 * Y := ⟨_, rfl⟩
  have HWX : Hid (IntKind.i64.wrap (2 * X) = XX) := (IntWalk.i64_in _ (by omega)).trans hXX.symm
  have HWY : Hid (IntKind.i64.wrap (2 * Y) = YY) := (IntWalk.i64_in _ (by omega)).trans hYY.symm
  have HXE := Lib.hid hX
  have HYE := Lib.hid hY
  have HXX := Lib.hid hXX
  have HYY := Lib.hid hYY
  clear hX1 hX2 hX hY1 hY2 hY b1 b2 b3 b4 b5 b6 hXX hYY
  have HIJ := Lib.hid hab
  have HJK := Lib.hid hbc
  have HKN := Lib.hid hcN
  clear hab hbc ha
  have gnN : decide (N < k) = false := decide_eq_false (by omega)
  clear hcN
  have x0 := hX4.cell 0
  have x1 := hX4.cell 1
  have x2 := hX4.cell 2
  have y0 := hY4.cell 0
  have y1 := hY4.cell 1
  have y2 := hY4.cell 2
  have y3 := hY4.cell 3
  simp only [List.getElem?_toArray, List.getElem?_cons_zero, List.getElem?_cons_succ] at x0 x1 x2 y0 y1 y2 y3
  go_wp2_with fail
  clear x0 x1 x2 y0 y1 y2 y3
  clear gn gnN
  refine (Between_any (i : Int) (j : Int) pa pn pc ca cn cc ja jn jc R ra rn rc sa sn sc S w4 (HR.out.grow hB4 hB4.size) (HD.out.grow hB4 hB4.size) HV.out HS.out).mono ?_
  rintro e w5 ⟨rfl, hk⟩
  rw [HB1.out]
  dsimp only
  have hB5 := hB4.trans (hk.mono hB4.size)
  have hX5 := hX4.below hk hX4.lt
  have hY5 := hY4.below hk hY4.lt
  clear hX4 hY4 hB4 hk
  have x0 := hX5.cell 0
  have x1 := hX5.cell 1
  have x2 := hX5.cell 2
  have y0 := hY5.cell 0
  have y1 := hY5.cell 1
  have y2 := hY5.cell 2
  have y3 := hY5.cell 3
  simp only [List.getElem?_toArray, List.getElem?_cons_zero, List.getElem?_cons_succ] at x0 x1 x2 y0 y1 y2 y3
  go_wp2_with fail
  clear x0 x1 x2 y0 y1 y2 y3
  refine (Between_any (j : Int) (k : Int) pa pn pc ca cn cc ja jn jc R ra rn rc sa sn sc S w5 (HR.out.grow hB5 hB5.size) (HD.out.grow hB5 hB5.size) HV.out HS.out).mono ?_
  rintro e w6 ⟨rfl, hk⟩
  rw [HB2.out]
  dsimp only
  have hB6 := hB5.trans (hk.mono hB5.size)
  have hX6 := hX5.below hk hX5.lt
  have hY6 := hY5.below hk hY5.lt
  clear hX5 hY5 hB5 hk
  have x0 := hX6.cell 0
  have x1 := hX6.cell 1
  have x2 := hX6.cell 2
  have y0 := hY6.cell 0
  have y1 := hY6.cell 1
  have y2 := hY6.cell 2
  have y3 := hY6.cell 3
  simp only [List.getElem?_toArray, List.getElem?_cons_zero, List.getElem?_cons_succ] at x0 x1 x2 y0 y1 y2 y3
  go_wp2_with fail
  clear x0 x1 x2 y0 y1 y2 y3
  refine (Between_any (i : Int) (k : Int) pa pn pc ca cn cc ja jn jc R ra rn rc sa sn sc S w6 (HR.out.grow hB6 hB6.size) (HD.out.grow hB6 hB6.size) HV.out HS.out).mono ?_
  rintro e w7 ⟨rfl, hk⟩
  rw [HB3.out]
  dsimp only
  have hB7 := hB6.trans (hk.mono hB6.size)
  have hX7 := hX6.below hk hX6.lt
  have hY7 := hY6.below hk hY6.lt
  clear hX6 hY6 hB6 hk
  have gX : (X == X) = true := by simp
  have gY : (Y == Y) = true := by simp
  have x0 := hX7.cell 0
  have x1 := hX7.cell 1
  have x2 := hX7.cell 2
  have y0 := hY7.cell 0
  have y1 := hY7.cell 1
  have y2 := hY7.cell 2
  have y3 := hY7.cell 3
  simp only [List.getElem?_toArray, List.getElem?_cons_zero, List.getElem?_cons_succ] at x0 x1 x2 y0 y1 y2 y3
  go_wp2_with fail
  clear x0 x1 x2 y0 y1 y2 y3
  clear gX gY hwX hwY
  refine (R3Length_any pa pn pc ca cn cc ja jn jc R w7 (HR.out.grow hB7 hB7.size) HV.out).mono ?_
  rintro e w8 ⟨rfl, hk⟩
  rw [HN.out]
  have hB8 := hB7.trans (hk.mono hB7.size)
  have hX8 := hX7.below hk hX7.lt
  have hY8 := hY7.below hk hY7.lt
  clear hX7 hY7 hB7 hk
  have x0 := hX8.cell 0
  have x1 := hX8.cell 1
  have x2 := hX8.cell 2
  have y0 := hY8.cell 0
  have y1 := hY8.cell 1
  have y2 := hY8.cell 2
  have y3 := hY8.cell 3
  simp only [List.getElem?_toArray, List.getElem?_cons_zero, List.getElem?_cons_succ] at x0 x1 x2 y0 y1 y2 y3
  go_wp2_with fail
  clear x0 x1 x2 y0 y1 y2 y3
  refine (Reverse_in pa pn pc ca cn cc ja jn jc R w8 (HR.out.grow hB8 hB8.size) HV.out).mono ?_
  rintro e w9 ⟨pb, qb, cb, db, jb, kb, rfl, ⟨o1, o2, o3⟩, hk⟩
  have hB9 := hB8.trans (hk.mono hB8.size)
  have hX9 := hX8.below hk hX8.lt
  have hY9 := hY8.below hk hY8.lt
  clear hX8 hY8 hB8 hk
  have hRB9 := RD.mk (R := revR R) (o1.sl pC_len) (o2.sl cC_len) (o3.sl jC_len)
  clear o1 o2 o3
  have hVB := revR_ok HV.out
  have hNB : sumL (revR R).ps = (N : Int) := (sumL_revR R).trans HN.out
  have hX9r := hX9.alloc (.cells #[.slice pb pn qb, .slice cb cn db, .slice jb jn kb] 26)
  have hY9r := hY9.alloc (.cells #[.slice pb pn qb, .slice cb cn db, .slice jb jn kb] 26)
  have x0 := hX9r.cell 0
  have x1 := hX9r.cell 1
  have x2 := hX9r.cell 2
  have y0 := hY9r.cell 0
  have y1 := hY9r.cell 1
  have y2 := hY9r.cell 2
  have y3 := hY9r.cell 3
  simp only [List.getElem?_toArray, List.getElem?_cons_zero, List.getElem?_cons_succ] at x0 x1 x2 y0 y1 y2 y3
  have hlX := hX9.lt
  have hlY := hY9.lt
  have hwk : IntKind.i64.wrap ((N : Int) - (k : Int)) = ((N - k : Nat) : Int) := (IntWalk.i64_in _ (by have := HKN.out; omega)).trans (by have := HKN.out; omega)
  have hwi : IntKind.i64.wrap ((N : Int) - (i : Int)) = ((N - i : Nat) : Int) := (IntWalk.i64_in _ (by have := HKN.out; have := HIJ.out; have := HJK.out; omega)).trans (by have := HKN.out; have := HIJ.out; have := HJK.out; omega)
  go_wp2_with fail
  clear x0 x1 x2 y0 y1 y2 y3
  clear hwk hwi
  obtain ⟨w10, hw10⟩ : ∃ w10, w10 = w9.alloc (.cells #[.slice pb pn qb, .slice cb cn db, .slice jb jn kb] 26) := ⟨_, rfl⟩
  have hZ10 : BK w10 w9.heap.size 26 #[.slice pb pn qb, .slice cb cn db, .slice jb jn kb] := by rw [hw10]; exact BK.new _ _ _
  have hk : Below w9.heap.size w9 w10 := by rw [hw10]; exact (Below.refl _ _).alloc (Nat.le_refl _) _
  have hRB10 := hRB9.grow hk hk.size
  rw [← hw10]
  clear hw10 hX9r hY9r hRB9
  have hB10 := hB9.trans (hk.mono hB9.size)
  have hX10 := hX9.below hk hX9.lt
  have hY10 := hY9.below hk hY9.lt
  clear hX9 hY9 hB9 hk
  have HBR : Hid (btw S (revR R) ((N - k : Nat) : Int) ((N - i : Nat) : Int) = (X, Y, 0)) := by
    show _ = _
    have h1 := HKN.out
    have h2 := HIJ.out
    have h3 := HJK.out
    have t1 := t_rev (S := S) HV.out HN.out (k := N - k)
    have t2 := t_rev (S := S) HV.out HN.out (k := N - i)
    rw [btw_i (by omega) (by omega) (by rw [hNB]; omega), Int.toNat_natCast, Int.toNat_natCast, t1.1, t1.2, t2.1, t2.2, HXE.out, HYE.out, show N - (N - k) = k by omega, show N - (N - i) = i by omega]
    congr 1
    · omega
    · congr 1
      omega
  refine (Between_any ((N - k : Nat) : Int) ((N - i : Nat) : Int) pb pn qb cb cn db jb jn kb (revR R) ra rn rc sa sn sc S w10 hRB10 (HD.out.grow hB10 hB10.size) hVB HS.out).mono ?_
  rintro e w11 ⟨rfl, hk⟩
  rw [HBR.out]
  dsimp only
  clear hZ10 hRB10 hVB hNB
  have hB11 := hB10.trans (hk.mono hB10.size)
  have hX11 := hX10.below hk hX10.lt
  have hY11 := hY10.below hk hY10.lt
  clear hX10 hY10 hB10 hk
  have gX : (X == X) = true := by simp
  have gY : (Y == Y) = true := by simp
  by_cases hac : i = k
  case pos =>
    have ge : ((i : Int) == (k : Int)) = true := by simp; omega
    go_wp2_with fail
    have hBX := hB11
    refine (known_any _).mono ?_
    rintro e w9 ⟨rfl, hk⟩
    go_wp2_with fail
    go_ret
    exact ⟨rfl, hBX.trans (hk.mono hBX.size)⟩
  have ge : ((i : Int) == (k : Int)) = false := by simp; omega
  have HAC := Lib.hid hac
  clear hac
  have x0 := hX11.cell 0
  have x1 := hX11.cell 1
  have x2 := hX11.cell 2
  have y0 := hY11.cell 0
  have y1 := hY11.cell 1
  have y2 := hY11.cell 2
  have y3 := hY11.cell 3
  simp only [List.getElem?_toArray, List.getElem?_cons_zero, List.getElem?_cons_succ] at x0 x1 x2 y0 y1 y2 y3
  go_wp2_with fail
  clear x0 x1 x2 y0 y1 y2 y3
  clear gX gY ge
  have h1k : (i : Int) < (k : Int) := by have := HAC.out; have := HIJ.out; have := HJK.out; omega
  have h2k : (k : Int) ≤ sumL R.ps := by have := HKN.out; rw [HN.out]; omega
  refine (Part_in (i : Int) (k : Int) pa pn pc ca cn cc ja jn jc R w11 (HR.out.grow hB11 hB11.size) HV.out (by omega) h1k h2k).mono ?_
  rintro e w12 ⟨pt, m1, qt, ct, m2, dt, jt, m3, kt, rfl, ⟨o1, o2, o3⟩, hk⟩
  have hB12 := hB11.trans (hk.mono hB11.size)
  have hX12 := hX11.below hk hX11.lt
  have hY12 := hY11.below hk hY11.lt
  clear hX11 hY11 hB11 hk
  have hRP12 := RD.mk (R := partR i k R) (o1.sl pC_len) (o2.sl cC_len) (o3.sl jC_len)
  clear o1 o2 o3
  obtain ⟨hVP, hNP⟩ := part_ok HV.out (f := (i : Int)) (t := (k : Int)) (by omega) h1k h2k
  have HVP := Lib.hid hVP
  have hNP : sumL (partR (i : Int) (k : Int) R).ps = ((k - i : Nat) : Int) := by rw [hNP]; omega
  have HNP := Lib.hid hNP
  have htp := t_part (S := S) HV.out (f := i) (t := k) (by omega) (k := k - i) (by omega)
  rw [show i + (k - i) = k by omega] at htp
  have HTP := Lib.hid htp
  clear hVP hNP htp
  have hX12r := hX12.alloc (.cells #[.slice pt m1 qt, .slice ct m2 dt, .slice jt m3 kt] 26)
  have hY12r := hY12.alloc (.cells #[.slice pt m1 qt, .slice ct m2 dt, .slice jt m3 kt] 26)
  have x0 := hX12r.cell 0
  have x1 := hX12r.cell 1
  have x2 := hX12r.cell 2
  have y0 := hY12r.cell 0
  have y1 := hY12r.cell 1
  have y2 := hY12r.cell 2
  have y3 := hY12r.cell 3
  simp only [List.getElem?_toArray, List.getElem?_cons_zero, List.getElem?_cons_succ] at x0 x1 x2 y0 y1 y2 y3
  have hlX := hX12.lt
  have hlY := hY12.lt
  have hwk : IntKind.i64.wrap ((k : Int) - (i : Int)) = ((k - i : Nat) : Int) := (IntWalk.i64_in _ (by have := HKN.out; omega)).trans (by omega)
  clear h1k h2k
  go_wp2_with fail
  clear x0 x1 x2 y0 y1 y2 y3
  obtain ⟨w13, hw13⟩ : ∃ w13, w13 = w12.alloc (.cells #[.slice pt m1 qt, .slice ct m2 dt, .slice jt m3 kt] 26) := ⟨_, rfl⟩
  have hZ13 : BK w13 w12.heap.size 26 #[.slice pt m1 qt, .slice ct m2 dt, .slice jt m3 kt] := by rw [hw13]; exact BK.new _ _ _
  have hk : Below w12.heap.size w12 w13 := by rw [hw13]; exact (Below.refl _ _).alloc (Nat.le_refl _) _
  have hRP13 := hRP12.grow hk hk.size
  rw [← hw13]
  clear hw13 hX12r hY12r hRP12
  have hB13 := hB12.trans (hk.mono hB12.size)
  have hX13 := hX12.below hk hX12.lt
  have hY13 := hY12.below hk hY12.lt
  clear hX12 hY12 hB12 hk
  have HBP : Hid (btw S (partR (i : Int) (k : Int) R) 0 ((k - i : Nat) : Int) = (X, Y, 0)) := by
    show _ = _
    rw [btw_i (by omega) (by omega) (by rw [HNP.out]; omega), Int.toNat_natCast, HTP.out.1, HTP.out.2, HXE.out, HYE.out, show (0 : Int).toNat = 0 from rfl, tQ_zero, tSl_zero]
    congr 1
    · omega
    · congr 1
      omega
  refine (Between_any 0 ((k - i : Nat) : Int) pt m1 qt ct m2 dt jt m3 kt (partR (i : Int) (k : Int) R) ra rn rc sa sn sc S w13 hRP13 (HD.out.grow hB13 hB13.size) HVP.out HS.out).mono ?_
  rintro e w14 ⟨rfl, hk⟩
  rw [HBP.out]
  dsimp only
  have hRP14 := hRP13.grow hk hk.size
  have hZ14 := hZ13.below hk hZ13.lt
  clear hRP13 hZ13
  have hB14 := hB13.trans (hk.mono hB13.size)
  have hX14 := hX13.below hk hX13.lt
  have hY14 := hY13.below hk hY13.lt
  clear hX13 hY13 hB13 hk
  have gX : (X == X) = true := by simp
  have gY : (Y == Y) = true := by simp
  have z0 := hZ14.cell 0
  have z1 := hZ14.cell 1
  have z2 := hZ14.cell 2
  simp only [List.getElem?_toArray, List.getElem?_cons_zero, List.getElem?_cons_succ] at z0 z1 z2
  go_wp2_with fail
  clear gX gY z0 z1 z2
  refine (Join_in pt m1 qt ct m2 dt jt m3 kt (partR (i : Int) (k : Int) R) pt m1 qt ct m2 dt jt m3 kt (partR (i : Int) (k : Int) R) w14 hRP14 hRP14 HVP.out HVP.out).mono ?_
  rintro e w15 ⟨pj, qj, cj, n2, dj, jj, n3, kj, rfl, ⟨o1, o2, o3⟩, hk⟩
  have hB15 := hB14.trans (hk.mono hB14.size)
  have hX15 := hX14.below hk hX14.lt
  have hY15 := hY14.below hk hY14.lt
  clear hX14 hY14 hB14 hk
  have hRJ15 := RD.mk (R := joinR (partR (i : Int) (k : Int) R) (partR (i : Int) (k : Int) R)) (o1.sl pC_len) (o2.sl cC_len) (o3.sl jC_len)
  clear o1 o2 o3 hZ14 hRP14
  unfold boundV
  cases hft : fitsR (joinR (partR (i : Int) (k : Int) R) (partR (i : Int) (k : Int) R))
  case false =>
    rw [if_neg (by simp)]
    go_wp2_with fail
    have hBX := hB15.alloc hB15.size (.cells #[.slice none 0 0, .slice none 0 0, .slice none 0 0] 26)
    refine (known_any _).mono ?_
    rintro e w9 ⟨rfl, hk⟩
    go_wp2_with fail
    go_ret
    exact ⟨rfl, hBX.trans (hk.mono hBX.size)⟩
  rw [if_pos rfl]
  obtain ⟨hVJ, hNJ⟩ := join_ok HVP.out HVP.out hft
  rw [HNP.out] at hNJ
  have hY15r := hY15.alloc (.cells #[.slice pj (m1 + m1) qj, .slice cj n2 dj, .slice jj n3 kj] 26)
  have y0 := hY15r.cell 0
  have y1 := hY15r.cell 1
  have y2 := hY15r.cell 2
  have y3 := hY15r.cell 3
  simp only [List.getElem?_toArray, List.getElem?_cons_zero, List.getElem?_cons_succ] at y0 y1 y2 y3
  have hlY := hY15.lt
  have hw2 : IntKind.i64.wrap (2 * ((k - i : Nat) : Int)) = ((2 * (k - i) : Nat) : Int) := (IntWalk.i64_in _ (by have := HKN.out; omega)).trans (by omega)
  clear hft
  go_wp2_with fail
  clear y0 y1 y2 y3
  clear hwk hw2
  obtain ⟨w16, hw16⟩ : ∃ w16, w16 = w15.alloc (.cells #[.slice pj (m1 + m1) qj, .slice cj n2 dj, .slice jj n3 kj] 26) := ⟨_, rfl⟩
  have hZ16 : BK w16 w15.heap.size 26 #[.slice pj (m1 + m1) qj, .slice cj n2 dj, .slice jj n3 kj] := by rw [hw16]; exact BK.new _ _ _
  have hk : Below w15.heap.size w15 w16 := by rw [hw16]; exact (Below.refl _ _).alloc (Nat.le_refl _) _
  have hRJ16 := hRJ15.grow hk hk.size
  rw [← hw16]
  clear hw16 hY15r hRJ15
  have hB16 := hB15.trans (hk.mono hB15.size)
  have hX16 := hX15.below hk hX15.lt
  have hY16 := hY15.below hk hY15.lt
  clear hX15 hY15 hB15 hk
  have HBJ : Hid (btw S (joinR (partR (i : Int) (k : Int) R) (partR (i : Int) (k : Int) R)) 0 ((2 * (k - i) : Nat) : Int) = (XX, YY, 0)) := by
    show _ = _
    have tj := t_join (S := S) HVP.out HVP.out HNP.out HNP.out
    rw [show k - i + (k - i) = 2 * (k - i) by omega, HTP.out.1, HTP.out.2, ← HXE.out, ← HYE.out] at tj
    rw [btw_i (by omega) (by omega) (by rw [hNJ]; omega), Int.toNat_natCast, tj.1, tj.2, HXX.out, HYY.out, show (0 : Int).toNat = 0 from rfl, tQ_zero, tSl_zero]
    congr 1
    · omega
    · congr 1
      omega
  refine (Between_any 0 ((2 * (k - i) : Nat) : Int) pj (m1 + m1) qj cj n2 dj jj n3 kj (joinR (partR (i : Int) (k : Int) R) (partR (i : Int) (k : Int) R)) ra rn rc sa sn sc S w16 hRJ16 (HD.out.grow hB16 hB16.size) hVJ HS.out).mono ?_
  rintro e w17 ⟨rfl, hk⟩
  rw [HBJ.out]
  dsimp only
  clear hZ16 hRJ16
  have hB17 := hB16.trans (hk.mono hB16.size)
  have hX17 := hX16.below hk hX16.lt
  have hY17 := hY16.below hk hY16.lt
  clear hX16 hY16 hB16 hk
  have gX : (XX == XX) = true := by simp
  have gY : (YY == YY) = true := by simp
  have hwX := HWX.out
  have hwY := HWY.out
  go_wp2_with fail
  have hBX := hB17
  refine (known_any _).mono ?_
  rintro e w9 ⟨rfl, hk⟩
  go_wp2_with fail
  go_ret
  exact ⟨rfl, hBX.trans (hk.mono hBX.size)⟩
end Go.Proofs.YtijcbfhlhgjedaaDoor
