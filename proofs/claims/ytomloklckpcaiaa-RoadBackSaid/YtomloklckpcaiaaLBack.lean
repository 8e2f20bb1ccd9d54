/- The law function RoadBack, walked: it returns true. -/
import Derived.Test.YtomloklckpcaiaaKnown
import Derived.Test.YtomloklckpcaiaaCornOut
import Derived.Test.YtomloklckpcaiaaOrdM
import Derived.Test.YtomloklckpcaiaaRevR
import Derived.Test.YtomloklckpcaiaaBackOk
namespace Go.Proofs.Ytomloklckpcaiaa
open Go.RowKit Go.Shelf Go.Sort Go.Proofs

set_option maxRecDepth 100000 in
set_option maxHeartbeats 4000000 in
theorem RoadBack_walk (gap least : Int) (pa : Option Addr) (pn pc : Nat) (ca : Option Addr) (cn cc : Nat) (ja : Option Addr) (jn jc : Nat) (R : Road) (w : World) (h : RD w w.heap.size pa pn ca cn ja jn R) :
    Calls Try.prog 8 #[.agg #[.slice pa pn pc, .slice ca cn cc, .slice ja jn jc], .agg #[.int .i64 gap, .int .i64 least]] w fun e w' => e = .returned (.bool true) ∧ Below w.heap.size w w' := by
  have hR := Lib.hid h
  have hpl := Lib.hid h.p.1
  clear h
  go_enter Try.func8, Try.ntmps8
  go_wp2_with fail
  obtain ⟨W0, hW0⟩ : ∃ W0, W0 = (w.alloc (.cells #[.slice pa pn pc, .slice ca cn cc, .slice ja jn jc] 26)).alloc (.cells #[.int .i64 gap, .int .i64 least] 41) := ⟨_, rfl⟩
  have hB0 : Below w.heap.size w W0 := by rw [hW0]; exact ((Below.refl w.heap.size w).alloc (Nat.le_refl _) _).alloc (by simp <;> omega) _
  have hX0 : BK W0 w.heap.size 26 #[.slice pa pn pc, .slice ca cn cc, .slice ja jn jc] := by rw [hW0]; exact (BK.new w _ _).alloc _
  have hY0 : BK W0 (w.heap.size + 1) 41 #[.int .i64 gap, .int .i64 least] := by rw [hW0]; have := BK.new (w.alloc (.cells #[.slice pa pn pc, .slice ca cn cc, .slice ja jn jc] 26)) 41 #[.int .i64 gap, .int .i64 least]; rw [World.size_alloc] at this; exact this
  rw [← hW0]
  clear hW0
  refine (small_any pa pn pc ca cn cc ja jn jc R W0 (hR.out.grow hB0 hB0.size)).mono ?_
  rintro e W1 ⟨rfl, hk0⟩
  have hB1 := hB0.trans (hk0.mono hB0.size)
  have hX1 := hX0.below hk0 hX0.lt
  have hY1 := hY0.below hk0 hY0.lt
  cases hs : sml R
  · have X_0 := hX1.cell 0
    have X_1 := hX1.cell 1
    have X_2 := hX1.cell 2
    have Y_0 := hY1.cell 0
    have Y_1 := hY1.cell 1
    simp only [List.getElem?_toArray, List.getElem?_cons_zero, List.getElem?_cons_succ] at X_0 X_1 X_2 Y_0 Y_1
    go_wp2_with fail
    clear X_0 X_1 X_2 Y_0 Y_1
    refine (known_any W1).mono ?_
    rintro e W2 ⟨rfl, hk1⟩
    have hB2 := hB1.trans (hk1.mono hB1.size)
    have hX2 := hX1.below hk1 hX1.lt
    have hY2 := hY1.below hk1 hY1.lt
    have X_0 := hX2.cell 0
    have X_1 := hX2.cell 1
    have X_2 := hX2.cell 2
    have Y_0 := hY2.cell 0
    have Y_1 := hY2.cell 1
    simp only [List.getElem?_toArray, List.getElem?_cons_zero, List.getElem?_cons_succ] at X_0 X_1 X_2 Y_0 Y_1
    go_wp2_with fail
    clear X_0 X_1 X_2 Y_0 Y_1
    go_ret
    exact ⟨rfl, hB2⟩
  have HS := Lib.hid hs
  clear hs
  have X_0 := hX1.cell 0
  have X_1 := hX1.cell 1
  have X_2 := hX1.cell 2
  have Y_0 := hY1.cell 0
  have Y_1 := hY1.cell 1
  simp only [List.getElem?_toArray, List.getElem?_cons_zero, List.getElem?_cons_succ] at X_0 X_1 X_2 Y_0 Y_1
  go_wp2_with fail
  clear X_0 X_1 X_2 Y_0 Y_1
  refine (Valid_any pa pn pc ca cn cc ja jn jc R W1 (hR.out.grow hB1 hB1.size)).mono ?_
  rintro e W2 ⟨rfl, hk1⟩
  have hB2 := hB1.trans (hk1.mono hB1.size)
  have hX2 := hX1.below hk1 hX1.lt
  have hY2 := hY1.below hk1 hY1.lt
  cases hv : val R
  · have X_0 := hX2.cell 0
    have X_1 := hX2.cell 1
    have X_2 := hX2.cell 2
    have Y_0 := hY2.cell 0
    have Y_1 := hY2.cell 1
    simp only [List.getElem?_toArray, List.getElem?_cons_zero, List.getElem?_cons_succ] at X_0 X_1 X_2 Y_0 Y_1
    go_wp2_with fail
    clear X_0 X_1 X_2 Y_0 Y_1
    refine (known_any W2).mono ?_
    rintro e W3 ⟨rfl, hk2⟩
    have hB3 := hB2.trans (hk2.mono hB2.size)
    have hX3 := hX2.below hk2 hX2.lt
    have hY3 := hY2.below hk2 hY2.lt
    have X_0 := hX3.cell 0
    have X_1 := hX3.cell 1
    have X_2 := hX3.cell 2
    have Y_0 := hY3.cell 0
    have Y_1 := hY3.cell 1
    simp only [List.getElem?_toArray, List.getElem?_cons_zero, List.getElem?_cons_succ] at X_0 X_1 X_2 Y_0 Y_1
    go_wp2_with fail
    clear X_0 X_1 X_2 Y_0 Y_1
    go_ret
    exact ⟨rfl, hB3⟩
  have hok := (val_iff R).1 hv
  have hv' := Lib.hid hok
  have hn1 := hok.n1
  have hp2 := hok.p2
  have hpn : pn ≤ 2000 := by rw [hpl.out]; exact hp2
  have hln := hok.len
  clear hv hok
  have X_0 := hX2.cell 0
  have X_1 := hX2.cell 1
  have X_2 := hX2.cell 2
  have Y_0 := hY2.cell 0
  have Y_1 := hY2.cell 1
  simp only [List.getElem?_toArray, List.getElem?_cons_zero, List.getElem?_cons_succ] at X_0 X_1 X_2 Y_0 Y_1
  go_wp2_with fail
  clear X_0 X_1 X_2 Y_0 Y_1
  refine (Bends_any gap least W2).mono ?_
  rintro e W3 ⟨rfl, hk2⟩
  have hB3 := hB2.trans (hk2.mono hB2.size)
  have hX3 := hX2.below hk2 hX2.lt
  have hY3 := hY2.below hk2 hY2.lt
  cases hbd : bendsOk gap least
  · have X_0 := hX3.cell 0
    have X_1 := hX3.cell 1
    have X_2 := hX3.cell 2
    have Y_0 := hY3.cell 0
    have Y_1 := hY3.cell 1
    simp only [List.getElem?_toArray, List.getElem?_cons_zero, List.getElem?_cons_succ] at X_0 X_1 X_2 Y_0 Y_1
    go_wp2_with fail
    clear X_0 X_1 X_2 Y_0 Y_1
    refine (known_any W3).mono ?_
    rintro e W4 ⟨rfl, hk3⟩
    have hB4 := hB3.trans (hk3.mono hB3.size)
    have hX4 := hX3.below hk3 hX3.lt
    have hY4 := hY3.below hk3 hY3.lt
    have X_0 := hX4.cell 0
    have X_1 := hX4.cell 1
    have X_2 := hX4.cell 2
    have Y_0 := hY4.cell 0
    have Y_1 := hY4.cell 1
    simp only [List.getElem?_toArray, List.getElem?_cons_zero, List.getElem?_cons_succ] at X_0 X_1 X_2 Y_0 Y_1
    go_wp2_with fail
    clear X_0 X_1 X_2 Y_0 Y_1
    go_ret
    exact ⟨rfl, hB4⟩
  have HO := Lib.hid hbd
  clear hbd
  have X_0 := hX3.cell 0
  have X_1 := hX3.cell 1
  have X_2 := hX3.cell 2
  have Y_0 := hY3.cell 0
  have Y_1 := hY3.cell 1
  simp only [List.getElem?_toArray, List.getElem?_cons_zero, List.getElem?_cons_succ] at X_0 X_1 X_2 Y_0 Y_1
  go_wp2_with fail
  clear X_0 X_1 X_2 Y_0 Y_1
  refine (Reverse_in pa pn pc ca cn cc ja jn jc R W3 (hR.out.grow hB3 hB3.size) hv'.out).mono ?_
  rintro e W4 ⟨pa2, pc2, ca2, cc2, ja2, jc2, rfl, ⟨o1, o2, o3⟩, hk3⟩
  have hB4 := hB3.trans (hk3.mono hB3.size)
  have hX4 := hX3.below hk3 hX3.lt
  have hY4 := hY3.below hk3 hY3.lt
  have hlv := revR_ok hv'.out
  have HLV := Lib.hid hlv
  have hR2 : RD W4 W4.heap.size pa2 pn ca2 cn ja2 jn (revR R) := ⟨o1.sl pC_len, o2.sl cC_len, o3.sl jC_len⟩
  have HR2 := Lib.hid hR2
  have hlx := hX4.lt
  have hly := hY4.lt
  clear hR2 o1 o2 o3 hlv
  have X_0 := hX4.cell 0
  have X_1 := hX4.cell 1
  have X_2 := hX4.cell 2
  have Y_0 := hY4.cell 0
  have Y_1 := hY4.cell 1
  simp only [List.getElem?_toArray, List.getElem?_cons_zero, List.getElem?_cons_succ] at X_0 X_1 X_2 Y_0 Y_1
  go_wp2_with fail
  clear X_0 X_1 X_2 Y_0 Y_1
  obtain ⟨W5, hW5⟩ : ∃ W', W' = W4.alloc (.cells #[.slice pa2 pn pc2, .slice ca2 cn cc2, .slice ja2 jn jc2] 26) := ⟨_, rfl⟩
  have hk4 : Below W4.heap.size W4 W5 := by rw [hW5]; exact (Below.refl _ _).alloc (Nat.le_refl _) _
  have HZX : BK W5 W4.heap.size 26 #[.slice pa2 pn pc2, .slice ca2 cn cc2, .slice ja2 jn jc2] := by rw [hW5]; exact BK.new _ _ _
  rw [← hW5]
  clear hW5
  have hB5 := hB4.trans (hk4.mono hB4.size)
  have hX5 := hX4.below hk4 hX4.lt
  have hY5 := hY4.below hk4 hY4.lt
  have HZN : Hid (BK W5 W4.heap.size 26 #[.slice pa2 pn pc2, .slice ca2 cn cc2, .slice ja2 jn jc2]) := HZX
  have hZ5 := HZN.out
  have HR2 := Lib.hid (HR2.out.grow hk4 hk4.size)
  refine (Corners_in gap least pa pn pc ca cn cc ja jn jc R W5 (hR.out.grow hB5 hB5.size) hv'.out HO.out).mono ?_
  rintro e W6 ⟨A, n, c, rfl, hs, hk5⟩
  have HR2 := Lib.hid (HR2.out.grow hk5 hk5.size)
  have HNC := Lib.hid hs.2
  have hcl := crns_len gap least R
  have hn2000 : n ≤ 2000 := by rw [hs.2]; omega
  have HSL := Lib.hid (hs.sl kC_len)
  clear hs
  have hB6 := hB5.trans (hk5.mono hB5.size)
  have hX6 := hX5.below hk5 hX5.lt
  have hY6 := hY5.below hk5 hY5.lt
  have hZ6 := hZ5.below hk5 hZ5.lt
  have X_0 := hX6.cell 0
  have X_1 := hX6.cell 1
  have X_2 := hX6.cell 2
  have Y_0 := hY6.cell 0
  have Y_1 := hY6.cell 1
  have Z_0 := hZ6.cell 0
  have Z_1 := hZ6.cell 1
  have Z_2 := hZ6.cell 2
  simp only [List.getElem?_toArray, List.getElem?_cons_zero, List.getElem?_cons_succ] at X_0 X_1 X_2 Y_0 Y_1 Z_0 Z_1 Z_2
  go_wp2_with fail
  clear X_0 X_1 X_2 Y_0 Y_1 Z_0 Z_1 Z_2
  refine (Corners_in gap least pa2 pn pc2 ca2 cn cc2 ja2 jn jc2 (revR R) W6 HR2.out HLV.out HO.out).mono ?_
  rintro e W7 ⟨A2, n2, c2, rfl, hs2, hk6⟩
  have HSL := Lib.hid (HSL.out.grow hk6 hk6.size)
  have hnn : n2 = n := by rw [hs2.2, crns_back, List.length_reverse, List.length_map, HNC.out]
  subst hnn
  have HSL2 := Lib.hid (hs2.sl kC_len)
  clear hs2
  have hB7 := hB6.trans (hk6.mono hB6.size)
  have hX7 := hX6.below hk6 hX6.lt
  have hY7 := hY6.below hk6 hY6.lt
  have hZ7 := hZ6.below hk6 hZ6.lt
  obtain ⟨n, rfl⟩ : ∃ n, n = n2 := ⟨_, rfl⟩
  have X_0 := hX7.cell 0
  have X_1 := hX7.cell 1
  have X_2 := hX7.cell 2
  have Y_0 := hY7.cell 0
  have Y_1 := hY7.cell 1
  have Z_0 := hZ7.cell 0
  have Z_1 := hZ7.cell 1
  have Z_2 := hZ7.cell 2
  simp only [List.getElem?_toArray, List.getElem?_cons_zero, List.getElem?_cons_succ] at X_0 X_1 X_2 Y_0 Y_1 Z_0 Z_1 Z_2
  go_wp2_with fail
  clear X_0 X_1 X_2 Y_0 Y_1 Z_0 Z_1 Z_2
  refine (rLength_any pa pn pc ca cn cc ja jn jc R W7 (hR.out.grow hB7 hB7.size) hv'.out.pk (by omega)).mono ?_
  rintro e W8 ⟨rfl, hk7⟩
  have HSL := Lib.hid (HSL.out.grow hk7 hk7.size)
  have HSL2 := Lib.hid (HSL2.out.grow hk7 hk7.size)
  have hB8 := hB7.trans (hk7.mono hB7.size)
  have hX8 := hX7.below hk7 hX7.lt
  have hY8 := hY7.below hk7 hY7.lt
  have hZ8 := hZ7.below hk7 hZ7.lt
  obtain ⟨Wc, hWc⟩ : ∃ Wc, Wc = W8 := ⟨_, rfl⟩
  rw [← hWc] at hB8 HSL HSL2 ⊢
  have hBc := hB8
  clear hWc
  go_wp2_with fail
  go_loopw [12] (fun i wr => ∃ k : Nat, k ≤ n ∧ i = .int .i64 k ∧ Below Wc.heap.size Wc wr)
    (fun i _ => n - (intOf i).toNat)
  case atStart => exact ⟨0, Nat.zero_le _, rfl, Below.refl _ _⟩
  case round =>
    obtain ⟨k, hk, rfl, hb⟩ := hrel
    have hz := hb.size
    by_cases hlt : k < n
    · have hjl : n - 1 - k < (crns gap least R).length := by have := HNC.out; omega
      have hkl : k < (crns gap least (revR R)).length := by rw [crns_back, List.length_reverse, List.length_map]; have := HNC.out; omega
      obtain ⟨b, off, hA, hbB, d0, d1, d2, d3, d4, d5, d6⟩ := KS.at_ (HSL.out.grow hb hz) (k := n - 1 - k) hjl
      obtain ⟨b', off', hA', hbB', e0, e1, e2, e3, e4, e5, e6⟩ := KS.at_ (HSL2.out.grow hb hz) (k := k) hkl
      have hmir : (crns gap least (revR R))[k]'hkl = mirC (sumL R.ps) ((crns gap least R)[n - 1 - k]'hjl) := by
        have h0 : (crns gap least (revR R))[k]? = some (mirC (sumL R.ps) ((crns gap least R)[n - 1 - k]'hjl)) := by
          rw [crns_back, List.getElem?_reverse (by rw [List.length_map]; have := HNC.out; omega), List.getElem?_map, List.length_map, ← HNC.out, List.getElem?_eq_getElem hjl]
          rfl
        exact Option.some.inj ((List.getElem?_eq_getElem hkl).symm.trans h0)
      rw [hmir] at e0 e1 e2 e3 e4 e5 e6
      have hF := crn_fine hv'.out (List.mem_of_getElem? (List.getElem?_eq_getElem hjl))
      generalize (crns gap least R)[n - 1 - k]'hjl = C at d0 d1 d2 d3 d4 d5 d6 e0 e1 e2 e3 e4 e5 e6 hF
      obtain ⟨F, T, tu, ra, inn, ou, an⟩ := C
      simp only [mirC] at d0 d1 d2 d3 d4 d5 d6 e0 e1 e2 e3 e4 e5 e6 hF
      obtain ⟨f1, f2, f3, f4, f5, f6, f7, f8, f9, f10, f11, f12⟩ := hF
      simp only at f1 f2 f3 f8
      clear f4 f5 f6 f7 f9 f10 f11 f12 hmir hkl hjl
      obtain ⟨N, hN⟩ : ∃ N, N = sumL R.ps := ⟨_, rfl⟩
      rw [← hN] at e0 e1 f3 hn1 ⊢
      clear hN
      have hw1 : IntKind.i64.wrap (N - T) = N - T := IntWalk.i64_in _ (by omega)
      have hw2 : IntKind.i64.wrap (N - F) = N - F := IntWalk.i64_in _ (by omega)
      have hw3 : IntKind.i64.wrap (-tu) = -tu := IntWalk.i64_in _ (by omega)
      have hi1 : (0 : Int) ≤ (k : Int) := by omega
      have hi2 : (k : Int) < (n : Int) := by omega
      have hi3 : (0 : Int) ≤ (n : Int) - 1 - k := by omega
      have hi4 : (n : Int) - 1 - k < (n : Int) := by omega
      have hi5 : ((n : Int) - 1 - k).toNat = n - 1 - k := by omega
      subst hA
      subst hA'
      go_wp2_with fail
      obtain ⟨w1, hw1'⟩ : ∃ w1, w1 = wr.alloc (.cells #[.int .i64 F, .int .i64 T, .int .i64 tu, .int .i64 ra, .int .i64 inn, .int .i64 ou, .int .i64 an] 50) := ⟨_, rfl⟩
      have hb1 : Below wr.heap.size wr w1 := by rw [hw1']; exact (Below.refl _ _).alloc (Nat.le_refl _) _
      have hC1 : BK w1 wr.heap.size 50 #[.int .i64 F, .int .i64 T, .int .i64 tu, .int .i64 ra, .int .i64 inn, .int .i64 ou, .int .i64 an] := by rw [hw1']; exact BK.new wr _ _
      rw [← hw1']
      clear hw1' d0 d1 d2 d3 d4 d5 d6 hi3 hi4 hi5
      replace e0 := (bc hb1 hbB').trans e0
      replace e1 := (bc hb1 hbB').trans e1
      replace e2 := (bc hb1 hbB').trans e2
      replace e3 := (bc hb1 hbB').trans e3
      replace e4 := (bc hb1 hbB').trans e4
      replace e5 := (bc hb1 hbB').trans e5
      replace e6 := (bc hb1 hbB').trans e6
      have c0 := hC1.cell 0
      have c1 := hC1.cell 1
      have c2 := hC1.cell 2
      have c3 := hC1.cell 3
      have c4 := hC1.cell 4
      have c5 := hC1.cell 5
      have c6 := hC1.cell 6
      simp only [List.getElem?_toArray, List.getElem?_cons_zero, List.getElem?_cons_succ] at c0 c1 c2 c3 c4 c5 c6
      go_quiet (fail)
      go_wp2_with fail
      go_roundw
      case rel => exact ⟨k + 1, by omega, by go_num, below_drewN (hb.trans (hb1.mono hz)) _⟩
      case measure => simp [intOf]; omega
    · obtain rfl : k = n := by omega
      go_wp2_with fail
      refine (known_any _).mono ?_
      rintro e v9 ⟨rfl, hk9⟩
      go_wp2_with fail
      go_ret
      have hz9 := hBc.trans (hb.mono hBc.size)
      exact ⟨rfl, hz9.trans (hk9.mono hz9.size)⟩

end Go.Proofs.Ytomloklckpcaiaa
