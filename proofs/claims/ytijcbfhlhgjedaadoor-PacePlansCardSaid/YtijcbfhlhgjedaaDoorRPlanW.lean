/- The document's plan, walked. -/
import Derived.Test.YtijcbfhlhgjedaaDoorRPlanP
namespace Go.Proofs.YtijcbfhlhgjedaaDoor
open Go.RowKit Go.Shelf Go.Sort Go.Proofs

theorem sumL_nonneg3 {R : Road} (hv : OK R) : ((0 : Nat) : Int) ≤ sumL R.ps := by
  have h1 := sumL_mono hv.pk (i := 0) (j := R.ps.length) (Nat.zero_le _)
  rw [List.take_zero, sumL_nil, List.take_length] at h1
  exact h1
def R3PlanV (S : Spd) (R : Road) (cs : List CallR) (w : World) (e : Ending) (w' : World) : Prop :=
  ∃ A n c, e = .returned (.tuple #[.slice A n c, .agg #[.int .i64 (planR (qS S R) (sS S R) cs).2.1.first, .int .i64 (planR (qS S R) (sS S R) cs).2.1.last, .bool (planR (qS S R) (sS S R) cs).2.1.early], .bool ((planR (qS S R) (sS S R) cs).2.2 == 0)]) ∧
    SL iC 1 w' w'.heap.size A n (planR (qS S R) (sS S R) cs).1 ∧ Below w.heap.size w w'
set_option maxRecDepth 100000 in
set_option maxHeartbeats 8000000 in
theorem R3Plan_any (pa : Option Addr) (pn pc : Nat) (ca : Option Addr) (cn cc : Nat) (ja : Option Addr) (jn jc : Nat) (R : Road) (ra : Option Addr) (rn rc : Nat) (sa : Option Addr) (sn sc : Nat) (S : Spd) (A : Option Addr) (n c : Nat) (cs : List CallR) (w : World)
    (h : RD w w.heap.size pa pn ca cn ja jn R) (hD : SD w w.heap.size ra rn sa sn S) (hK : SL caC 5 w w.heap.size A n cs) (hv : OK R) (hS : SOK S) (hc : COK (sumL R.ps) cs) :
    Calls Tryd.prog 33 #[.agg #[.slice pa pn pc, .slice ca cn cc, .slice ja jn jc], .agg #[.int .i64 S.least, .int .i64 S.most, .slice ra rn rc, .slice sa sn sc], .slice A n c] w (R3PlanV S R cs w) := by
  have HR := Lib.hid h
  have HD := Lib.hid hD
  have HK := Lib.hid hK
  have HV := Lib.hid hv
  have HS := Lib.hid hS
  have HC := Lib.hid hc
  have HNL := Lib.hid hK.1
  have hn : n ≤ 300 := by rw [hK.1]; exact hc.l1
  have hsu : 0 ≤ sumL R.ps := sumL_nonneg3 hv
  have HSU := Lib.hid hsu
  have hmo : Tryd.prog.follows .mixedOrders = true := by kernel_rfl
  clear h hD hK hv hS hc hsu
  obtain ⟨w0, hw0⟩ : ∃ w0, w0 = ((w.alloc (.cells #[.slice pa pn pc, .slice ca cn cc, .slice ja jn jc] 26)).alloc (.cells #[.int .i64 S.least, .int .i64 S.most, .slice ra rn rc, .slice sa sn sc] 30)).alloc (.cells #[.int .i64 0, .int .i64 0, .bool false] 58) := ⟨_, rfl⟩
  have hB0 : Below w.heap.size w w0 := by rw [hw0]; exact (((Below.refl w.heap.size w).alloc (Nat.le_refl _) _).alloc (by simp) _).alloc (by simp; omega) _
  have hX0 : BK w0 w.heap.size 26 #[.slice pa pn pc, .slice ca cn cc, .slice ja jn jc] := by rw [hw0]; exact ((BK.new w _ _).alloc _).alloc _
  have hY0 : BK w0 (w.heap.size + 1) 30 #[.int .i64 S.least, .int .i64 S.most, .slice ra rn rc, .slice sa sn sc] := by
    rw [hw0]; have := BK.new (w.alloc (.cells #[.slice pa pn pc, .slice ca cn cc, .slice ja jn jc] 26)) 30 #[.int .i64 S.least, .int .i64 S.most, .slice ra rn rc, .slice sa sn sc]; rw [World.size_alloc] at this; exact this.alloc _
  have hC0 : BK w0 (w.heap.size + 2) 58 #[.int .i64 0, .int .i64 0, .bool false] := by
    rw [hw0]; have := BK.new ((w.alloc (.cells #[.slice pa pn pc, .slice ca cn cc, .slice ja jn jc] 26)).alloc (.cells #[.int .i64 S.least, .int .i64 S.most, .slice ra rn rc, .slice sa sn sc] 30)) 58 #[.int .i64 0, .int .i64 0, .bool false]; rw [World.size_alloc, World.size_alloc] at this; exact this
  go_enter Tryd.func33, Tryd.ntmps33
  go_wp2_with fail
  rw [← hw0]
  clear hw0
  have hlX := hX0.lt
  have hlY := hY0.lt
  have hlC := hC0.lt
  have hz0 := hB0.size
  go_loopw [9] (fun i wr => ∃ j : Nat, j ≤ n ∧ i = .int .i64 j ∧ Hid (∀ k, k < j → okTo S R cs k n 0 = true) ∧ Below w0.heap.size w0 wr)
    (fun i _ => n - (intOf i).toNat)
  case atStart => exact ⟨0, Nat.zero_le _, rfl, fun k hk => absurd hk (by omega), Below.refl _ _⟩
  case round =>
    obtain ⟨j, hj, rfl, hok, hbr⟩ := hrel
    by_cases hlt : j < n
    · go_wp2_with fail
      go_loopw [10] (fun i wx => ∃ k : Nat, j ≤ k ∧ k ≤ n ∧ i = .int .i64 k ∧ Hid (okTo S R cs j k 0 = true) ∧ Below w0.heap.size w0 wx)
        (fun i _ => n - (intOf i).toNat)
      case atStart => exact ⟨j, Nat.le_refl _, hj, rfl, by show _ = _; unfold okTo; rw [Nat.sub_self]; rfl, hbr⟩
      case round =>
        obtain ⟨k, hk1, hk2, rfl, hto, hbx⟩ := hrel
        have hBx := hB0.trans (hbx.mono hz0)
        have hXx := hX0.below hbx hX0.lt
        have hYx := hY0.below hbx hY0.lt
        by_cases hlk : k < n
        · have x0 := hXx.cell 0
          have x1 := hXx.cell 1
          have x2 := hXx.cell 2
          have y0 := hYx.cell 0
          have y1 := hYx.cell 1
          have y2 := hYx.cell 2
          have y3 := hYx.cell 3
          simp only [List.getElem?_toArray, List.getElem?_cons_zero, List.getElem?_cons_succ] at x0 x1 x2 y0 y1 y2 y3
          go_wp2_with fail
          clear x0 x1 x2 y0 y1 y2 y3
          have hkl : k < cs.length := by rw [← HNL.out]; exact hlk
          have HKL := Lib.hid hkl
          clear hkl
          refine (R3late_any j k 0 pa pn pc ca cn cc ja jn jc R ra rn rc sa sn sc S _ n c cs _ (HR.out.grow hBx hBx.size) (HD.out.grow hBx hBx.size) (HK.out.grow hBx hBx.size) HV.out HS.out HC.out hk1 hlk HSU.out).mono ?_
          rintro e w2 ⟨rfl, hb2⟩
          have hbn := hbx.trans (hb2.mono hbx.size)
          cases hla : lateD S R cs j k 0
          · have HS2 : Hid (okTo S R cs j (k + 1) 0 = true) := by show _ = _; rw [okTo_succ S R cs j k 0 hk1, hto.out, hla]; rfl
            clear hla
            go_wp2_with fail
            go_roundw
            case rel => exact ⟨k + 1, by omega, by omega, by go_num, HS2, hbn⟩
            case measure => simp [intOf]; omega
          · have HPL : Hid (planR (qS S R) (sS S R) cs = ([], ⟨j, k, false⟩, 5)) := planR_late (sS S R) HC.out hk1 HKL.out (fun q hq => by rw [← HNL.out]; exact hok.out q hq) hto.out hla
            clear hla
            have hBn := hB0.trans (hbn.mono hz0)
            have hCn := hC0.below hbn hC0.lt
            have z0 := hCn.cell 0
            have z1 := hCn.cell 1
            have z2 := hCn.cell 2
            simp only [List.getElem?_toArray, List.getElem?_cons_zero, List.getElem?_cons_succ] at z0 z1 z2
            have z3 := hCn.frozen 0
            have z4 := hCn.frozen 1
            have z5 := hCn.frozen 2
            go_wp2_with fail
            clear z0 z1 z2 z3 z4 z5
            have hF := ((hCn.set_ 0 (.int .i64 j)).set_ 1 (.int .i64 k)).set_ 2 (.bool false)
            have hBF := ((hBn.setCell (p := ⟨w.heap.size + 1 + 1, 0, none⟩) (by simp; omega) (.int .i64 j)).setCell (p := ⟨w.heap.size + 1 + 1, 1, none⟩) (by simp; omega) (.int .i64 k)).setCell (p := ⟨w.heap.size + 1 + 1, 2, none⟩) (by simp; omega) (.bool false)
            have f0 := hF.cell 0
            have f1 := hF.cell 1
            have f2 := hF.cell 2
            simp at f0 f1 f2
            refine bodyPost_ret (v := .tuple #[.slice none 0 0, .agg #[.int .i64 j, .int .i64 k, .bool false], .bool false]) (by simp [results, Tryd.results33, go_sem, f0, f1, f2]) rfl ⟨none, 0, 0, by rw [HPL.out]; rfl, by rw [HPL.out]; exact SL.nil_, hBF⟩
        obtain rfl : n = k := by omega
        have hnext : Hid (∀ q, q < j + 1 → okTo S R cs q n 0 = true) := fun q hq => by
          rcases Nat.lt_or_ge q j with h | h
          · exact hok.out q h
          · rw [show q = j by omega]
            exact hto.out
        clear hok hto
        go_wp2_with fail
        go_roundw
        case rel => exact ⟨j + 1, by omega, by go_num, hnext, hbx⟩
        case measure => simp [intOf]; omega
    obtain rfl : n = j := by omega
    have hBr := hB0.trans (hbr.mono hz0)
    have hX1 := hX0.below hbr hX0.lt
    have hY1 := hY0.below hbr hY0.lt
    have hC1 := hC0.below hbr hC0.lt
    have HOK : Hid (∀ k, k < cs.length → okTo S R cs k cs.length 0 = true) := fun q hq => by rw [← HNL.out] at hq ⊢; exact hok.out q hq
    have hz1 := hbr.size
    clear hX0 hY0 hC0 hbr hok hB0
    go_wp2_with fail
    go_loopw [11, 12] (fun o i wx => ∃ (k : Nat) (L : List Int) (A' : Option Addr) (n' c' : Nat), k ≤ n ∧ i = .int .i64 k ∧ o = .slice A' n' c' ∧ Hid (L = (List.range' 0 k).map fun j => (trigAt (qS S R) cs j : Int)) ∧ Hid (∀ q, q < k → earlyAt (qS S R) (sS S R) cs q = false) ∧ n' ≤ k ∧ OW iC 1 3 wr.heap.size wx A' n' c' L ∧ Below wr.heap.size wr wx)
      (fun _ i _ => n - (intOf i).toNat)
    case atStart => exact ⟨0, [], none, 0, 0, Nat.zero_le _, rfl, rfl, rfl, fun q hq => absurd hq (by omega), Nat.le_refl _, OW.nil_, Below.refl _ _⟩
    case round =>
      obtain ⟨k, L, A', n', c', hk, rfl, rfl, hL, hea, hnk, hO, hbx⟩ := hrel
      have hBx := hBr.trans (hbx.mono hBr.size)
      by_cases hlt : k < n
      case neg =>
        obtain rfl : n = k := by omega
        have HPL : Hid (planR (qS S R) (sS S R) cs = (L, ⟨0, 0, false⟩, 0)) := by show _ = _; rw [planR_fine (sS S R) HC.out HOK.out (fun q hq => hea.out q (by rw [HNL.out]; exact hq)), hL.out, HNL.out]
        have hCn := hC1.below hbx hC1.lt
        have z0 := hCn.cell 0
        have z1 := hCn.cell 1
        have z2 := hCn.cell 2
        simp only [List.getElem?_toArray, List.getElem?_cons_zero, List.getElem?_cons_succ] at z0 z1 z2
        have z3 := hCn.frozen 0
        have z4 := hCn.frozen 1
        have z5 := hCn.frozen 2
        have hll := hC1.lt
        go_wp2_with fail
        clear z0 z1 z2 z3 z4 z5
        have hF := ((hCn.set_ 0 (.int .i64 0)).set_ 1 (.int .i64 0)).set_ 2 (.bool false)
        have hBF := ((hBx.setCell (p := ⟨w.heap.size + 1 + 1, 0, none⟩) (by simp; omega) (.int .i64 0)).setCell (p := ⟨w.heap.size + 1 + 1, 1, none⟩) (by simp; omega) (.int .i64 0)).setCell (p := ⟨w.heap.size + 1 + 1, 2, none⟩) (by simp; omega) (.bool false)
        have f0 := hF.cell 0
        have f1 := hF.cell 1
        have f2 := hF.cell 2
        simp at f0 f1 f2
        have hne : ∀ g, A' = some g → g.block ≠ w.heap.size + 1 + 1 := fun g hg => by have := (hO.lt hg).1; omega
        have hOF := ((hO.setCell (p := ⟨w.heap.size + 1 + 1, 0, none⟩) hne (.int .i64 0)).setCell (p := ⟨w.heap.size + 1 + 1, 1, none⟩) hne (.int .i64 0)).setCell (p := ⟨w.heap.size + 1 + 1, 2, none⟩) hne (.bool false)
        refine bodyPost_ret (v := .tuple #[.slice A' n' c', .agg #[.int .i64 0, .int .i64 0, .bool false], .bool true]) (by simp [results, Tryd.results33, go_sem, f0, f1, f2]) rfl ⟨A', n', c', by rw [HPL.out]; rfl, by rw [HPL.out]; exact hOF.sl iC_len, hBF⟩
      have hkl : k < cs.length := by rw [← HNL.out]; exact hlt
      obtain ⟨x, hx⟩ : ∃ x, cs[k]'hkl = x := ⟨_, rfl⟩
      have hin := (HC.out.k k hkl _ (List.getElem?_eq_getElem hkl))
      rw [hx] at hin
      have hp1 := hin.1
      simp only [inR, Bool.and_eq_true, decide_eq_true_eq] at hp1
      obtain ⟨pl, hpl⟩ : ∃ pl : Nat, x.place = (pl : Int) := ⟨x.place.toNat, by omega⟩
      have HGT : Hid (lastG (okTo S R cs k cs.length) pl = (trigAt (qS S R) cs k : Int)) := by
        show _ = _
        rw [greatest_trig HS.out HV.out HC.out hkl (by rw [hx]; exact hpl) (HOK.out k hkl)]
        unfold trigAt
        rw [List.getElem?_eq_getElem hkl]
      have HXP : Hid (cs[k]'hkl = x) := hx
      have hcx : (cs[k]'hkl).place = (pl : Int) := by rw [hx]; exact hpl
      have HCX := Lib.hid hcx
      have HKL := Lib.hid hkl
      have HPL := Lib.hid hpl
      have HP1 := Lib.hid hp1
      clear hx hcx hpl hp1 hin
      have hXx := hX1.below hbx hX1.lt
      have hYx := hY1.below hbx hY1.lt
      have x0 := hXx.cell 0
      have x1 := hXx.cell 1
      have x2 := hXx.cell 2
      have y0 := hYx.cell 0
      have y1 := hYx.cell 1
      have y2 := hYx.cell 2
      have y3 := hYx.cell 3
      simp only [List.getElem?_toArray, List.getElem?_cons_zero, List.getElem?_cons_succ] at x0 x1 x2 y0 y1 y2 y3
      go_wp2_with fail
      clear x0 x1 x2 y0 y1 y2 y3
      refine (R3greatest_any k pl pa pn pc ca cn cc ja jn jc R ra rn rc sa sn sc S _ n c cs _ (HR.out.grow hBx hBx.size) (HD.out.grow hBx hBx.size) (HK.out.grow hBx hBx.size) HV.out HS.out HC.out HKL.out HCX.out).mono ?_
      rintro e w2 ⟨rfl, hb2⟩
      rw [HGT.out]
      have htp : trigAt (qS S R) cs k ≤ pl := by
        unfold trigAt
        rw [List.getElem?_eq_getElem hkl]
        unfold trigM
        dsimp only
        rw [HCX.out, Int.toNat_natCast]
        exact lastN_le _ _
      have HEA : Hid (earlyAt (qS S R) (sS S R) cs k = decide (sS S R (trigAt (qS S R) cs k : Int) + x.ahead < sS S R (pl : Int))) := by
        show _ = _
        unfold earlyAt
        rw [List.getElem?_eq_getElem hkl]
        simp only [HXP.out, HPL.out]
      generalize htr : trigAt (qS S R) cs k = tr at htp HEA HGT
      have HTR := Lib.hid htr
      have HTP := Lib.hid htp
      have HPS : Hid ((pl : Int) ≤ sumL R.ps) := by show _ ≤ _; have h1 := HP1.out.2; rw [HPL.out] at h1; exact h1
      clear htr htp
      have hby := hbx.trans (hb2.mono hbx.size)
      have hBy := hBr.trans (hby.mono hBr.size)
      have hOy := hO.call hb2
      have hXy := hX1.below hby hX1.lt
      have hYy := hY1.below hby hY1.lt
      obtain ⟨b, off, hA, hbB, c0, c1, c2, c3, c4⟩ := KS5.at_ (HK.out.grow hBy hBy.size) (k := k) hkl
      rw [HXP.out] at c0 c1 c2 c3 c4
      rw [HPL.out] at c0
      have hi1 : (0 : Int) ≤ (k : Int) := by omega
      have hi2 : (k : Int) < (n : Int) := by omega
      clear hO hbx hBx hXx hYx c1 c2 c4
      subst hA
      have x0 := fun d os => cell_regrown (hXy.cell 0) d os
      have x1 := fun d os => cell_regrown (hXy.cell 1) d os
      have x2 := fun d os => cell_regrown (hXy.cell 2) d os
      have y0 := fun d os => cell_regrown (hYy.cell 0) d os
      have y1 := fun d os => cell_regrown (hYy.cell 1) d os
      have y2 := fun d os => cell_regrown (hYy.cell 2) d os
      have y3 := fun d os => cell_regrown (hYy.cell 3) d os
      have k0 := fun d os => cell_regrown c0 d os
      have HG1 := Lib.hid (fun d os => HR.out.grow (hBy.trans ((below_regrown w2 d os).mono hBy.size)) (Nat.le_trans hBy.size (below_regrown w2 d os).size))
      have HG2 := Lib.hid (fun d os => HD.out.grow (hBy.trans ((below_regrown w2 d os).mono hBy.size)) (Nat.le_trans hBy.size (below_regrown w2 d os).size))
      have HBt := Lib.hid (fun (W : World) (hR : RD W W.heap.size pa pn ca cn ja jn R) (hS : SD W W.heap.size ra rn sa sn S) => R3Between_any tr pl pa pn pc ca cn cc ja jn jc R ra rn rc sa sn sc S W hR hS HV.out HS.out HTP.out HPS.out)
      have hlXy := hXy.lt
      have hlYy := hYy.lt
      go_wp2_with fail
      refine wp_region_ch 13 [8, 12] hmo (by kernel_rfl) ?_
      simp only [List.take_succ_cons, List.take_zero, List.drop_succ_cons, List.drop_zero]
      repeat (with_reducible refine wpC_q (by decide) (by decide) (fun K hK => ?_); go_simp; refine hK _ ?_; clear hK K)
      with_reducible refine wpC_c (ι := Unit) 24 #[.agg #[.slice pa pn pc, .slice ca cn cc, .slice ja jn jc], .agg #[.int .i64 S.least, .int .i64 S.most, .slice ra rn rc, .slice sa sn sc], .int .i64 tr, .int .i64 pl] (fun _ => .tuple #[.int .i64 (tQ S R.ps pl - tQ S R.ps tr), .int .i64 (tSl S R.ps pl - tSl S R.ps tr)]) (fun _ _ => True) (by decide) (by decide) rfl (fun w => by go_simp) stable_true (fun _ => stable_true) (fun W hW _ => ?_) (fun i0 hs0 => ?_)
      · obtain ⟨pp, rfl⟩ := hW
        refine (HBt.out _ (HG1.out _ _) (HG2.out _ _)).mono ?_
        rintro e w' ⟨rfl, hbl⟩
        exact ⟨(), rfl, trivial, hbl⟩
      repeat (with_reducible refine wpC_q (by decide) (by decide) (fun K hK => ?_); go_simp; refine hK _ ?_; clear hK K)
      refine wpC_v (ι := Unit) (fun _ => .int .i64 (tQ S R.ps pl - tQ S R.ps tr)) (fun _ _ => True) (by decide) (by decide) rfl hs0 (fun _ => stable_true) (fun W _ _ => ⟨(), W, by go_simp, trivial, Below.refl _ _⟩) (fun i1 hs1 => ?_)
      refine wpC_nil ?_
      intro w3 hb3 _
      clear x0 x1 x2 y0 y1 y2 y3 k0 HG1 HG2 HBt hs0 hs1
      have hbz := hby.trans (hb3.mono hby.size)
      have hBz := hBr.trans (hbz.mono hBr.size)
      have hOz := hOy.call hb3
      obtain ⟨b', off', hA', _, e0, e1, e2, e3, e4⟩ := KS5.at_ (HK.out.grow hBz hBz.size) (k := k) hkl
      cases hA'
      rw [HXP.out] at e3
      clear e0 e1 e2 e4 hOy hby hBy
      by_cases hgt : x.ahead < tSl S R.ps pl - tSl S R.ps tr
      · have g1 : decide (x.ahead < tSl S R.ps pl - tSl S R.ps tr) = true := decide_eq_true hgt
        have HPL2 : Hid (planR (qS S R) (sS S R) cs = ([], ⟨k, k, true⟩, 5)) := planR_early (sS S R) HC.out HOK.out hkl (fun q hq => hea.out q hq) (by rw [HEA.out, decide_eq_true_eq]; unfold sS; rw [Int.toNat_natCast, Int.toNat_natCast]; omega)
        have hCn := hC1.below hbz hC1.lt
        have z0 := hCn.cell 0
        have z1 := hCn.cell 1
        have z2 := hCn.cell 2
        simp only [List.getElem?_toArray, List.getElem?_cons_zero, List.getElem?_cons_succ] at z0 z1 z2
        have z3 := hCn.frozen 0
        have z4 := hCn.frozen 1
        have z5 := hCn.frozen 2
        have hll := hC1.lt
        clear hgt
        go_wp2_with fail
        clear z0 z1 z2 z3 z4 z5
        have hF := ((hCn.set_ 0 (.int .i64 k)).set_ 1 (.int .i64 k)).set_ 2 (.bool true)
        have hBF := ((hBz.setCell (p := ⟨w.heap.size + 1 + 1, 0, none⟩) (by simp; omega) (.int .i64 k)).setCell (p := ⟨w.heap.size + 1 + 1, 1, none⟩) (by simp; omega) (.int .i64 k)).setCell (p := ⟨w.heap.size + 1 + 1, 2, none⟩) (by simp; omega) (.bool true)
        have f0 := hF.cell 0
        have f1 := hF.cell 1
        have f2 := hF.cell 2
        simp at f0 f1 f2
        refine bodyPost_ret (v := .tuple #[.slice none 0 0, .agg #[.int .i64 k, .int .i64 k, .bool true], .bool false]) (by simp [results, Tryd.results33, go_sem, f0, f1, f2]) rfl ⟨none, 0, 0, by rw [HPL2.out]; rfl, by rw [HPL2.out]; exact SL.nil_, hBF⟩
      · have g1 : decide (x.ahead < tSl S R.ps pl - tSl S R.ps tr) = false := decide_eq_false hgt
        have HNE : Hid (∀ q, q < k + 1 → earlyAt (qS S R) (sS S R) cs q = false) := fun q hq => by
          rcases Nat.lt_or_ge q k with h | h
          · exact hea.out q h
          · rw [show q = k by omega, HEA.out, decide_eq_false_iff_not]
            unfold sS
            rw [Int.toNat_natCast, Int.toNat_natCast]
            omega
        have HNL2 : Hid (L ++ [(tr : Int)] = (List.range' 0 (k + 1)).map fun j => (trigAt (qS S R) cs j : Int)) := by
          show _ = _
          rw [List.range'_concat, List.map_append, ← hL.out]
          simp only [List.map_cons, List.map_nil, Nat.zero_add, Nat.one_mul, HTR.out]
        have hNew : BK (w3.alloc (.cells #[.int .i64 (tr : Int)] 3)) w3.heap.size 3 #[.int .i64 (tr : Int)] := BK.new w3 _ _
        have hzz := hbz.size
        clear hgt hea hL
        go_wp2_with (at_builtin; refine wpList_app rfl _ _ 28 rfl _ 3 _ 1 8 Tryd.underlying28 infoI rfl (by decide) iC A' n' c' L rfl (hOz.alloc _) (tr : Int) #[.int .i64 (tr : Int)] rfl rfl 3 w3.heap.size rfl hNew (by simp [iC, Value.oneCell']) (by omega) (by omega) (by simp; omega) ?_; intro g' c' w8 hap; have HAP := Lib.hid hap; clear hap)
        have hap := HAP.out
        have hbN := (hbz.alloc (by omega) _).trans hap.bel
        go_roundw
        case rel => exact ⟨k + 1, L ++ [(tr : Int)], some ⟨g', 0, none⟩, n' + 1, c', by omega, by go_num, rfl, HNL2, HNE, by omega, hap.own, hbN⟩
        case measure => simp [intOf]; omega
end Go.Proofs.YtijcbfhlhgjedaaDoor
