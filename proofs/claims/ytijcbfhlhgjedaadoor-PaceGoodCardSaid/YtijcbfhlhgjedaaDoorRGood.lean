/- The document's Good: whether a plan is good. -/
import Derived.Test.YtijcbfhlhgjedaaDoorGoodP
import Derived.Test.YtijcbfhlhgjedaaDoorLateP
namespace Go.Proofs.YtijcbfhlhgjedaaDoor
open Go.RowKit Go.Shelf Go.Sort Go.Proofs

set_option maxRecDepth 100000 in
set_option maxHeartbeats 8000000 in
theorem R3Good_any (pa : Option Addr) (pn pc : Nat) (ca : Option Addr) (cn cc : Nat) (ja : Option Addr) (jn jc : Nat) (R : Road) (ra : Option Addr) (rn rc : Nat) (sa : Option Addr) (sn sc : Nat) (S : Spd) (ka : Option Addr) (kn kc : Nat) (cs : List CallR) (la : Option Addr) (ln lc : Nat) (ls : List Int) (w : World)
    (h : RD w w.heap.size pa pn ca cn ja jn R) (hD : SD w w.heap.size ra rn sa sn S) (hK : SL caC 5 w w.heap.size ka kn cs) (hL : SL iC 1 w w.heap.size la ln ls) (hv : OK R) (hS : SOK S) (hc : COK (sumL R.ps) cs) (ht : TOK (sumL R.ps) cs.length ls) :
    Calls Tryd.prog 40 #[.agg #[.slice pa pn pc, .slice ca cn cc, .slice ja jn jc], .agg #[.int .i64 S.least, .int .i64 S.most, .slice ra rn rc, .slice sa sn sc], .slice ka kn kc, .slice la ln lc] w fun e w' => e = .returned (.bool (goodM (qS S R) (sS S R) cs ls)) ∧ Below w.heap.size w w' := by
  have HR := Lib.hid h
  have HD := Lib.hid hD
  have HK := Lib.hid hK
  have HL := Lib.hid hL
  have HV := Lib.hid hv
  have HS := Lib.hid hS
  have HC := Lib.hid hc
  have HT := Lib.hid ht
  have hkn : kn ≤ 300 := by rw [hK.1]; exact hc.l1
  have hln : ln = kn := by rw [hL.1, hK.1, ht.l]
  have HLK := Lib.hid hK.1
  have hmo : Tryd.prog.follows .mixedOrders = true := by kernel_rfl
  subst hln
  clear h hD hK hL hv hS hc ht
  obtain ⟨w0, hw0⟩ : ∃ w0, w0 = (w.alloc (.cells #[.slice pa pn pc, .slice ca cn cc, .slice ja jn jc] 26)).alloc (.cells #[.int .i64 S.least, .int .i64 S.most, .slice ra rn rc, .slice sa sn sc] 30) := ⟨_, rfl⟩
  have hB0 : Below w.heap.size w w0 := by rw [hw0]; exact ((Below.refl w.heap.size w).alloc (Nat.le_refl _) _).alloc (by simp) _
  have hX0 : BK w0 (w.heap.size) 26 #[.slice pa pn pc, .slice ca cn cc, .slice ja jn jc] := by rw [hw0]; exact (BK.new w 26 #[.slice pa pn pc, .slice ca cn cc, .slice ja jn jc]).alloc _
  have hY0 : BK w0 (w.heap.size + 1) 30 #[.int .i64 S.least, .int .i64 S.most, .slice ra rn rc, .slice sa sn sc] := by rw [hw0]; have := BK.new (w.alloc (.cells #[.slice pa pn pc, .slice ca cn cc, .slice ja jn jc] 26)) 30 #[.int .i64 S.least, .int .i64 S.most, .slice ra rn rc, .slice sa sn sc]; rw [World.size_alloc] at this; exact this
  go_enter Tryd.func40, Tryd.ntmps40
  go_wp2_with fail
  rw [← hw0]
  clear hw0
  have hz0 := hB0.size
  have hlX := hX0.lt
  have hlY := hY0.lt
  go_loopw [9] (fun i wr => ∃ j : Nat, j ≤ ln ∧ i = .int .i64 j ∧ Hid (∀ k, k < j → goodAt S R cs ls k = true) ∧ Below w0.heap.size w0 wr)
    (fun i _ => ln - (intOf i).toNat)
  case atStart => exact ⟨0, Nat.zero_le _, rfl, fun k hk => absurd hk (by omega), Below.refl _ _⟩
  case round =>
    obtain ⟨j, hj, rfl, hok, hbr⟩ := hrel
    by_cases hlt : j < ln
    case neg =>
      obtain rfl : ln = j := by omega
      have hfin : Hid (goodM (qS S R) (sS S R) cs ls = true) := goodM_true HS.out HV.out HC.out HT.out (fun k hk => hok.out k (by rw [HLK.out]; exact hk))
      go_wp2_with fail
      go_ret
      exact ⟨ret_bool hfin.out.symm, hB0.trans (hbr.mono hB0.size)⟩
    have hkl : j < cs.length := by rw [← HLK.out]; exact hlt
    have hll : j < ls.length := by rw [HT.out.l]; exact hkl
    obtain ⟨q, z, hq, hqN, hz, hzN⟩ := tok_at HC.out HT.out hkl
    have HGI : Hid (goodAt S R cs ls j = true ↔ okTo S R cs j cs.length q = true ∧ tSl S R.ps z - tSl S R.ps q ≤ (cs[j]'hkl).ahead) := goodAt_iff hkl hq hz
    have HOP : Hid (okTo S R cs j cs.length q = true → q ≤ z) := ok_place hkl hz
    have HQ : Hid (∀ h : j < ls.length, ls[j]'h = (q : Int)) := fun h => by rw [List.getElem?_eq_getElem h] at hq; exact Option.some.inj hq
    have HZ : Hid (∀ h : j < cs.length, (cs[j]'h).place = (z : Int)) := fun _ => hz
    have HQN := Lib.hid hqN
    have HZN := Lib.hid hzN
    have HKL := Lib.hid hkl
    have HLL := Lib.hid hll
    obtain ⟨ah, hah⟩ : ∃ ah, (cs[j]'hkl).ahead = ah := ⟨_, rfl⟩
    have HAH : Hid (∀ h : j < cs.length, (cs[j]'h).ahead = ah) := fun _ => hah
    rw [hah] at HGI
    clear hq hz hqN hzN hkl hll hah
    have hj1 : (0 : Int) ≤ (j : Int) := by omega
    have hj2 : (j : Int) < (ln : Int) := by omega
    go_wp2_with fail
    go_loopw [10] (fun i wx => ∃ k : Nat, j ≤ k ∧ k ≤ ln ∧ i = .int .i64 k ∧ Hid (okTo S R cs j k q = true) ∧ Below w0.heap.size w0 wx)
      (fun i _ => ln - (intOf i).toNat)
    case atStart => exact ⟨j, Nat.le_refl _, hj, rfl, by show _ = _; unfold okTo; rw [Nat.sub_self]; rfl, hbr⟩
    case round =>
      obtain ⟨k, hk1, hk2, rfl, hto, hbx⟩ := hrel
      have hBx := hB0.trans (hbx.mono hz0)
      have hXx := hX0.below hbx hX0.lt
      have hYx := hY0.below hbx hY0.lt
      by_cases hlk : k < ln
      · obtain ⟨b, off, hA, hbB, c0⟩ := IS.at_ (HL.out.grow hBx hBx.size) (k := j) HLL.out
        rw [HQ.out HLL.out] at c0
        subst hA
        have x0 := fun d os => cell_regrown (hXx.cell 0) d os
        have x1 := fun d os => cell_regrown (hXx.cell 1) d os
        have x2 := fun d os => cell_regrown (hXx.cell 2) d os
        have y0 := fun d os => cell_regrown (hYx.cell 0) d os
        have y1 := fun d os => cell_regrown (hYx.cell 1) d os
        have y2 := fun d os => cell_regrown (hYx.cell 2) d os
        have y3 := fun d os => cell_regrown (hYx.cell 3) d os
        have k0 := fun d os => cell_regrown c0 d os
        have hlXx := hXx.lt
        have hlYx := hYx.lt
        go_wp2_with fail
        refine wp_region_qt 9 hmo (by kernel_rfl) ?_
        simp only [List.take_succ_cons, List.take_zero, List.drop_succ_cons, List.drop_zero]
        repeat (quiet_step (fail))
        refine wpQuiet_nil ?_
        intro w2 hb2
        clear x0 x1 x2 y0 y1 y2 y3 k0 c0
        have hby := hbx.trans (hb2.mono hbx.size)
        have hBy := hB0.trans (hby.mono hz0)
        go_wp2_with fail
        refine (R3late_any j k q pa pn pc ca cn cc ja jn jc R ra rn rc sa sn sc S _ ln kc cs _ (HR.out.grow hBy hBy.size) (HD.out.grow hBy hBy.size) (HK.out.grow hBy hBy.size) HV.out HS.out HC.out hk1 hlk HQN.out).mono ?_
        rintro e w3 ⟨rfl, hb3⟩
        have hbz := hby.trans (hb3.mono hby.size)
        cases hla : lateD S R cs j k q
        · have HS2 : Hid (okTo S R cs j (k + 1) q = true) := by show _ = _; rw [okTo_succ S R cs j k q hk1, hto.out, hla]; rfl
          clear hla
          go_wp2_with fail
          go_roundw
          case rel => exact ⟨k + 1, by omega, by omega, by go_num, HS2, hbz⟩
          case measure => simp [intOf]; omega
        · have hfin : Hid (goodM (qS S R) (sS S R) cs ls = false) := by
            refine goodM_false HS.out HV.out HC.out HT.out HKL.out ?_
            rw [Bool.eq_false_iff]
            intro hg
            have := okTo_iff.1 (HGI.out.1 hg).1 k hk1 (by rw [← HLK.out]; exact hlk)
            rw [hla] at this
            cases this
          clear hla
          go_wp2_with fail
          go_ret
          exact ⟨ret_bool hfin.out.symm, hB0.trans (hbz.mono hz0)⟩
      obtain rfl : ln = k := by omega
      have hok2 : okTo S R cs j cs.length q = true := by rw [← HLK.out]; exact hto.out
      have HQZ := Lib.hid (HOP.out hok2)
      have HG2 : Hid (goodAt S R cs ls j = true ↔ tSl S R.ps z - tSl S R.ps q ≤ ah) := HGI.out.trans ⟨fun x => x.2, fun x => ⟨hok2, x⟩⟩
      clear hto hok2 HGI HOP
      obtain ⟨b, off, hA, hbB, c0⟩ := IS.at_ (HL.out.grow hBx hBx.size) (k := j) HLL.out
      rw [HQ.out HLL.out] at c0
      obtain ⟨b2, off2, hA2, hbB2, d0, d1, d2, d3, d4⟩ := KS5.at_ (HK.out.grow hBx hBx.size) (k := j) HKL.out
      rw [HZ.out HKL.out] at d0
      rw [HAH.out HKL.out] at d3
      clear d1 d2 d4
      subst hA
      subst hA2
      have x0 := fun d os => cell_regrown (hXx.cell 0) d os
      have x1 := fun d os => cell_regrown (hXx.cell 1) d os
      have x2 := fun d os => cell_regrown (hXx.cell 2) d os
      have y0 := fun d os => cell_regrown (hYx.cell 0) d os
      have y1 := fun d os => cell_regrown (hYx.cell 1) d os
      have y2 := fun d os => cell_regrown (hYx.cell 2) d os
      have y3 := fun d os => cell_regrown (hYx.cell 3) d os
      have k0 := fun d os => cell_regrown c0 d os
      have k1 := fun d os => cell_regrown d0 d os
      have HG1 := Lib.hid (fun d os => HR.out.grow (hBx.trans ((below_regrown _ d os).mono hBx.size)) (Nat.le_trans hBx.size (below_regrown _ d os).size))
      have HG3 := Lib.hid (fun d os => HD.out.grow (hBx.trans ((below_regrown _ d os).mono hBx.size)) (Nat.le_trans hBx.size (below_regrown _ d os).size))
      have HBt := Lib.hid (fun (W : World) (hR : RD W W.heap.size pa pn ca cn ja jn R) (hS : SD W W.heap.size ra rn sa sn S) => R3Between_any q z pa pn pc ca cn cc ja jn jc R ra rn rc sa sn sc S W hR hS HV.out HS.out HQZ.out HZN.out)
      have hlXx := hXx.lt
      have hlYx := hYx.lt
      go_wp2_with fail
      refine wp_region_ch 16 [11, 15] hmo (by kernel_rfl) ?_
      simp only [List.take_succ_cons, List.take_zero, List.drop_succ_cons, List.drop_zero]
      repeat (with_reducible refine wpC_q (by decide) (by decide) (fun K hK => ?_); go_simp; (try rw [if_neg (by simp [undef])]); refine hK _ ?_; clear hK K)
      with_reducible refine wpC_cg (ι := Unit) 24 #[.agg #[.slice pa pn pc, .slice ca cn cc, .slice ja jn jc], .agg #[.int .i64 S.least, .int .i64 S.most, .slice ra rn rc, .slice sa sn sc], .int .i64 q, .int .i64 z] (fun _ => .tuple #[.int .i64 (tQ S R.ps z - tQ S R.ps q), .int .i64 (tSl S R.ps z - tSl S R.ps q)]) (fun _ _ => True) (by decide) (by decide) (by go_simp) (fun w => by go_simp) stable_true (fun _ => stable_true) (fun W hW _ => ?_) (fun i0 hs0 => ?_)
      · obtain ⟨pp, rfl⟩ := hW
        refine (HBt.out _ (HG1.out _ _) (HG3.out _ _)).mono ?_
        rintro e w' ⟨rfl, hbl⟩
        exact ⟨(), rfl, trivial, hbl⟩
      repeat (with_reducible refine wpC_q (by decide) (by decide) (fun K hK => ?_); go_simp; (try rw [if_neg (by simp [undef])]); refine hK _ ?_; clear hK K)
      with_reducible refine wpC_vg (ι := Unit) (fun _ => .int .i64 (tQ S R.ps z - tQ S R.ps q)) (fun _ _ => True) (by decide) (by decide) (by go_simp) hs0 (fun _ => stable_true) (fun W _ _ => ⟨(), W, by go_simp, trivial, Below.refl _ _⟩) (fun i1 hs1 => ?_)
      repeat (with_reducible refine wpC_q (by decide) (by decide) (fun K hK => ?_); go_simp; (try rw [if_neg (by simp [undef])]); refine hK _ ?_; clear hK K)
      refine wpC_nil ?_
      intro w3 hb3 _
      clear x0 x1 x2 y0 y1 y2 y3 k0 k1 HG1 HG3 HBt d0 c0 hs0 hs1
      have hbz := hbx.trans (hb3.mono hbx.size)
      have hBz := hB0.trans (hbz.mono hz0)
      have e3 := (hb3.cell (p := ⟨b2, off2 + j * 5 + 3, none⟩) (Nat.lt_of_lt_of_le hbB2 (Nat.le_refl _))).trans d3
      generalize tSl S R.ps z - tSl S R.ps q = df at *
      by_cases hgt : ah < df
      · have hfin : Hid (goodM (qS S R) (sS S R) cs ls = false) := by
          refine goodM_false HS.out HV.out HC.out HT.out HKL.out ?_
          rw [Bool.eq_false_iff]
          intro hg
          have := HG2.out.1 hg
          omega
        have g1 : decide (ah < df) = true := decide_eq_true hgt
        clear hgt
        go_wp2_with fail
        go_ret
        exact ⟨ret_bool hfin.out.symm, hBz⟩
      · have hnext : Hid (∀ k, k < j + 1 → goodAt S R cs ls k = true) := fun k hk => by
          rcases Nat.lt_or_ge k j with h | h
          · exact hok.out k h
          · rw [show k = j by omega]
            exact HG2.out.2 (by omega)
        have g1 : decide (ah < df) = false := decide_eq_false hgt
        clear hgt hok
        go_wp2_with fail
        go_roundw
        case rel => exact ⟨j + 1, by omega, by go_num, hnext, hbz⟩
        case measure => simp [intOf]; omega
end Go.Proofs.YtijcbfhlhgjedaaDoor
