/- hairpinref01.Compare: where two surveys differ, place by place. -/
import Derived.Test.YtomloklckpcaiaaStr
import Derived.Test.YtomloklckpcaiaaKnown
import Derived.Test.YtomloklckpcaiaaRevR
namespace Go.Proofs.Ytomloklckpcaiaa
open Go.RowKit Go.Shelf Go.Sort Go.Proofs

theorem infoD : (Try.prog.info? 72).map (fun i => (i.zero, i.size, i.bytes)) = some (some (.agg #[.int .i64 0, .int .i64 0]), 2, 16) := by kernel_rfl

theorem pOk_rad {p : Piece} (h : pOk p = true) : 0 ≤ p.rad ∧ p.rad ≤ 2000 := by
  simp only [pOk, inR, Bool.and_eq_true, decide_eq_true_eq] at h
  obtain ⟨_, _, _, _, h3⟩ := h
  by_cases ht : p.turn = 0
  · rw [if_pos ht] at h3; simp at h3; omega
  · rw [if_neg ht] at h3; simp at h3; omega

set_option maxRecDepth 100000 in
set_option maxHeartbeats 4000000 in
theorem rCompare_in (tol : Int) (pa : Option Addr) (pn pc : Nat) (ca : Option Addr) (cn cc : Nat) (ja : Option Addr) (jn jc : Nat) (R : Road) (pa2 : Option Addr) (pn2 pc2 : Nat) (ca2 : Option Addr) (cn2 cc2 : Nat) (ja2 : Option Addr) (jn2 jc2 : Nat) (R2 : Road) (w : World)
    (h : RD w w.heap.size pa pn ca cn ja jn R) (h2 : RD w w.heap.size pa2 pn2 ca2 cn2 ja2 jn2 R2) (hv : OK R) (hv2 : OK R2) (hs : sumL R2.ps = sumL R.ps) :
    Calls Try.prog 39 #[.agg #[.slice pa pn pc, .slice ca cn cc, .slice ja jn jc], .agg #[.slice pa2 pn2 pc2, .slice ca2 cn2 cc2, .slice ja2 jn2 jc2], .int .i64 tol] w fun e w' =>
      ∃ A n c, e = .returned (.slice A n c) ∧ OW dC 2 72 w.heap.size w' A n c (cmpK tol (units R.ps) (units R2.ps) (sumL R.ps).toNat) ∧ Below w.heap.size w w' := by
  have hR := Lib.hid h
  have hR2 := Lib.hid h2
  have hv' := Lib.hid hv
  have hv2' := Lib.hid hv2
  have hmo : Try.prog.follows .mixedOrders = true := by kernel_rfl
  have hpn : pn ≤ 2000 := by rw [h.p.1]; exact hv.p2
  have hpn2 : pn2 ≤ 2000 := by rw [h2.p.1]; exact hv2.p2
  have hln := hv.len
  have HS := Lib.hid hs
  clear h h2 hv hv2 hs
  obtain ⟨W0, hW0⟩ : ∃ W0, W0 = (w.alloc (.cells #[.slice pa pn pc, .slice ca cn cc, .slice ja jn jc] 26)).alloc (.cells #[.slice pa2 pn2 pc2, .slice ca2 cn2 cc2, .slice ja2 jn2 jc2] 26) := ⟨_, rfl⟩
  have hB0 : Below w.heap.size w W0 := by rw [hW0]; exact ((Below.refl w.heap.size w).alloc (Nat.le_refl _) _).alloc (by simp) _
  have hX0 : BK W0 w.heap.size 26 #[.slice pa pn pc, .slice ca cn cc, .slice ja jn jc] := by rw [hW0]; exact (BK.new w _ _).alloc _
  have hY0 : BK W0 (w.heap.size + 1) 26 #[.slice pa2 pn2 pc2, .slice ca2 cn2 cc2, .slice ja2 jn2 jc2] := by rw [hW0]; have := BK.new (w.alloc (.cells #[.slice pa pn pc, .slice ca cn cc, .slice ja jn jc] 26)) 26 #[.slice pa2 pn2 pc2, .slice ca2 cn2 cc2, .slice ja2 jn2 jc2]; rw [World.size_alloc] at this; exact this
  go_enter Try.func39, Try.ntmps39
  go_wp2_with fail
  rw [← hW0]
  clear hW0
  obtain ⟨N, hN⟩ : ∃ N, N = sumL R.ps := ⟨_, rfl⟩
  have HN := Lib.hid hN
  rw [← hN] at hln
  go_loopw [7, 8] (fun o i wr => ∃ (k : Nat) (A : Option Addr) (n c : Nat), (k : Int) ≤ N ∧ i = .int .i64 k ∧ o = .slice A n c ∧ OW dC 2 72 W0.heap.size wr A n c (cmpK tol (units R.ps) (units R2.ps) k) ∧ Below W0.heap.size W0 wr)
    (fun _ i _ => N.toNat - (intOf i).toNat)
  case atStart => exact ⟨0, none, 0, 0, by omega, rfl, rfl, OW.nil_, Below.refl _ _⟩
  case round =>
    obtain ⟨k, A, n, c, hk, rfl, rfl, hO, hbr⟩ := hrel
    have hz0 := hB0.size
    have hBr := hB0.trans (hbr.mono hz0)
    have hXr := hX0.below hbr hX0.lt
    have x0 := hXr.cell 0
    have x1 := hXr.cell 1
    have x2 := hXr.cell 2
    simp only [List.getElem?_toArray, List.getElem?_cons_zero, List.getElem?_cons_succ] at x0 x1 x2
    go_wp2_with fail
    refine (rLength_any pa pn pc ca cn cc ja jn jc R _ (hR.out.grow hBr hBr.size) hv'.out.pk (by omega)).mono ?_
    rintro e We ⟨rfl, hbe⟩
    rw [← HN.out]
    clear x0 x1 x2
    have hb0e := hbr.trans (hbe.mono hbr.size)
    have hBe := hBr.trans (hbe.mono hBr.size)
    have hXe := hX0.below hb0e hX0.lt
    have hYe := hY0.below hb0e hY0.lt
    have hOe := hO.call hbe
    have hnk : n ≤ k := by have := hO.len; have := cmpK_len tol (units R.ps) (units R2.ps) k; omega
    by_cases hlt : (k : Int) < N
    · have hk0 : (0 : Int) ≤ (k : Int) := by omega
      obtain ⟨j, hj⟩ := At.exists_ hv'.out.pk hk0 (hN ▸ hlt)
      obtain ⟨j2, hj2⟩ := At.exists_ hv2'.out.pk hk0 (show (k : Int) < sumL R2.ps by rw [HS.out, ← hN]; exact hlt)
      obtain ⟨p, hp⟩ : ∃ p, R.ps[j]? = some p := ⟨_, List.getElem?_eq_getElem hj.1⟩
      obtain ⟨q, hq⟩ : ∃ q, R2.ps[j2]? = some q := ⟨_, List.getElem?_eq_getElem hj2.1⟩
      have hu := at_units (fun q hq => by have := pOk_len (hv'.out.pk q hq); omega) hk0 hj hp
      have hu2 := at_units (fun q hq => by have := pOk_len (hv2'.out.pk q hq); omega) hk0 hj2 hq
      rw [Int.toNat_natCast] at hu hu2
      have HSU := Lib.hid (cmpK_succ tol (units R.ps) (units R2.ps) k hu hu2)
      have hnr : near tol (one p) (one q) = near tol p q := rfl
      rw [hnr] at HSU
      have hpt := pOk_tOk (hv'.out.pk p (List.mem_of_getElem? hp))
      have hqt := pOk_tOk (hv2'.out.pk q (List.mem_of_getElem? hq))
      have HJ := Lib.hid (And.intro hj hp)
      have HJ2 := Lib.hid (And.intro hj2 hq)
      clear hj hj2 hp hq hu hu2 hnr
      have x0 := fun d os => cell_regrown (hXe.cell 0) d os
      have x1 := fun d os => cell_regrown (hXe.cell 1) d os
      have x2 := fun d os => cell_regrown (hXe.cell 2) d os
      have z0 := fun d os => cell_regrown (hYe.cell 0) d os
      have z1 := fun d os => cell_regrown (hYe.cell 1) d os
      have z2 := fun d os => cell_regrown (hYe.cell 2) d os
      go_wp2_with fail
      refine wp_region_chaa 8 6 7 [2, 5] 52 52 #[.int .i64 0, .int .i64 0, .int .i64 0, .int .i64 0, .int .i64 0] #[.int .i64 0, .int .i64 0, .int .i64 0, .int .i64 0, .int .i64 0] 9 10 _ _ hmo (by decide) (by decide) (by decide) (by decide) rfl rfl rfl (fun a w => rfl) rfl rfl rfl (fun a w => rfl) (by kernel_rfl) ?_
      simp only [List.take_succ_cons, List.take_zero, List.drop_succ_cons, List.drop_zero]
      repeat (refine wpC_q (by decide) (by decide) (fun K hK => ?_); go_simp; refine hK _ ?_; clear hK K)
      refine wpC_c (ι := Unit) 30 #[.agg #[.slice pa pn pc, .slice ca cn cc, .slice ja jn jc], .int .i64 k] (fun _ => .agg #[.int .i64 p.len, .int .i64 p.turn, .int .i64 p.rad, .int .i64 p.wid, .int .i64 p.sur]) (fun _ _ => True) (by decide) (by decide) rfl (fun w => by go_simp) stable_true (fun _ => stable_true) (fun W hW hΦ => ?_) (fun i1 hs1 => ?_)
      · obtain ⟨pp, rfl⟩ := hW
        have hb := below_regrown We pp.d pp.os
        have hb' := hBe.trans (hb.mono hBe.size)
        refine (rAt_in k j pa pn pc ca cn cc ja jn jc R _ (hR.out.grow hb' hb'.size) hv'.out.pk (by omega) HJ.out.1 _ HJ.out.2).mono ?_
        rintro e w' ⟨rfl, hbl⟩
        exact ⟨(), rfl, trivial, hbl⟩
      repeat (refine wpC_q (by decide) (by decide) (fun K hK => ?_); go_simp; refine hK _ ?_; clear hK K)
      refine wpC_c (ι := Unit) 30 #[.agg #[.slice pa2 pn2 pc2, .slice ca2 cn2 cc2, .slice ja2 jn2 jc2], .int .i64 k] (fun _ => .agg #[.int .i64 q.len, .int .i64 q.turn, .int .i64 q.rad, .int .i64 q.wid, .int .i64 q.sur]) (fun _ _ => True) (by decide) (by decide) rfl (fun w => by go_simp) hs1 (fun _ => stable_true) (fun W hW hΦ => ?_) (fun i2 hs2 => ?_)
      · obtain ⟨pp, rfl⟩ := hW
        have hb := below_regrown We pp.d pp.os
        have hb' := hBe.trans (hb.mono hBe.size)
        refine (rAt_in k j2 pa2 pn2 pc2 ca2 cn2 cc2 ja2 jn2 jc2 R2 _ (hR2.out.grow hb' hb'.size) hv2'.out.pk (by omega) HJ2.out.1 _ HJ2.out.2).mono ?_
        rintro e w' ⟨rfl, hbl⟩
        exact ⟨(), rfl, trivial, hbl⟩
      repeat (refine wpC_q (by decide) (by decide) (fun K hK => ?_); go_simp; refine hK _ ?_; clear hK K)
      refine wpC_a (by decide) ?_
      refine wpC_a (by decide) ?_
      refine wpC_nil ?_
      intro b1 b2 Wf hbf _ hg1 hg2 hne K1 K2
      clear x0 x1 x2 z0 z1 z2 hs1 hs2
      have h0f := hb0e.trans (hbf.mono hb0e.size)
      have hOf := hOe.call hbf
      have hz1 := hb0e.size
      have hzb1 : W0.heap.size ≤ b1 := by omega
      have hzb2 : W0.heap.size ≤ b2 := by omega
      have hne' : ¬ b1 = b2 := hne
      have hne2 : ¬ b2 = b1 := fun e => hne e.symm
      have hA1 : ∀ a, A = some a → a.block ≠ b1 := fun a ha => by have := (hOe.lt ha).2; omega
      have hA2 : ∀ a, A = some a → a.block ≠ b2 := fun a ha => by have := (hOe.lt ha).2; omega
      have f1 := K1.frozen
      have f2 := K2.frozen
      have l1 := K1.lt
      have l2 := K2.lt
      have s0 := K1.cell 0
      have s1 := K1.cell 1
      have s2 := K1.cell 2
      have s3 := K1.cell 3
      have s4 := K1.cell 4
      have r0 := K2.cell 0
      have r1 := K2.cell 1
      have r2 := K2.cell 2
      have r3 := K2.cell 3
      have r4 := K2.cell 4
      simp only [List.getElem?_toArray, List.getElem?_cons_zero, List.getElem?_cons_succ] at s0 s1 s2 s3 s4 r0 r1 r2 r3 r4
      go_upto_region 6 with fail
      obtain ⟨Wg, hWg⟩ : ∃ Wg, Wg = (((((((((Wf.setCell ⟨b1, 0, none⟩ (.int .i64 p.len)).setCell ⟨b1, 1, none⟩ (.int .i64 p.turn)).setCell ⟨b1, 2, none⟩ (.int .i64 p.rad)).setCell ⟨b1, 3, none⟩ (.int .i64 p.wid)).setCell ⟨b1, 4, none⟩ (.int .i64 p.sur)).setCell ⟨b2, 0, none⟩ (.int .i64 q.len)).setCell ⟨b2, 1, none⟩ (.int .i64 q.turn)).setCell ⟨b2, 2, none⟩ (.int .i64 q.rad)).setCell ⟨b2, 3, none⟩ (.int .i64 q.wid)).setCell ⟨b2, 4, none⟩ (.int .i64 q.sur) := ⟨_, rfl⟩
      have G1 : BK Wg b1 52 #[.int .i64 p.len, .int .i64 p.turn, .int .i64 p.rad, .int .i64 p.wid, .int .i64 p.sur] := by
        rw [hWg]
        exact (((((((((K1.set_ 0 _).set_ 1 _).set_ 2 _).set_ 3 _).set_ 4 _).far (p := ⟨b2, 0, none⟩) hne _).far (p := ⟨b2, 1, none⟩) hne _).far (p := ⟨b2, 2, none⟩) hne _).far (p := ⟨b2, 3, none⟩) hne _).far (p := ⟨b2, 4, none⟩) hne _
      have G2 : BK Wg b2 52 #[.int .i64 q.len, .int .i64 q.turn, .int .i64 q.rad, .int .i64 q.wid, .int .i64 q.sur] := by
        rw [hWg]
        exact (((((((((K2.far (p := ⟨b1, 0, none⟩) hne.symm _).far (p := ⟨b1, 1, none⟩) hne.symm _).far (p := ⟨b1, 2, none⟩) hne.symm _).far (p := ⟨b1, 3, none⟩) hne.symm _).far (p := ⟨b1, 4, none⟩) hne.symm _).set_ 0 _).set_ 1 _).set_ 2 _).set_ 3 _).set_ 4 _
      have h0g : Below W0.heap.size W0 Wg := by
        rw [hWg]
        exact (((((((((h0f.setCell hzb1 _).setCell hzb1 _).setCell hzb1 _).setCell hzb1 _).setCell hzb1 _).setCell hzb2 _).setCell hzb2 _).setCell hzb2 _).setCell hzb2 _).setCell hzb2 _
      have hOg : OW dC 2 72 W0.heap.size Wg A n c (cmpK tol (units R.ps) (units R2.ps) k) := by
        rw [hWg]
        exact (((((((((hOf.setCell hA1 _).setCell hA1 _).setCell hA1 _).setCell hA1 _).setCell hA1 _).setCell hA2 _).setCell hA2 _).setCell hA2 _).setCell hA2 _).setCell hA2 _
      rw [← hWg]
      clear hWg s0 s1 s2 s3 s4 r0 r1 r2 r3 r4 f1 f2 l1 l2 h0f hOf hOe hO K1 K2
      have s0 := G1.cell 0
      have s1 := G1.cell 1
      have s2 := G1.cell 2
      have s3 := G1.cell 3
      have s4 := G1.cell 4
      have r0 := G2.cell 0
      have r1 := G2.cell 1
      have r2 := G2.cell 2
      have r3 := G2.cell 3
      have r4 := G2.cell 4
      simp only [List.getElem?_toArray, List.getElem?_cons_zero, List.getElem?_cons_succ] at s0 s1 s2 s3 s4 r0 r1 r2 r3 r4
      -- leaves (gencmp.py)
      have hr1 := pOk_rad (hv'.out.pk p (List.mem_of_getElem? HJ.out.2))
      have hr2 := pOk_rad (hv2'.out.pk q (List.mem_of_getElem? HJ2.out.2))
      obtain ⟨D, hD⟩ : ∃ D, D = p.rad - q.rad := ⟨_, rfl⟩
      have hwd : IntKind.i64.wrap (p.rad - q.rad) = D := by rw [hD]; exact IntWalk.i64_in _ (by omega)
      have hwm : IntKind.i64.wrap (-D) = -D := IntWalk.i64_in _ (by omega)
      have hwn : IntKind.i64.wrap ((n : Int) - 1) = (n : Int) - 1 := IntWalk.i64_in _ (by omega)
      have hwk : IntKind.i64.wrap ((k : Int) + 1) = (k : Int) + 1 := IntWalk.i64_in _ (by omega)
      have hnear : Hid (near tol p q = (decide (p.turn = q.turn) && (decide (D ≤ tol) && (decide (-D ≤ tol) && (decide (p.wid = q.wid) && decide (p.sur = q.sur)))))) := by rw [near, hD]; exact rfl
      clear hD
      have hzg := h0g.size
      by_cases c1 : p.turn = q.turn
      case neg =>
        have e1 : (p.turn == q.turn) = false := by simpa using c1
        have hnf : near tol p q = false := by rw [hnear.out]; simp [c1]
        have hcmp : Hid (cmpK tol (units R.ps) (units R2.ps) (k + 1) = addD (cmpK tol (units R.ps) (units R2.ps) k) k (k + 1)) := by rw [HSU.out, hnf]; exact rfl
        clear hnf c1
        rcases nil_or_snoc (cmpK tol (units R.ps) (units R2.ps) k) with hL | ⟨ds, d0, hL⟩
        · have hn0 : n = 0 := by have := hOg.len; rw [hL] at this; simpa using this
          subst hn0
          have hnew : Hid (cmpK tol (units R.ps) (units R2.ps) (k + 1) = cmpK tol (units R.ps) (units R2.ps) k ++ [⟨k, k + 1⟩]) := by rw [hcmp.out, hL]; exact rfl
          clear hL
          have hN1 := BK.new Wg 72 #[.int .i64 k, .int .i64 (k + 1)]
          go_wp2_with (at_builtin; refine wpList_app rfl _ _ 67 rfl W0.heap.size 72 _ 2 16 Try.underlying67 infoD rfl (by decide) dC A 0 c _ rfl (hOg.alloc _) ⟨k, k + 1⟩ #[.int .i64 k, .int .i64 (k + 1)] rfl rfl 72 Wg.heap.size rfl hN1 (by simp [dC, Value.oneCell']) (by omega) (by omega) (by simp; omega) ?_; intro g'' c'' w10 hap; have HAP := Lib.hid hap; clear hap)
          go_roundw
          case rel =>
            have hap := HAP.out
            exact ⟨k + 1, _, _, _, by omega, by go_num, rfl, by rw [hnew.out]; exact hap.own, (h0g.alloc (by omega) _).trans hap.bel⟩
          case measure => simp [intOf]; omega
        · have hnD : n = ds.length + 1 := by have := hOg.len; rw [hL] at this; simpa using this
          obtain ⟨a0, hA0⟩ : ∃ a0, A = some a0 := by
            cases A with
            | none => have := hOg.none_.1; omega
            | some a0 => exact ⟨a0, rfl⟩
          obtain ⟨bo, rfl, hbo, hbbo, hfz, hrow⟩ := hOg.at_ dC_len a0 hA0
          have hat : (cmpK tol (units R.ps) (units R2.ps) k)[n - 1]? = some d0 := by rw [hL, hnD]; simp
          have dt : Wg.cell? ⟨bo, (n - 1) * 2 + 1, none⟩ = some (.int .i64 d0.til) := by have := hrow _ d0 hat 1 _ rfl; rw [show 0 + (n - 1) * 2 + 1 = (n - 1) * 2 + 1 by omega] at this; exact this
          have df := hfz ((n - 1) * 2 + 1)
          have hi3 : ((n : Int) - 1).toNat = n - 1 := by omega
          have hi4 : (0 : Int) ≤ (n : Int) - 1 := by omega
          have hi5 : (n : Int) - 1 < (n : Int) := by omega
          have hi6 : (1 : Int) ≤ (n : Int) := by omega
          have HADD := Lib.hid (addD_at ds d0 k (k + 1))
          have HL := Lib.hid hL
          have HND := Lib.hid hnD
          have HAT := Lib.hid hat
          subst hA0
          clear hfz hrow hL hnD hat
          by_cases het : d0.til = k
          · have hnew : Hid (cmpK tol (units R.ps) (units R2.ps) (k + 1) = (cmpK tol (units R.ps) (units R2.ps) k).set (n - 1) ⟨d0.fr, k + 1⟩) := by
              rw [hcmp.out, HL.out, HADD.out, if_pos het, HND.out]
              simp [Hid]
            have et : (d0.til == (k : Int)) = true := by simpa using het
            clear het
            have HOg := Lib.hid hOg
            clear hOg
            go_wp2_with fail
            go_roundw
            case rel =>
              have h1 := HOg.out.setF dC_len (n - 1) 1 (x := d0) (y := ⟨d0.fr, k + 1⟩) (v := .int .i64 (k + 1)) HAT.out (by omega) rfl
              exact ⟨k + 1, _, _, _, by omega, by go_num, rfl, by rw [hnew.out]; exact h1, h0g.setCell hbbo _⟩
            case measure => simp [intOf]; omega
          · have hnew : Hid (cmpK tol (units R.ps) (units R2.ps) (k + 1) = cmpK tol (units R.ps) (units R2.ps) k ++ [⟨k, k + 1⟩]) := by
              rw [hcmp.out, HL.out, HADD.out, if_neg het]; exact rfl
            have et : (d0.til == (k : Int)) = false := by simpa using het
            clear het df
            have hN1 := BK.new Wg 72 #[.int .i64 k, .int .i64 (k + 1)]
            go_wp2_with (at_builtin; refine wpList_app rfl _ _ 67 rfl W0.heap.size 72 _ 2 16 Try.underlying67 infoD rfl (by decide) dC _ _ c _ rfl (hOg.alloc _) ⟨k, k + 1⟩ #[.int .i64 k, .int .i64 (k + 1)] rfl rfl 72 Wg.heap.size rfl hN1 (by simp [dC, Value.oneCell']) (by omega) (by omega) (by simp; omega) ?_; intro g'' c'' w10 hap; have HAP := Lib.hid hap; clear hap)
            go_roundw
            case rel =>
              have hap := HAP.out
              exact ⟨k + 1, _, _, _, by omega, by go_num, rfl, by rw [hnew.out]; exact hap.own, (h0g.alloc (by omega) _).trans hap.bel⟩
            case measure => simp [intOf]; omega
      have e1 : (p.turn == q.turn) = true := by simpa using c1
      by_cases c2 : D ≤ tol
      case neg =>
        have e2 : decide (D ≤ tol) = false := by simpa using c2
        have hnf : near tol p q = false := by rw [hnear.out]; simp [c2]
        have hcmp : Hid (cmpK tol (units R.ps) (units R2.ps) (k + 1) = addD (cmpK tol (units R.ps) (units R2.ps) k) k (k + 1)) := by rw [HSU.out, hnf]; exact rfl
        clear hnf c2
        rcases nil_or_snoc (cmpK tol (units R.ps) (units R2.ps) k) with hL | ⟨ds, d0, hL⟩
        · have hn0 : n = 0 := by have := hOg.len; rw [hL] at this; simpa using this
          subst hn0
          have hnew : Hid (cmpK tol (units R.ps) (units R2.ps) (k + 1) = cmpK tol (units R.ps) (units R2.ps) k ++ [⟨k, k + 1⟩]) := by rw [hcmp.out, hL]; exact rfl
          clear hL
          have hN1 := BK.new Wg 72 #[.int .i64 k, .int .i64 (k + 1)]
          go_wp2_with (at_builtin; refine wpList_app rfl _ _ 67 rfl W0.heap.size 72 _ 2 16 Try.underlying67 infoD rfl (by decide) dC A 0 c _ rfl (hOg.alloc _) ⟨k, k + 1⟩ #[.int .i64 k, .int .i64 (k + 1)] rfl rfl 72 Wg.heap.size rfl hN1 (by simp [dC, Value.oneCell']) (by omega) (by omega) (by simp; omega) ?_; intro g'' c'' w10 hap; have HAP := Lib.hid hap; clear hap)
          go_roundw
          case rel =>
            have hap := HAP.out
            exact ⟨k + 1, _, _, _, by omega, by go_num, rfl, by rw [hnew.out]; exact hap.own, (h0g.alloc (by omega) _).trans hap.bel⟩
          case measure => simp [intOf]; omega
        · have hnD : n = ds.length + 1 := by have := hOg.len; rw [hL] at this; simpa using this
          obtain ⟨a0, hA0⟩ : ∃ a0, A = some a0 := by
            cases A with
            | none => have := hOg.none_.1; omega
            | some a0 => exact ⟨a0, rfl⟩
          obtain ⟨bo, rfl, hbo, hbbo, hfz, hrow⟩ := hOg.at_ dC_len a0 hA0
          have hat : (cmpK tol (units R.ps) (units R2.ps) k)[n - 1]? = some d0 := by rw [hL, hnD]; simp
          have dt : Wg.cell? ⟨bo, (n - 1) * 2 + 1, none⟩ = some (.int .i64 d0.til) := by have := hrow _ d0 hat 1 _ rfl; rw [show 0 + (n - 1) * 2 + 1 = (n - 1) * 2 + 1 by omega] at this; exact this
          have df := hfz ((n - 1) * 2 + 1)
          have hi3 : ((n : Int) - 1).toNat = n - 1 := by omega
          have hi4 : (0 : Int) ≤ (n : Int) - 1 := by omega
          have hi5 : (n : Int) - 1 < (n : Int) := by omega
          have hi6 : (1 : Int) ≤ (n : Int) := by omega
          have HADD := Lib.hid (addD_at ds d0 k (k + 1))
          have HL := Lib.hid hL
          have HND := Lib.hid hnD
          have HAT := Lib.hid hat
          subst hA0
          clear hfz hrow hL hnD hat
          by_cases het : d0.til = k
          · have hnew : Hid (cmpK tol (units R.ps) (units R2.ps) (k + 1) = (cmpK tol (units R.ps) (units R2.ps) k).set (n - 1) ⟨d0.fr, k + 1⟩) := by
              rw [hcmp.out, HL.out, HADD.out, if_pos het, HND.out]
              simp [Hid]
            have et : (d0.til == (k : Int)) = true := by simpa using het
            clear het
            have HOg := Lib.hid hOg
            clear hOg
            go_wp2_with fail
            go_roundw
            case rel =>
              have h1 := HOg.out.setF dC_len (n - 1) 1 (x := d0) (y := ⟨d0.fr, k + 1⟩) (v := .int .i64 (k + 1)) HAT.out (by omega) rfl
              exact ⟨k + 1, _, _, _, by omega, by go_num, rfl, by rw [hnew.out]; exact h1, h0g.setCell hbbo _⟩
            case measure => simp [intOf]; omega
          · have hnew : Hid (cmpK tol (units R.ps) (units R2.ps) (k + 1) = cmpK tol (units R.ps) (units R2.ps) k ++ [⟨k, k + 1⟩]) := by
              rw [hcmp.out, HL.out, HADD.out, if_neg het]; exact rfl
            have et : (d0.til == (k : Int)) = false := by simpa using het
            clear het df
            have hN1 := BK.new Wg 72 #[.int .i64 k, .int .i64 (k + 1)]
            go_wp2_with (at_builtin; refine wpList_app rfl _ _ 67 rfl W0.heap.size 72 _ 2 16 Try.underlying67 infoD rfl (by decide) dC _ _ c _ rfl (hOg.alloc _) ⟨k, k + 1⟩ #[.int .i64 k, .int .i64 (k + 1)] rfl rfl 72 Wg.heap.size rfl hN1 (by simp [dC, Value.oneCell']) (by omega) (by omega) (by simp; omega) ?_; intro g'' c'' w10 hap; have HAP := Lib.hid hap; clear hap)
            go_roundw
            case rel =>
              have hap := HAP.out
              exact ⟨k + 1, _, _, _, by omega, by go_num, rfl, by rw [hnew.out]; exact hap.own, (h0g.alloc (by omega) _).trans hap.bel⟩
            case measure => simp [intOf]; omega
      have e2 : decide (D ≤ tol) = true := by simpa using c2
      by_cases c3 : -D ≤ tol
      case neg =>
        have e3 : decide (-D ≤ tol) = false := by simpa using c3
        have hnf : near tol p q = false := by rw [hnear.out]; simp [c3]
        have hcmp : Hid (cmpK tol (units R.ps) (units R2.ps) (k + 1) = addD (cmpK tol (units R.ps) (units R2.ps) k) k (k + 1)) := by rw [HSU.out, hnf]; exact rfl
        clear hnf c3
        rcases nil_or_snoc (cmpK tol (units R.ps) (units R2.ps) k) with hL | ⟨ds, d0, hL⟩
        · have hn0 : n = 0 := by have := hOg.len; rw [hL] at this; simpa using this
          subst hn0
          have hnew : Hid (cmpK tol (units R.ps) (units R2.ps) (k + 1) = cmpK tol (units R.ps) (units R2.ps) k ++ [⟨k, k + 1⟩]) := by rw [hcmp.out, hL]; exact rfl
          clear hL
          have hN1 := BK.new Wg 72 #[.int .i64 k, .int .i64 (k + 1)]
          go_wp2_with (at_builtin; refine wpList_app rfl _ _ 67 rfl W0.heap.size 72 _ 2 16 Try.underlying67 infoD rfl (by decide) dC A 0 c _ rfl (hOg.alloc _) ⟨k, k + 1⟩ #[.int .i64 k, .int .i64 (k + 1)] rfl rfl 72 Wg.heap.size rfl hN1 (by simp [dC, Value.oneCell']) (by omega) (by omega) (by simp; omega) ?_; intro g'' c'' w10 hap; have HAP := Lib.hid hap; clear hap)
          go_roundw
          case rel =>
            have hap := HAP.out
            exact ⟨k + 1, _, _, _, by omega, by go_num, rfl, by rw [hnew.out]; exact hap.own, (h0g.alloc (by omega) _).trans hap.bel⟩
          case measure => simp [intOf]; omega
        · have hnD : n = ds.length + 1 := by have := hOg.len; rw [hL] at this; simpa using this
          obtain ⟨a0, hA0⟩ : ∃ a0, A = some a0 := by
            cases A with
            | none => have := hOg.none_.1; omega
            | some a0 => exact ⟨a0, rfl⟩
          obtain ⟨bo, rfl, hbo, hbbo, hfz, hrow⟩ := hOg.at_ dC_len a0 hA0
          have hat : (cmpK tol (units R.ps) (units R2.ps) k)[n - 1]? = some d0 := by rw [hL, hnD]; simp
          have dt : Wg.cell? ⟨bo, (n - 1) * 2 + 1, none⟩ = some (.int .i64 d0.til) := by have := hrow _ d0 hat 1 _ rfl; rw [show 0 + (n - 1) * 2 + 1 = (n - 1) * 2 + 1 by omega] at this; exact this
          have df := hfz ((n - 1) * 2 + 1)
          have hi3 : ((n : Int) - 1).toNat = n - 1 := by omega
          have hi4 : (0 : Int) ≤ (n : Int) - 1 := by omega
          have hi5 : (n : Int) - 1 < (n : Int) := by omega
          have hi6 : (1 : Int) ≤ (n : Int) := by omega
          have HADD := Lib.hid (addD_at ds d0 k (k + 1))
          have HL := Lib.hid hL
          have HND := Lib.hid hnD
          have HAT := Lib.hid hat
          subst hA0
          clear hfz hrow hL hnD hat
          by_cases het : d0.til = k
          · have hnew : Hid (cmpK tol (units R.ps) (units R2.ps) (k + 1) = (cmpK tol (units R.ps) (units R2.ps) k).set (n - 1) ⟨d0.fr, k + 1⟩) := by
              rw [hcmp.out, HL.out, HADD.out, if_pos het, HND.out]
              simp [Hid]
            have et : (d0.til == (k : Int)) = true := by simpa using het
            clear het
            have HOg := Lib.hid hOg
            clear hOg
            go_wp2_with fail
            go_roundw
            case rel =>
              have h1 := HOg.out.setF dC_len (n - 1) 1 (x := d0) (y := ⟨d0.fr, k + 1⟩) (v := .int .i64 (k + 1)) HAT.out (by omega) rfl
              exact ⟨k + 1, _, _, _, by omega, by go_num, rfl, by rw [hnew.out]; exact h1, h0g.setCell hbbo _⟩
            case measure => simp [intOf]; omega
          · have hnew : Hid (cmpK tol (units R.ps) (units R2.ps) (k + 1) = cmpK tol (units R.ps) (units R2.ps) k ++ [⟨k, k + 1⟩]) := by
              rw [hcmp.out, HL.out, HADD.out, if_neg het]; exact rfl
            have et : (d0.til == (k : Int)) = false := by simpa using het
            clear het df
            have hN1 := BK.new Wg 72 #[.int .i64 k, .int .i64 (k + 1)]
            go_wp2_with (at_builtin; refine wpList_app rfl _ _ 67 rfl W0.heap.size 72 _ 2 16 Try.underlying67 infoD rfl (by decide) dC _ _ c _ rfl (hOg.alloc _) ⟨k, k + 1⟩ #[.int .i64 k, .int .i64 (k + 1)] rfl rfl 72 Wg.heap.size rfl hN1 (by simp [dC, Value.oneCell']) (by omega) (by omega) (by simp; omega) ?_; intro g'' c'' w10 hap; have HAP := Lib.hid hap; clear hap)
            go_roundw
            case rel =>
              have hap := HAP.out
              exact ⟨k + 1, _, _, _, by omega, by go_num, rfl, by rw [hnew.out]; exact hap.own, (h0g.alloc (by omega) _).trans hap.bel⟩
            case measure => simp [intOf]; omega
      have e3 : decide (-D ≤ tol) = true := by simpa using c3
      by_cases c4 : p.wid = q.wid
      case neg =>
        have e4 : (p.wid == q.wid) = false := by simpa using c4
        have hnf : near tol p q = false := by rw [hnear.out]; simp [c4]
        have hcmp : Hid (cmpK tol (units R.ps) (units R2.ps) (k + 1) = addD (cmpK tol (units R.ps) (units R2.ps) k) k (k + 1)) := by rw [HSU.out, hnf]; exact rfl
        clear hnf c4
        rcases nil_or_snoc (cmpK tol (units R.ps) (units R2.ps) k) with hL | ⟨ds, d0, hL⟩
        · have hn0 : n = 0 := by have := hOg.len; rw [hL] at this; simpa using this
          subst hn0
          have hnew : Hid (cmpK tol (units R.ps) (units R2.ps) (k + 1) = cmpK tol (units R.ps) (units R2.ps) k ++ [⟨k, k + 1⟩]) := by rw [hcmp.out, hL]; exact rfl
          clear hL
          have hN1 := BK.new Wg 72 #[.int .i64 k, .int .i64 (k + 1)]
          go_wp2_with (at_builtin; refine wpList_app rfl _ _ 67 rfl W0.heap.size 72 _ 2 16 Try.underlying67 infoD rfl (by decide) dC A 0 c _ rfl (hOg.alloc _) ⟨k, k + 1⟩ #[.int .i64 k, .int .i64 (k + 1)] rfl rfl 72 Wg.heap.size rfl hN1 (by simp [dC, Value.oneCell']) (by omega) (by omega) (by simp; omega) ?_; intro g'' c'' w10 hap; have HAP := Lib.hid hap; clear hap)
          go_roundw
          case rel =>
            have hap := HAP.out
            exact ⟨k + 1, _, _, _, by omega, by go_num, rfl, by rw [hnew.out]; exact hap.own, (h0g.alloc (by omega) _).trans hap.bel⟩
          case measure => simp [intOf]; omega
        · have hnD : n = ds.length + 1 := by have := hOg.len; rw [hL] at this; simpa using this
          obtain ⟨a0, hA0⟩ : ∃ a0, A = some a0 := by
            cases A with
            | none => have := hOg.none_.1; omega
            | some a0 => exact ⟨a0, rfl⟩
          obtain ⟨bo, rfl, hbo, hbbo, hfz, hrow⟩ := hOg.at_ dC_len a0 hA0
          have hat : (cmpK tol (units R.ps) (units R2.ps) k)[n - 1]? = some d0 := by rw [hL, hnD]; simp
          have dt : Wg.cell? ⟨bo, (n - 1) * 2 + 1, none⟩ = some (.int .i64 d0.til) := by have := hrow _ d0 hat 1 _ rfl; rw [show 0 + (n - 1) * 2 + 1 = (n - 1) * 2 + 1 by omega] at this; exact this
          have df := hfz ((n - 1) * 2 + 1)
          have hi3 : ((n : Int) - 1).toNat = n - 1 := by omega
          have hi4 : (0 : Int) ≤ (n : Int) - 1 := by omega
          have hi5 : (n : Int) - 1 < (n : Int) := by omega
          have hi6 : (1 : Int) ≤ (n : Int) := by omega
          have HADD := Lib.hid (addD_at ds d0 k (k + 1))
          have HL := Lib.hid hL
          have HND := Lib.hid hnD
          have HAT := Lib.hid hat
          subst hA0
          clear hfz hrow hL hnD hat
          by_cases het : d0.til = k
          · have hnew : Hid (cmpK tol (units R.ps) (units R2.ps) (k + 1) = (cmpK tol (units R.ps) (units R2.ps) k).set (n - 1) ⟨d0.fr, k + 1⟩) := by
              rw [hcmp.out, HL.out, HADD.out, if_pos het, HND.out]
              simp [Hid]
            have et : (d0.til == (k : Int)) = true := by simpa using het
            clear het
            have HOg := Lib.hid hOg
            clear hOg
            go_wp2_with fail
            go_roundw
            case rel =>
              have h1 := HOg.out.setF dC_len (n - 1) 1 (x := d0) (y := ⟨d0.fr, k + 1⟩) (v := .int .i64 (k + 1)) HAT.out (by omega) rfl
              exact ⟨k + 1, _, _, _, by omega, by go_num, rfl, by rw [hnew.out]; exact h1, h0g.setCell hbbo _⟩
            case measure => simp [intOf]; omega
          · have hnew : Hid (cmpK tol (units R.ps) (units R2.ps) (k + 1) = cmpK tol (units R.ps) (units R2.ps) k ++ [⟨k, k + 1⟩]) := by
              rw [hcmp.out, HL.out, HADD.out, if_neg het]; exact rfl
            have et : (d0.til == (k : Int)) = false := by simpa using het
            clear het df
            have hN1 := BK.new Wg 72 #[.int .i64 k, .int .i64 (k + 1)]
            go_wp2_with (at_builtin; refine wpList_app rfl _ _ 67 rfl W0.heap.size 72 _ 2 16 Try.underlying67 infoD rfl (by decide) dC _ _ c _ rfl (hOg.alloc _) ⟨k, k + 1⟩ #[.int .i64 k, .int .i64 (k + 1)] rfl rfl 72 Wg.heap.size rfl hN1 (by simp [dC, Value.oneCell']) (by omega) (by omega) (by simp; omega) ?_; intro g'' c'' w10 hap; have HAP := Lib.hid hap; clear hap)
            go_roundw
            case rel =>
              have hap := HAP.out
              exact ⟨k + 1, _, _, _, by omega, by go_num, rfl, by rw [hnew.out]; exact hap.own, (h0g.alloc (by omega) _).trans hap.bel⟩
            case measure => simp [intOf]; omega
      have e4 : (p.wid == q.wid) = true := by simpa using c4
      by_cases c5 : p.sur = q.sur
      case neg =>
        have e5 : (p.sur == q.sur) = false := by simpa using c5
        have hnf : near tol p q = false := by rw [hnear.out]; simp [c5]
        have hcmp : Hid (cmpK tol (units R.ps) (units R2.ps) (k + 1) = addD (cmpK tol (units R.ps) (units R2.ps) k) k (k + 1)) := by rw [HSU.out, hnf]; exact rfl
        clear hnf c5
        rcases nil_or_snoc (cmpK tol (units R.ps) (units R2.ps) k) with hL | ⟨ds, d0, hL⟩
        · have hn0 : n = 0 := by have := hOg.len; rw [hL] at this; simpa using this
          subst hn0
          have hnew : Hid (cmpK tol (units R.ps) (units R2.ps) (k + 1) = cmpK tol (units R.ps) (units R2.ps) k ++ [⟨k, k + 1⟩]) := by rw [hcmp.out, hL]; exact rfl
          clear hL
          have hN1 := BK.new Wg 72 #[.int .i64 k, .int .i64 (k + 1)]
          go_wp2_with (at_builtin; refine wpList_app rfl _ _ 67 rfl W0.heap.size 72 _ 2 16 Try.underlying67 infoD rfl (by decide) dC A 0 c _ rfl (hOg.alloc _) ⟨k, k + 1⟩ #[.int .i64 k, .int .i64 (k + 1)] rfl rfl 72 Wg.heap.size rfl hN1 (by simp [dC, Value.oneCell']) (by omega) (by omega) (by simp; omega) ?_; intro g'' c'' w10 hap; have HAP := Lib.hid hap; clear hap)
          go_roundw
          case rel =>
            have hap := HAP.out
            exact ⟨k + 1, _, _, _, by omega, by go_num, rfl, by rw [hnew.out]; exact hap.own, (h0g.alloc (by omega) _).trans hap.bel⟩
          case measure => simp [intOf]; omega
        · have hnD : n = ds.length + 1 := by have := hOg.len; rw [hL] at this; simpa using this
          obtain ⟨a0, hA0⟩ : ∃ a0, A = some a0 := by
            cases A with
            | none => have := hOg.none_.1; omega
            | some a0 => exact ⟨a0, rfl⟩
          obtain ⟨bo, rfl, hbo, hbbo, hfz, hrow⟩ := hOg.at_ dC_len a0 hA0
          have hat : (cmpK tol (units R.ps) (units R2.ps) k)[n - 1]? = some d0 := by rw [hL, hnD]; simp
          have dt : Wg.cell? ⟨bo, (n - 1) * 2 + 1, none⟩ = some (.int .i64 d0.til) := by have := hrow _ d0 hat 1 _ rfl; rw [show 0 + (n - 1) * 2 + 1 = (n - 1) * 2 + 1 by omega] at this; exact this
          have df := hfz ((n - 1) * 2 + 1)
          have hi3 : ((n : Int) - 1).toNat = n - 1 := by omega
          have hi4 : (0 : Int) ≤ (n : Int) - 1 := by omega
          have hi5 : (n : Int) - 1 < (n : Int) := by omega
          have hi6 : (1 : Int) ≤ (n : Int) := by omega
          have HADD := Lib.hid (addD_at ds d0 k (k + 1))
          have HL := Lib.hid hL
          have HND := Lib.hid hnD
          have HAT := Lib.hid hat
          subst hA0
          clear hfz hrow hL hnD hat
          by_cases het : d0.til = k
          · have hnew : Hid (cmpK tol (units R.ps) (units R2.ps) (k + 1) = (cmpK tol (units R.ps) (units R2.ps) k).set (n - 1) ⟨d0.fr, k + 1⟩) := by
              rw [hcmp.out, HL.out, HADD.out, if_pos het, HND.out]
              simp [Hid]
            have et : (d0.til == (k : Int)) = true := by simpa using het
            clear het
            have HOg := Lib.hid hOg
            clear hOg
            go_wp2_with fail
            go_roundw
            case rel =>
              have h1 := HOg.out.setF dC_len (n - 1) 1 (x := d0) (y := ⟨d0.fr, k + 1⟩) (v := .int .i64 (k + 1)) HAT.out (by omega) rfl
              exact ⟨k + 1, _, _, _, by omega, by go_num, rfl, by rw [hnew.out]; exact h1, h0g.setCell hbbo _⟩
            case measure => simp [intOf]; omega
          · have hnew : Hid (cmpK tol (units R.ps) (units R2.ps) (k + 1) = cmpK tol (units R.ps) (units R2.ps) k ++ [⟨k, k + 1⟩]) := by
              rw [hcmp.out, HL.out, HADD.out, if_neg het]; exact rfl
            have et : (d0.til == (k : Int)) = false := by simpa using het
            clear het df
            have hN1 := BK.new Wg 72 #[.int .i64 k, .int .i64 (k + 1)]
            go_wp2_with (at_builtin; refine wpList_app rfl _ _ 67 rfl W0.heap.size 72 _ 2 16 Try.underlying67 infoD rfl (by decide) dC _ _ c _ rfl (hOg.alloc _) ⟨k, k + 1⟩ #[.int .i64 k, .int .i64 (k + 1)] rfl rfl 72 Wg.heap.size rfl hN1 (by simp [dC, Value.oneCell']) (by omega) (by omega) (by simp; omega) ?_; intro g'' c'' w10 hap; have HAP := Lib.hid hap; clear hap)
            go_roundw
            case rel =>
              have hap := HAP.out
              exact ⟨k + 1, _, _, _, by omega, by go_num, rfl, by rw [hnew.out]; exact hap.own, (h0g.alloc (by omega) _).trans hap.bel⟩
            case measure => simp [intOf]; omega
      have e5 : (p.sur == q.sur) = true := by simpa using c5
      have hcmp : Hid (cmpK tol (units R.ps) (units R2.ps) (k + 1) = cmpK tol (units R.ps) (units R2.ps) k) := by rw [HSU.out, hnear.out, if_pos (by simp [c1, c2, c3, c4, c5])]; exact rfl
      clear c1 c2 c3 c4 c5
      go_wp2_with fail
      go_roundw
      case rel => exact ⟨k + 1, _, _, _, by omega, by go_num, rfl, by rw [hcmp.out]; exact hOg, h0g⟩
      case measure => simp [intOf]; omega
    · have hkN : (k : Int) = N := by omega
      have hkn : Hid (k = (sumL R.ps).toNat) := by show _ = _; rw [← HN.out]; omega
      go_wp2_with fail
      go_ret
      exact ⟨_, _, _, rfl, by rw [← hkn.out]; exact hOe.drop0 hz0, hBe⟩
end Go.Proofs.Ytomloklckpcaiaa
