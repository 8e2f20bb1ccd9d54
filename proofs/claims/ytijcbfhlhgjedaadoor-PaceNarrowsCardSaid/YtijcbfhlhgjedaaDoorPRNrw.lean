/- The document's Narrow, walked. -/
import Derived.Test.YtijcbfhlhgjedaaDoorPNrw
import Derived.Test.YtijcbfhlhgjedaaDoorPRMtr
namespace Go.Proofs.YtijcbfhlhgjedaaDoor
open Go.RowKit Go.Shelf Go.Sort Go.Proofs

set_option maxRecDepth 100000 in
set_option maxHeartbeats 8000000 in
theorem RNarrow_any (pa : Option Addr) (pn pc : Nat) (ca : Option Addr) (cn cc : Nat) (ja : Option Addr) (jn jc : Nat) (R : Road) (ra : Option Addr) (rn rc : Nat) (sa : Option Addr) (sn sc : Nat) (S : Spd) (la : Option Addr) (ln lc : Nat) (ls : List PassR) (w : World)
    (h : RD w w.heap.size pa pn ca cn ja jn R) (hD : SD w w.heap.size ra rn sa sn S) (hL : SL paC 3 w w.heap.size la ln ls) (hv : OK R) (hS : SOK S) (hp : POK (sumL R.ps) ls) :
    Calls Tryd.prog 46 #[.agg #[.slice pa pn pc, .slice ca cn cc, .slice ja jn jc], .agg #[.int .i64 S.least, .int .i64 S.most, .slice ra rn rc, .slice sa sn sc], .slice la ln lc] w fun e w' =>
      ∃ A n c, e = .returned (.tuple #[.slice A n c, .bool (nrwOk (nrwR S R ls))]) ∧ (nrwOk (nrwR S R ls) = true → SL paC 3 w' w'.heap.size A n (nrwR S R ls)) ∧ Below w.heap.size w w' := by
  have hmo : Tryd.prog.follows .mixedOrders = true := by kernel_rfl
  have HLP := Lib.hid hL.1
  have HR := Lib.hid h
  have HD := Lib.hid hD
  have HV := Lib.hid hv
  have HS := Lib.hid hS
  have HPO := Lib.hid hp
  have hln : ln ≤ 200 := by rw [hL.1]; exact hp.l1
  have HL := Lib.hid hL
  clear h hD hL hv hS hp
  obtain ⟨w0, hw0⟩ : ∃ w0, w0 = (w.alloc (.cells #[.slice pa pn pc, .slice ca cn cc, .slice ja jn jc] 26)).alloc (.cells #[.int .i64 S.least, .int .i64 S.most, .slice ra rn rc, .slice sa sn sc] 30) := ⟨_, rfl⟩
  have hB0 : Below w.heap.size w w0 := by rw [hw0]; exact ((Below.refl w.heap.size w).alloc (Nat.le_refl _) _).alloc (by simp) _
  have hX0 : BK w0 (w.heap.size) 26 #[.slice pa pn pc, .slice ca cn cc, .slice ja jn jc] := by rw [hw0]; exact ((BK.new w 26 #[.slice pa pn pc, .slice ca cn cc, .slice ja jn jc])).alloc _
  have hY0 : BK w0 (w.heap.size + 1) 30 #[.int .i64 S.least, .int .i64 S.most, .slice ra rn rc, .slice sa sn sc] := by rw [hw0]; have := BK.new (w.alloc (.cells #[.slice pa pn pc, .slice ca cn cc, .slice ja jn jc] 26)) 30 #[.int .i64 S.least, .int .i64 S.most, .slice ra rn rc, .slice sa sn sc]; rw [World.size_alloc] at this; exact this
  have ho0 : OW paC 3 89 w0.heap.size w0 none 0 0 [] := OW.nil_
  have HL0 := Lib.hid (HL.out.grow hB0 hB0.size)
  rw [hw0] at ho0 HL0
  go_enter Tryd.func46, Tryd.ntmps46
  go_wp2_with (at_builtin; refine wpList_appS rfl _ _ 66 rfl ((w.alloc (.cells #[.slice pa pn pc, .slice ca cn cc, .slice ja jn jc] 26)).alloc (.cells #[.int .i64 S.least, .int .i64 S.most, .slice ra rn rc, .slice sa sn sc] 30)).heap.size 89 _ 3 24 Tryd.underlying66 infoPa rfl (by decide) paC none 0 0 [] rfl ho0 ((w.alloc (.cells #[.slice pa pn pc, .slice ca cn cc, .slice ja jn jc] 26)).alloc (.cells #[.int .i64 S.least, .int .i64 S.most, .slice ra rn rc, .slice sa sn sc] 30)).heap.size la ln lc ls rfl HL0.out paC_len onePa (by omega) (by omega) (Nat.le_refl _) ?_; intro A c w1 hap; have HAP := Lib.hid hap; clear hap)
  have hO1 : OW paC 3 89 w0.heap.size w1 A ln c ls := by rw [hw0]; have := HAP.out.own; rw [List.nil_append, Nat.zero_add] at this; exact this
  have hk : Below w0.heap.size w0 w1 := by rw [hw0]; exact HAP.out.bel
  clear ho0 HL0 HAP hw0
  have hk0' := hk
  have hB0' := hB0
  have hX0' := hX0
  have hY0' := hY0
  obtain ⟨N, hN⟩ : ∃ N : Nat, sumL R.ps = (N : Int) := ⟨(sumL R.ps).toNat, by have := (sumL_bd R.ps HV.out.pk).1; omega⟩
  have hN1 : N ≤ 100000 := by have := HV.out.n1; omega
  have HN := Lib.hid hN
  clear hN
  go_loopw [9] (fun i wr => ∃ k : Nat, k ≤ ln ∧ i = .int .i64 k ∧ OW paC 3 89 w0.heap.size wr A ln c (fwd (qS S R) (sS S R) ls k) ∧ Below w0.heap.size w0 wr)
    (fun i _ => ln - (intOf i).toNat)
  case atStart => exact ⟨0, Nat.zero_le _, rfl, hO1, hk0'⟩
  case round =>
    obtain ⟨k, hk, rfl, hO, hbr⟩ := hrel
    have hBr := hB0'.trans (hbr.mono hB0'.size)
    have hXr := hX0'.below hbr hX0'.lt
    have hYr := hY0'.below hbr hY0'.lt
    by_cases hlt : k < ln
    case pos =>
      obtain ⟨x, bp, q, z, f1, -, f2, fz, f3, f4, f5, f6, f7, f8, f9, -⟩ := fwd_round HS.out HV.out HPO.out (k := k) (by rw [← HLP.out]; exact hlt)
      obtain ⟨a, hA⟩ : ∃ a, A = some a := by
        rcases A with _ | a
        · obtain ⟨h0, _⟩ := hO.none_
          omega
        · exact ⟨a, rfl⟩
      obtain ⟨ob, rfl, hob1, hob2, hfz, hcl⟩ := hO.at_ paC_len a hA
      subst hA
      obtain ⟨L, hLe⟩ : ∃ L, L = fwd (qS S R) (sS S R) ls k := ⟨_, rfl⟩
      rw [← hLe] at hO f1 f2 f9 hcl
      clear hLe
      have HST := Lib.hid f9
      clear f9
      obtain ⟨xp, xe, xl⟩ := x
      obtain ⟨bpp, be, bl⟩ := bp
      dsimp only at f3 f4
      subst f3
      subst f4
      obtain ⟨g1, g2, g3, g4⟩ := f7
      obtain ⟨g5, g6, g7, g8⟩ := f8
      dsimp only at g1 g2 g3 g4 g5 g6 g7 g8 HST
      have hzN : z ≤ N := by have := HN.out; omega
      have hqN : q ≤ N := by omega
      obtain ⟨dq, hdq⟩ : ∃ dq, dq = tQ S R.ps z - tQ S R.ps q := ⟨_, rfl⟩
      obtain ⟨ds, hds⟩ : ∃ ds, ds = tSl S R.ps z - tSl S R.ps q := ⟨_, rfl⟩
      have b1 := tQ_bd HS.out HV.out q
      have b2 := tQ_bd HS.out HV.out z
      have b3 := tSl_bd HS.out HV.out q
      have b4 := tSl_bd HS.out HV.out z
      obtain ⟨s1, hs1⟩ : ∃ s1, s1 = be + dq := ⟨_, rfl⟩
      obtain ⟨s2, hs2⟩ : ∃ s2, s2 = bl + ds := ⟨_, rfl⟩
      obtain ⟨M1, hM1⟩ : ∃ M1, M1 = max xe s1 := ⟨_, rfl⟩
      obtain ⟨M2, hM2⟩ : ∃ M2, M2 = min xl s2 := ⟨_, rfl⟩
      rw [← hdq, ← hds, ← hs1, ← hs2, ← hM1, ← hM2] at HST
      have hw1 : IntKind.i64.wrap (be + dq) = s1 := (IntWalk.i64_in _ (by omega)).trans hs1.symm
      have hw2 : IntKind.i64.wrap (bl + ds) = s2 := (IntWalk.i64_in _ (by omega)).trans hs2.symm
      have hi1 : (if xe < s1 then s1 else xe) = M1 := by rw [hM1, Int.max_def]; split <;> split <;> omega
      have hi2 : (if s2 < xl then s2 else xl) = M2 := by rw [hM2, Int.min_def]; split <;> split <;> omega
      have HDQ : Hid (tQ S R.ps z - tQ S R.ps q = dq) := hdq.symm
      have HDS : Hid (tSl S R.ps z - tSl S R.ps q = ds) := hds.symm
      have HQZ := Lib.hid f5
      have HZN := Lib.hid f6
      clear b1 b2 b3 b4 hdq hds hs1 hs2 hM1 hM2 g1 g2 g3 g4 g5 g6 g7 g8 f5 f6
      have c0 := hcl k _ f1 0 _ rfl
      rw [show 0 + k * 3 + 0 = k * 3 by omega] at c0
      have hk1 : (0 : Int) ≤ (k : Int) := by omega
      have hk2 : (k : Int) < (ln : Int) := by omega
      have HF1 := Lib.hid f1
      clear f1
      have hlX := hXr.lt
      have hlY := hYr.lt
      by_cases hk0 : 0 < k
      case pos =>
        obtain ⟨j, hj⟩ : ∃ j, k = j + 1 := ⟨k - 1, by omega⟩
        have d0 := hcl (k - 1) _ (f2 hk0) 0 _ rfl
        have d1 := hcl (k - 1) _ (f2 hk0) 1 _ rfl
        have d2 := hcl (k - 1) _ (f2 hk0) 2 _ rfl
        rw [show 0 + (k - 1) * 3 + 0 = j * 3 by omega] at d0
        rw [show 0 + (k - 1) * 3 + 1 = j * 3 + 1 by omega] at d1
        rw [show 0 + (k - 1) * 3 + 2 = j * 3 + 2 by omega] at d2
        have hwk : IntKind.i64.wrap ((k : Int) - 1) = (j : Int) := (IntWalk.i64_in _ (by omega)).trans (by omega)
        have hj1 : (0 : Int) ≤ (j : Int) := by omega
        have hj2 : (j : Int) < (ln : Int) := by omega
        have gk : decide ((0 : Int) < (k : Int)) = true := decide_eq_true (by omega)
        have gkN : decide (0 < k) = true := decide_eq_true (by omega)
        clear f2 fz hj hcl hfz hk0
        go_wp2_with fail
        have d0 := fun d os => cell_regrown d0 d os
        have d1 := fun d os => cell_regrown d1 d os
        have d2 := fun d os => cell_regrown d2 d os
        refine wp_region_ch 20 [18, 19] hmo (by kernel_rfl) ?_
        simp only [List.take_succ_cons, List.take_zero, List.drop_succ_cons, List.drop_zero]
        repeat (with_reducible refine wpC_q (by decide) (by decide) (fun K hK => ?_); go_simp; (try rw [if_neg (by simp [undef])]); refine hK _ ?_; clear hK K)
        with_reducible refine wpC_vg (ι := Unit) (fun _ => .int .i64 q) (fun _ _ => True) (by decide) (by decide) (by go_simp) stable_true (fun _ => stable_true) (fun W _ _ => ⟨(), W, by go_simp, trivial, Below.refl _ _⟩) (fun i0 hs0 => ?_)
        repeat (with_reducible refine wpC_q (by decide) (by decide) (fun K hK => ?_); go_simp; (try rw [if_neg (by simp [undef])]); refine hK _ ?_; clear hK K)
        with_reducible refine wpC_vg (ι := Unit) (fun _ => .int .i64 be) (fun _ _ => True) (by decide) (by decide) (by go_simp) hs0 (fun _ => stable_true) (fun W _ _ => ⟨(), W, by go_simp, trivial, Below.refl _ _⟩) (fun i1 hs1 => ?_)
        repeat (with_reducible refine wpC_q (by decide) (by decide) (fun K hK => ?_); go_simp; (try rw [if_neg (by simp [undef])]); refine hK _ ?_; clear hK K)
        refine wpC_nil ?_
        intro w6 hb6 _
        clear d0 d1 d2 hs0 hs1
        have hO6 := hO.call hb6
        have hb6' := hbr.trans (hb6.mono hbr.size)
        have hB6 := hB0'.trans (hb6'.mono hB0'.size)
        have hX6 := hXr.below hb6 hlX
        have hY6 := hYr.below hb6 hlY
        clear c0 hO hbr hBr hXr hYr hb6 hlX hlY gk gkN hwk hj1 hj2
        obtain ⟨ob', e0, -, -, hfz, hcl⟩ := hO6.at_ paC_len _ rfl
        injection e0 with e0
        subst e0
        have c0 := hcl k _ HF1.out 0 _ rfl
        rw [show 0 + k * 3 + 0 = k * 3 by omega] at c0
        clear hcl hfz
        have x0 := fun d os => cell_regrown (hX6.cell 0) d os
        have x1 := fun d os => cell_regrown (hX6.cell 1) d os
        have x2 := fun d os => cell_regrown (hX6.cell 2) d os
        have y0 := fun d os => cell_regrown (hY6.cell 0) d os
        have y1 := fun d os => cell_regrown (hY6.cell 1) d os
        have y2 := fun d os => cell_regrown (hY6.cell 2) d os
        have y3 := fun d os => cell_regrown (hY6.cell 3) d os
        have hlX := hX6.lt
        have hlY := hY6.lt
        have HGR := Lib.hid (fun d os => HR.out.grow (hB6.trans ((below_regrown w6 d os).mono hB6.size)) (Nat.le_trans hB6.size (below_regrown w6 d os).size))
        have HGD := Lib.hid (fun d os => HD.out.grow (hB6.trans ((below_regrown w6 d os).mono hB6.size)) (Nat.le_trans hB6.size (below_regrown w6 d os).size))
        go_wp2_with fail
        have c0 := fun d os => cell_regrown c0 d os
        refine wp_region_ch 13 [8, 12] hmo (by kernel_rfl) ?_
        simp only [List.take_succ_cons, List.take_zero, List.drop_succ_cons, List.drop_zero]
        repeat (with_reducible refine wpC_q (by decide) (by decide) (fun K hK => ?_); go_simp; (try rw [if_neg (by simp [undef])]); refine hK _ ?_; clear hK K)
        with_reducible refine wpC_cg (ι := Unit) 24 #[.agg #[.slice pa pn pc, .slice ca cn cc, .slice ja jn jc], .agg #[.int .i64 S.least, .int .i64 S.most, .slice ra rn rc, .slice sa sn sc], .int .i64 q, .int .i64 z] (fun _ => .tuple #[.int .i64 dq, .int .i64 ds]) (fun _ _ => True) (by decide) (by decide) (by go_simp) (fun w => by go_simp) stable_true (fun _ => stable_true) (fun W hW _ => ?_) (fun i0 hs0 => ?_)
        · obtain ⟨pp, rfl⟩ := hW
          refine (R3Between_any q z pa pn pc ca cn cc ja jn jc R ra rn rc sa sn sc S _ (HGR.out _ _) (HGD.out _ _) HV.out HS.out HQZ.out HZN.out).mono ?_
          rintro e w' ⟨rfl, hbl⟩
          exact ⟨(), by rw [HDQ.out, HDS.out], trivial, hbl⟩
        repeat (with_reducible refine wpC_q (by decide) (by decide) (fun K hK => ?_); go_simp; (try rw [if_neg (by simp [undef])]); refine hK _ ?_; clear hK K)
        with_reducible refine wpC_vg (ι := Unit) (fun _ => .int .i64 dq) (fun _ _ => True) (by decide) (by decide) (by go_simp) hs0 (fun _ => stable_true) (fun W _ _ => ⟨(), W, by go_simp, trivial, Below.refl _ _⟩) (fun i1 hs1 => ?_)
        repeat (with_reducible refine wpC_q (by decide) (by decide) (fun K hK => ?_); go_simp; (try rw [if_neg (by simp [undef])]); refine hK _ ?_; clear hK K)
        refine wpC_nil ?_
        intro w7 hb7 _
        clear x0 x1 x2 y0 y1 y2 y3 c0 HGR HGD hs0 hs1
        have hO7 := hO6.call hb7
        have hb7' := hb6'.trans (hb7.mono hb6'.size)
        obtain ⟨ob', e0, -, -, hfz, hcl⟩ := hO7.at_ paC_len _ rfl
        injection e0 with e0
        subst e0
        have c1 := hcl k _ HF1.out 1 _ rfl
        have c2 := hcl k _ HF1.out 2 _ rfl
        rw [show 0 + k * 3 + 1 = k * 3 + 1 by omega] at c1
        rw [show 0 + k * 3 + 2 = k * 3 + 2 by omega] at c2
        have f1 := hfz (k * 3 + 1)
        have f2 := hfz (k * 3 + 2)
        clear hcl hfz hO6 hb6' hB6 hX6 hY6 hb7 hlX hlY
        go_wp2_with fail
        go_region
        clear c1 c2 f1 f2
        have hkL : k < L.length := (List.getElem?_eq_some_iff.1 HF1.out).1
        have h1 := OW.setF hO7 paC_len k 1 (y := ⟨z, M1, xl⟩) (v := .int .i64 M1) HF1.out (by omega) rfl
        have h2 := OW.setF h1 paC_len k 2 (x := ⟨z, M1, xl⟩) (y := ⟨z, M1, M2⟩) (v := .int .i64 M2) (by rw [List.getElem?_set_self hkL]) (by omega) rfl
        rw [List.set_set] at h2
        have HO9 := Lib.hid h2.drew
        have HB9 := Lib.hid (below_drewN ((hb7'.setCell (p := ⟨ob, k * 3 + 1, none⟩) hob2 (.int .i64 M1)).setCell (p := ⟨ob, k * 3 + 2, none⟩) hob2 (.int .i64 M2)) 1)
        clear h1 h2 hO7 hb7' hkL
        go_wp2_with fail
        go_roundw
        case rel => exact ⟨k + 1, by omega, by go_num, by rw [HST.out]; exact HO9.out, HB9.out⟩
        case measure => simp [intOf]; omega
      have hzp := fz (by omega)
      unfold zP at hzp
      injection hzp with h1 h2 h3
      obtain rfl : q = 0 := by omega
      subst h2
      subst h3
      have hw1' : IntKind.i64.wrap dq = s1 := by rw [← hw1, Int.zero_add]
      have hw2' : IntKind.i64.wrap ds = s2 := by rw [← hw2, Int.zero_add]
      have gk : decide ((0 : Int) < (k : Int)) = false := decide_eq_false (by omega)
      have gkN : decide (0 < k) = false := decide_eq_false (by omega)
      have hO6 := hO
      have hb6' := hbr
      have hB6 := hBr
      have hX6 := hXr
      have hY6 := hYr
      obtain ⟨w6, hw6⟩ : ∃ w6, w6 = wr := ⟨_, rfl⟩
      rw [← hw6] at hO6 hb6' hB6 hX6 hY6 ⊢
      clear c0 hO hbr hBr hXr hYr hlX hlY hcl hfz fz f2 hw6
      obtain ⟨ob', e0, -, -, hfz, hcl⟩ := hO6.at_ paC_len _ rfl
      injection e0 with e0
      subst e0
      have c0 := hcl k _ HF1.out 0 _ rfl
      rw [show 0 + k * 3 + 0 = k * 3 by omega] at c0
      clear hcl hfz
      have x0 := fun d os => cell_regrown (hX6.cell 0) d os
      have x1 := fun d os => cell_regrown (hX6.cell 1) d os
      have x2 := fun d os => cell_regrown (hX6.cell 2) d os
      have y0 := fun d os => cell_regrown (hY6.cell 0) d os
      have y1 := fun d os => cell_regrown (hY6.cell 1) d os
      have y2 := fun d os => cell_regrown (hY6.cell 2) d os
      have y3 := fun d os => cell_regrown (hY6.cell 3) d os
      have hlX := hX6.lt
      have hlY := hY6.lt
      have HGR := Lib.hid (fun d os => HR.out.grow (hB6.trans ((below_regrown w6 d os).mono hB6.size)) (Nat.le_trans hB6.size (below_regrown w6 d os).size))
      have HGD := Lib.hid (fun d os => HD.out.grow (hB6.trans ((below_regrown w6 d os).mono hB6.size)) (Nat.le_trans hB6.size (below_regrown w6 d os).size))
      go_wp2_with fail
      have c0 := fun d os => cell_regrown c0 d os
      refine wp_region_ch 13 [8, 12] hmo (by kernel_rfl) ?_
      simp only [List.take_succ_cons, List.take_zero, List.drop_succ_cons, List.drop_zero]
      repeat (with_reducible refine wpC_q (by decide) (by decide) (fun K hK => ?_); go_simp; (try rw [if_neg (by simp [undef])]); refine hK _ ?_; clear hK K)
      with_reducible refine wpC_cg (ι := Unit) 24 #[.agg #[.slice pa pn pc, .slice ca cn cc, .slice ja jn jc], .agg #[.int .i64 S.least, .int .i64 S.most, .slice ra rn rc, .slice sa sn sc], .int .i64 0, .int .i64 z] (fun _ => .tuple #[.int .i64 dq, .int .i64 ds]) (fun _ _ => True) (by decide) (by decide) (by go_simp) (fun w => by go_simp) stable_true (fun _ => stable_true) (fun W hW _ => ?_) (fun i0 hs0 => ?_)
      · obtain ⟨pp, rfl⟩ := hW
        refine (R3Between_any 0 z pa pn pc ca cn cc ja jn jc R ra rn rc sa sn sc S _ (HGR.out _ _) (HGD.out _ _) HV.out HS.out HQZ.out HZN.out).mono ?_
        rintro e w' ⟨rfl, hbl⟩
        exact ⟨(), by rw [HDQ.out, HDS.out], trivial, hbl⟩
      repeat (with_reducible refine wpC_q (by decide) (by decide) (fun K hK => ?_); go_simp; (try rw [if_neg (by simp [undef])]); refine hK _ ?_; clear hK K)
      with_reducible refine wpC_vg (ι := Unit) (fun _ => .int .i64 dq) (fun _ _ => True) (by decide) (by decide) (by go_simp) hs0 (fun _ => stable_true) (fun W _ _ => ⟨(), W, by go_simp, trivial, Below.refl _ _⟩) (fun i1 hs1 => ?_)
      repeat (with_reducible refine wpC_q (by decide) (by decide) (fun K hK => ?_); go_simp; (try rw [if_neg (by simp [undef])]); refine hK _ ?_; clear hK K)
      refine wpC_nil ?_
      intro w7 hb7 _
      clear x0 x1 x2 y0 y1 y2 y3 c0 HGR HGD hs0 hs1
      have hO7 := hO6.call hb7
      have hb7' := hb6'.trans (hb7.mono hb6'.size)
      obtain ⟨ob', e0, -, -, hfz, hcl⟩ := hO7.at_ paC_len _ rfl
      injection e0 with e0
      subst e0
      have c1 := hcl k _ HF1.out 1 _ rfl
      have c2 := hcl k _ HF1.out 2 _ rfl
      rw [show 0 + k * 3 + 1 = k * 3 + 1 by omega] at c1
      rw [show 0 + k * 3 + 2 = k * 3 + 2 by omega] at c2
      have f1 := hfz (k * 3 + 1)
      have f2 := hfz (k * 3 + 2)
      clear hcl hfz hO6 hb6' hB6 hX6 hY6 hb7 hlX hlY
      go_wp2_with fail
      go_region
      clear c1 c2 f1 f2
      have hkL : k < L.length := (List.getElem?_eq_some_iff.1 HF1.out).1
      have h1 := OW.setF hO7 paC_len k 1 (y := ⟨z, M1, xl⟩) (v := .int .i64 M1) HF1.out (by omega) rfl
      have h2 := OW.setF h1 paC_len k 2 (x := ⟨z, M1, xl⟩) (y := ⟨z, M1, M2⟩) (v := .int .i64 M2) (by rw [List.getElem?_set_self hkL]) (by omega) rfl
      rw [List.set_set] at h2
      have HO9 := Lib.hid h2.drew
      have HB9 := Lib.hid (below_drewN ((hb7'.setCell (p := ⟨ob, k * 3 + 1, none⟩) hob2 (.int .i64 M1)).setCell (p := ⟨ob, k * 3 + 2, none⟩) hob2 (.int .i64 M2)) 1)
      clear h1 h2 hO7 hb7' hkL
      go_wp2_with fail
      go_roundw
      case rel => exact ⟨k + 1, by omega, by go_num, by rw [HST.out]; exact HO9.out, HB9.out⟩
      case measure => simp [intOf]; omega
    obtain rfl : ln = k := by omega
    have hF : Hid (PKeep (bdF 1000070000000 (qS S R)) ls (fwd (qS S R) (sS S R) ls ln)) := by have := fwd_keep (qm_of HS.out HV.out) HPO.out ls.length (Nat.le_refl _); rw [← HLP.out] at this; exact this
    have HOKF : Hid (nrwR S R ls = bwd (qS S R) (sS S R) (fwd (qS S R) (sS S R) ls ln) (ln - 1)) := by show _ = _; rw [HLP.out]; rfl
    obtain ⟨F, hFe⟩ : ∃ F, F = fwd (qS S R) (sS S R) ls ln := ⟨_, rfl⟩
    rw [← hFe] at hO hF HOKF
    have HF := hF
    clear hFe hF hlt hk
    have hO1' := hO
    have hbr' := hbr
    clear hO hbr hBr hXr hYr
    obtain ⟨wS, hwS⟩ : ∃ wS, wS = wr := ⟨_, rfl⟩
    rw [← hwS] at hO1' hbr' ⊢
    clear hwS
    have hw2 : IntKind.i64.wrap ((ln : Int) - 2) = (ln : Int) - 2 := IntWalk.i64_in _ (by omega)
    go_wp2_with fail
    clear hw2
    go_loopw [15] (fun i wr => ∃ k : Nat, k ≤ ln - 1 ∧ i = .int .i64 ((ln : Int) - 2 - k) ∧ OW paC 3 89 w0.heap.size wr A ln c (bwd (qS S R) (sS S R) F k) ∧ Below w0.heap.size w0 wr)
      (fun i _ => (intOf i + 1).toNat)
    case atStart => exact ⟨0, Nat.zero_le _, by simp, hO1', hbr'⟩
    clear hO1' hbr'
    case round =>
      obtain ⟨k, hk, rfl, hO, hbr⟩ := hrel
      have hBr := hB0'.trans (hbr.mono hB0'.size)
      have hXr := hX0'.below hbr hX0'.lt
      have hYr := hY0'.below hbr hY0'.lt
      by_cases hlt : k + 2 ≤ ln
      case pos =>
        obtain ⟨x, y, q, z, f1, f2, f3, f4, f5, f6, f7, f8, f9⟩ := bwd_round HS.out HV.out HPO.out HF.out (k := k) (by rw [← HLP.out]; exact hlt)
        obtain ⟨m, hm⟩ : ∃ m, m = ls.length - 2 - k := ⟨_, rfl⟩
        have hm1 : ls.length - 1 - k = m + 1 := by have := HLP.out; omega
        have hmi : (ln : Int) - 2 - (k : Int) = (m : Int) := by have := HLP.out; omega
        rw [hm1] at f2
        rw [← hm] at f1 f9
        rw [hmi]
        have hmk : m + 2 + k = ln := by have := HLP.out; omega
        clear hm hm1 hmi
        obtain ⟨a, hA⟩ : ∃ a, A = some a := by
          rcases A with _ | a
          · obtain ⟨h0, _⟩ := hO.none_
            omega
          · exact ⟨a, rfl⟩
        obtain ⟨ob, rfl, hob1, hob2, hfz, hcl⟩ := hO.at_ paC_len a hA
        subst hA
        obtain ⟨L, hLe⟩ : ∃ L, L = bwd (qS S R) (sS S R) F k := ⟨_, rfl⟩
        rw [← hLe] at hO f1 f2 f9 hcl
        clear hLe
        have HST := Lib.hid f9
        clear f9
        obtain ⟨xp, xe, xl⟩ := x
        obtain ⟨yp, ye, yl⟩ := y
        dsimp only at f3 f4
        subst f3
        subst f4
        obtain ⟨g1, g2, g3, g4⟩ := f7
        obtain ⟨g5, g6, g7, g8⟩ := f8
        dsimp only at g1 g2 g3 g4 g5 g6 g7 g8 HST
        have hzN : z ≤ N := by have := HN.out; omega
        have hqN : q ≤ N := by omega
        obtain ⟨dq, hdq⟩ : ∃ dq, dq = tQ S R.ps z - tQ S R.ps q := ⟨_, rfl⟩
        obtain ⟨ds, hds⟩ : ∃ ds, ds = tSl S R.ps z - tSl S R.ps q := ⟨_, rfl⟩
        have b1 := tQ_bd HS.out HV.out q
        have b2 := tQ_bd HS.out HV.out z
        have b3 := tSl_bd HS.out HV.out q
        have b4 := tSl_bd HS.out HV.out z
        obtain ⟨s1, hs1⟩ : ∃ s1, s1 = ye - ds := ⟨_, rfl⟩
        obtain ⟨s2, hs2⟩ : ∃ s2, s2 = yl - dq := ⟨_, rfl⟩
        obtain ⟨M1, hM1⟩ : ∃ M1, M1 = max xe s1 := ⟨_, rfl⟩
        obtain ⟨M2, hM2⟩ : ∃ M2, M2 = min xl s2 := ⟨_, rfl⟩
        rw [← hdq, ← hds, ← hs1, ← hs2, ← hM1, ← hM2] at HST
        have hw1 : IntKind.i64.wrap (ye - ds) = s1 := (IntWalk.i64_in _ (by omega)).trans hs1.symm
        have hw2 : IntKind.i64.wrap (yl - dq) = s2 := (IntWalk.i64_in _ (by omega)).trans hs2.symm
        have hi1 : (if xe < s1 then s1 else xe) = M1 := by rw [hM1, Int.max_def]; split <;> split <;> omega
        have hi2 : (if s2 < xl then s2 else xl) = M2 := by rw [hM2, Int.min_def]; split <;> split <;> omega
        have HDQ : Hid (tQ S R.ps z - tQ S R.ps q = dq) := hdq.symm
        have HDS : Hid (tSl S R.ps z - tSl S R.ps q = ds) := hds.symm
        have HQZ := Lib.hid f5
        have HZN := Lib.hid f6
        clear b1 b2 b3 b4 hdq hds hs1 hs2 hM1 hM2 g1 g2 g3 g4 g5 g6 g7 g8 f5 f6
        have c0 := hcl m _ f1 0 _ rfl
        rw [show 0 + m * 3 + 0 = m * 3 by omega] at c0
        have d0 := hcl (m + 1) _ f2 0 _ rfl
        rw [show 0 + (m + 1) * 3 + 0 = (m + 1) * 3 by omega] at d0
        have hi3 : (0 : Int) ≤ (m : Int) := by omega
        have hi4 : (m : Int) < (ln : Int) := by omega
        have hi5 : (0 : Int) ≤ (m : Int) + 1 := by omega
        have hi6 : (m : Int) + 1 < (ln : Int) := by omega
        have hi7 : ((m : Int) + 1).toNat = m + 1 := by omega
        have gm : decide ((0 : Int) ≤ (m : Int)) = true := decide_eq_true (by omega)
        have hwm : IntKind.i64.wrap ((m : Int) + 1) = (m : Int) + 1 := IntWalk.i64_in _ (by omega)
        have HF1 := Lib.hid f1
        have HF2 := Lib.hid f2
        have x0 := fun d os => cell_regrown (hXr.cell 0) d os
        have x1 := fun d os => cell_regrown (hXr.cell 1) d os
        have x2 := fun d os => cell_regrown (hXr.cell 2) d os
        have y0 := fun d os => cell_regrown (hYr.cell 0) d os
        have y1 := fun d os => cell_regrown (hYr.cell 1) d os
        have y2 := fun d os => cell_regrown (hYr.cell 2) d os
        have y3 := fun d os => cell_regrown (hYr.cell 3) d os
        have hlX := hXr.lt
        have hlY := hYr.lt
        have HGR := Lib.hid (fun d os => HR.out.grow (hBr.trans ((below_regrown wr d os).mono hBr.size)) (Nat.le_trans hBr.size (below_regrown wr d os).size))
        have HGD := Lib.hid (fun d os => HD.out.grow (hBr.trans ((below_regrown wr d os).mono hBr.size)) (Nat.le_trans hBr.size (below_regrown wr d os).size))
        clear f1 f2 hfz hcl
        go_wp2_with fail
        have c0 := fun d os => cell_regrown c0 d os
        have d0 := fun d os => cell_regrown d0 d os
        refine wp_region_ch 18 [13, 17] hmo (by kernel_rfl) ?_
        simp only [List.take_succ_cons, List.take_zero, List.drop_succ_cons, List.drop_zero]
        repeat (with_reducible refine wpC_q (by decide) (by decide) (fun K hK => ?_); go_simp; (try rw [if_neg (by simp [undef])]); refine hK _ ?_; clear hK K)
        with_reducible refine wpC_cg (ι := Unit) 24 #[.agg #[.slice pa pn pc, .slice ca cn cc, .slice ja jn jc], .agg #[.int .i64 S.least, .int .i64 S.most, .slice ra rn rc, .slice sa sn sc], .int .i64 q, .int .i64 z] (fun _ => .tuple #[.int .i64 dq, .int .i64 ds]) (fun _ _ => True) (by decide) (by decide) (by go_simp) (fun w => by go_simp) stable_true (fun _ => stable_true) (fun W hW _ => ?_) (fun i0 hs0 => ?_)
        · obtain ⟨pp, rfl⟩ := hW
          refine (R3Between_any q z pa pn pc ca cn cc ja jn jc R ra rn rc sa sn sc S _ (HGR.out _ _) (HGD.out _ _) HV.out HS.out HQZ.out HZN.out).mono ?_
          rintro e w' ⟨rfl, hbl⟩
          exact ⟨(), by rw [HDQ.out, HDS.out], trivial, hbl⟩
        repeat (with_reducible refine wpC_q (by decide) (by decide) (fun K hK => ?_); go_simp; (try rw [if_neg (by simp [undef])]); refine hK _ ?_; clear hK K)
        with_reducible refine wpC_vg (ι := Unit) (fun _ => .int .i64 dq) (fun _ _ => True) (by decide) (by decide) (by go_simp) hs0 (fun _ => stable_true) (fun W _ _ => ⟨(), W, by go_simp, trivial, Below.refl _ _⟩) (fun i1 hs1 => ?_)
        repeat (with_reducible refine wpC_q (by decide) (by decide) (fun K hK => ?_); go_simp; (try rw [if_neg (by simp [undef])]); refine hK _ ?_; clear hK K)
        refine wpC_nil ?_
        intro w7 hb7 _
        clear x0 x1 x2 y0 y1 y2 y3 c0 d0 HGR HGD hs0 hs1
        have hO7 := hO.call hb7
        have hb7' := hbr.trans (hb7.mono hbr.size)
        obtain ⟨ob', e0, -, -, hfz, hcl⟩ := hO7.at_ paC_len _ rfl
        injection e0 with e0
        subst e0
        have c1 := hcl m _ HF1.out 1 _ rfl
        have c2 := hcl m _ HF1.out 2 _ rfl
        rw [show 0 + m * 3 + 1 = m * 3 + 1 by omega] at c1
        rw [show 0 + m * 3 + 2 = m * 3 + 2 by omega] at c2
        have d1 := hcl (m + 1) _ HF2.out 1 _ rfl
        have d2 := hcl (m + 1) _ HF2.out 2 _ rfl
        rw [show 0 + (m + 1) * 3 + 1 = (m + 1) * 3 + 1 by omega] at d1
        rw [show 0 + (m + 1) * 3 + 2 = (m + 1) * 3 + 2 by omega] at d2
        have f1 := hfz (m * 3 + 1)
        have f2 := hfz (m * 3 + 2)
        clear hcl hfz hO hbr hBr hXr hYr hb7 hlX hlY
        go_wp2_with fail
        go_region
        clear c1 c2 f1 f2 d1 d2
        have hmL : m < L.length := (List.getElem?_eq_some_iff.1 HF1.out).1
        have h1 := OW.setF hO7 paC_len m 1 (y := ⟨q, M1, xl⟩) (v := .int .i64 M1) HF1.out (by omega) rfl
        have h2 := OW.setF h1 paC_len m 2 (x := ⟨q, M1, xl⟩) (y := ⟨q, M1, M2⟩) (v := .int .i64 M2) (by rw [List.getElem?_set_self hmL]) (by omega) rfl
        rw [List.set_set] at h2
        have HO9 := Lib.hid h2.drew
        have HB9 := Lib.hid (below_drewN ((hb7'.setCell (p := ⟨ob, m * 3 + 1, none⟩) hob2 (.int .i64 M1)).setCell (p := ⟨ob, m * 3 + 2, none⟩) hob2 (.int .i64 M2)) 1)
        have HM := Lib.hid hmk
        clear h1 h2 hO7 hb7' hmL
        have hwm1 : IntKind.i64.wrap ((m : Int) - 1) = (m : Int) - 1 := IntWalk.i64_in _ (by omega)
        go_wp2_with fail
        go_roundw
        case rel => exact ⟨k + 1, by have := HM.out; omega, by have := HM.out; first | rfl | (congr 1; omega), by rw [HST.out]; exact HO9.out, HB9.out⟩
        case measure => simp [intOf]
      have hke : k = ln - 1 := by omega
      rw [hke] at hO
      have gm : decide ((0 : Int) ≤ (ln : Int) - 2 - (k : Int)) = false := decide_eq_false (by omega)
      rw [← HOKF.out] at hO
      have HSO := Lib.hid (hO.sl paC_len)
      have hlL : ln = (nrwR S R ls).length := by unfold nrwR; rw [nrw_len]; exact HLP.out
      have HLL := Lib.hid hlL
      clear hO hbr hXr hYr hlL
      go_wp2_with fail
      clear gm
      go_loopw [18] (fun i wx => ∃ j : Nat, j ≤ ln ∧ i = .int .i64 j ∧ Below wr.heap.size wr wx ∧ Hid (∀ i (h : i < (nrwR S R ls).length), i < j → ((nrwR S R ls)[i]'h).early ≤ ((nrwR S R ls)[i]'h).late))
        (fun i _ => ln - (intOf i).toNat)
      case atStart => exact ⟨0, Nat.zero_le _, rfl, Below.refl _ _, fun i h h0 => absurd h0 (Nat.not_lt_zero _)⟩
      case round =>
        obtain ⟨j, hj, rfl, hbx, hall⟩ := hrel
        have hBx := hBr.trans (hbx.mono hBr.size)
        by_cases hlt2 : j < ln
        case pos =>
          have hjl : j < (nrwR S R ls).length := by rw [← HLL.out]; exact hlt2
          obtain ⟨b, off, hA, hbB, c0, c1, c2⟩ := PA3.at_ (HSO.out.grow hbx hbx.size) (k := j) hjl
          subst hA
          have hi1 : (0 : Int) ≤ (j : Int) := by omega
          have hi2 : (j : Int) < (ln : Int) := by omega
          by_cases hel : ((nrwR S R ls)[j]'hjl).early ≤ ((nrwR S R ls)[j]'hjl).late
          case pos =>
            have HE := Lib.hid hel
            have hg : decide (((nrwR S R ls)[j]'hjl).late < ((nrwR S R ls)[j]'hjl).early) = false := decide_eq_false (by omega)
            have HALL : Hid (∀ i (h : i < (nrwR S R ls).length), i < j + 1 → ((nrwR S R ls)[i]'h).early ≤ ((nrwR S R ls)[i]'h).late) := by
              intro i h h0
              rcases Nat.lt_or_ge i j with h1 | h1
              · exact hall.out i h h1
              · obtain rfl : i = j := by omega
                exact HE.out
            generalize ((nrwR S R ls)[j]'hjl).early = e1 at c1 hg
            generalize ((nrwR S R ls)[j]'hjl).late = e2 at c2 hg
            clear hel hjl HE c0
            go_wp2_with fail
            go_quiet (fail)
            go_wp2_with fail
            go_roundw
            case rel => exact ⟨j + 1, by omega, by go_num, below_drewN hbx _, HALL⟩
            case measure => simp [intOf]; omega
          have hno : nrwOk (nrwR S R ls) = false := by
            rw [Bool.eq_false_iff]
            intro h
            have := List.all_eq_true.1 h _ (List.getElem_mem hjl)
            exact hel (by simpa using this)
          have HNO := Lib.hid hno
          have hg : decide (((nrwR S R ls)[j]'hjl).late < ((nrwR S R ls)[j]'hjl).early) = true := decide_eq_true (by omega)
          generalize ((nrwR S R ls)[j]'hjl).early = e1 at c1 hg
          generalize ((nrwR S R ls)[j]'hjl).late = e2 at c2 hg
          clear hel hjl c0 hno
          go_wp2_with fail
          go_quiet (fail)
          go_wp2_with fail
          refine bodyPost_ret (v := .tuple #[.slice none 0 0, .bool false]) (by simp [results, Tryd.results46, go_sem]) rfl ⟨none, 0, 0, by rw [HNO.out], (fun h => by rw [HNO.out] at h; cases h), below_drewN hBx _⟩
        have hok : nrwOk (nrwR S R ls) = true := by
          unfold nrwOk
          rw [List.all_eq_true]
          intro x hx
          obtain ⟨i, hi, rfl⟩ := List.getElem_of_mem hx
          simpa using hall.out i hi (by have := HLL.out; omega)
        have HNO := Lib.hid hok
        have HSX := Lib.hid (HSO.out.grow hbx hbx.size)
        clear hok
        go_wp2_with fail
        refine bodyPost_ret (v := .tuple #[.slice A ln c, .bool true]) (by simp [results, Tryd.results46, go_sem]) rfl ⟨A, ln, c, by rw [HNO.out], (fun _ => HSX.out), hBx⟩
end Go.Proofs.YtijcbfhlhgjedaaDoor
