/- The law function RoadNormals, walked: it returns true. -/
import Derived.Test.YtomloklckpcaiaaKnown
import Derived.Test.YtomloklckpcaiaaCornOut
import Derived.Test.YtomloklckpcaiaaRNorm
import Derived.Test.YtomloklckpcaiaaRSame
import Derived.Test.YtomloklckpcaiaaNormAt
namespace Go.Proofs.Ytomloklckpcaiaa
open Go.RowKit Go.Shelf Go.Sort Go.Proofs

set_option maxRecDepth 100000 in
set_option maxHeartbeats 4000000 in
theorem RoadNormals_walk (pa : Option Addr) (pn pc : Nat) (ca : Option Addr) (cn cc : Nat) (ja : Option Addr) (jn jc : Nat) (R : Road) (w : World) (h : RD w w.heap.size pa pn ca cn ja jn R) :
    Calls Try.prog 9 #[.agg #[.slice pa pn pc, .slice ca cn cc, .slice ja jn jc]] w fun e w' => e = .returned (.bool true) ∧ Below w.heap.size w w' := by
  have hR := Lib.hid h
  have hpl := Lib.hid h.p.1
  clear h
  go_enter Try.func9, Try.ntmps9
  go_wp2_with fail
  obtain ⟨W0, hW0⟩ : ∃ W0, W0 = w.alloc (.cells #[.slice pa pn pc, .slice ca cn cc, .slice ja jn jc] 26) := ⟨_, rfl⟩
  have hB0 : Below w.heap.size w W0 := by rw [hW0]; exact (Below.refl w.heap.size w).alloc (Nat.le_refl _) _
  have hX0 : BK W0 w.heap.size 26 #[.slice pa pn pc, .slice ca cn cc, .slice ja jn jc] := by rw [hW0]; exact BK.new w _ _
  rw [← hW0]
  clear hW0
  refine (small_any pa pn pc ca cn cc ja jn jc R W0 (hR.out.grow hB0 hB0.size)).mono ?_
  rintro e W1 ⟨rfl, hk0⟩
  have hB1 := hB0.trans (hk0.mono hB0.size)
  have hX1 := hX0.below hk0 hX0.lt
  cases hs : sml R
  · have X_0 := hX1.cell 0
    have X_1 := hX1.cell 1
    have X_2 := hX1.cell 2
    simp only [List.getElem?_toArray, List.getElem?_cons_zero, List.getElem?_cons_succ] at X_0 X_1 X_2
    go_wp2_with fail
    clear X_0 X_1 X_2
    refine (known_any W1).mono ?_
    rintro e W2 ⟨rfl, hk1⟩
    have hB2 := hB1.trans (hk1.mono hB1.size)
    have hX2 := hX1.below hk1 hX1.lt
    have X_0 := hX2.cell 0
    have X_1 := hX2.cell 1
    have X_2 := hX2.cell 2
    simp only [List.getElem?_toArray, List.getElem?_cons_zero, List.getElem?_cons_succ] at X_0 X_1 X_2
    go_wp2_with fail
    clear X_0 X_1 X_2
    go_ret
    exact ⟨rfl, hB2⟩
  have HS := Lib.hid hs
  clear hs
  have X_0 := hX1.cell 0
  have X_1 := hX1.cell 1
  have X_2 := hX1.cell 2
  simp only [List.getElem?_toArray, List.getElem?_cons_zero, List.getElem?_cons_succ] at X_0 X_1 X_2
  go_wp2_with fail
  clear X_0 X_1 X_2
  refine (Valid_any pa pn pc ca cn cc ja jn jc R W1 (hR.out.grow hB1 hB1.size)).mono ?_
  rintro e W2 ⟨rfl, hk1⟩
  have hB2 := hB1.trans (hk1.mono hB1.size)
  have hX2 := hX1.below hk1 hX1.lt
  cases hv : val R
  · have X_0 := hX2.cell 0
    have X_1 := hX2.cell 1
    have X_2 := hX2.cell 2
    simp only [List.getElem?_toArray, List.getElem?_cons_zero, List.getElem?_cons_succ] at X_0 X_1 X_2
    go_wp2_with fail
    clear X_0 X_1 X_2
    refine (known_any W2).mono ?_
    rintro e W3 ⟨rfl, hk2⟩
    have hB3 := hB2.trans (hk2.mono hB2.size)
    have hX3 := hX2.below hk2 hX2.lt
    have X_0 := hX3.cell 0
    have X_1 := hX3.cell 1
    have X_2 := hX3.cell 2
    simp only [List.getElem?_toArray, List.getElem?_cons_zero, List.getElem?_cons_succ] at X_0 X_1 X_2
    go_wp2_with fail
    clear X_0 X_1 X_2
    go_ret
    exact ⟨rfl, hB3⟩
  have hok := (val_iff R).1 hv
  have hv' := Lib.hid hok
  have hn1 := hok.n1
  have hp2 := hok.p2
  have hpn : pn ≤ 2000 := by rw [hpl.out]; exact hp2
  have hln := hok.len
  clear hv hok
  have hmo : Try.prog.follows .mixedOrders = true := by kernel_rfl
  have X_0 := hX2.cell 0
  have X_1 := hX2.cell 1
  have X_2 := hX2.cell 2
  simp only [List.getElem?_toArray, List.getElem?_cons_zero, List.getElem?_cons_succ] at X_0 X_1 X_2
  go_wp2_with fail
  clear X_0 X_1 X_2
  refine (Normal_in pa pn pc ca cn cc ja jn jc R W2 (hR.out.grow hB2 hB2.size) hv'.out).mono ?_
  rintro e W3 ⟨pa2, pn2, pc2, ca2, cc2, ja2, jc2, rfl, ⟨o1, o2, o3⟩, hk2⟩
  have hB3 := hB2.trans (hk2.mono hB2.size)
  have hX3 := hX2.below hk2 hX2.lt
  have hlv := normR_ok hv'.out
  have HLV := Lib.hid hlv
  have hp22 : pn2 ≤ 2000 := by rw [show pn2 = (normR R).ps.length from o1.2]; exact hlv.p2
  have hcn : cn ≤ 1000 := by rw [show cn = (normR R).cs.length from o2.2]; exact hlv.c1
  have hjn : jn ≤ 200 := by rw [show jn = (normR R).js.length from o3.2]; exact hlv.j1
  have hR2 : RD W3 W3.heap.size pa2 pn2 ca2 cn ja2 jn (normR R) := ⟨o1.sl pC_len, o2.sl cC_len, o3.sl jC_len⟩
  have HR2 := Lib.hid hR2
  have HO1 := Lib.hid o1.2
  have hlx := hX3.lt
  clear hR2 o1 o2 o3 hlv
  have X_0 := hX3.cell 0
  have X_1 := hX3.cell 1
  have X_2 := hX3.cell 2
  simp only [List.getElem?_toArray, List.getElem?_cons_zero, List.getElem?_cons_succ] at X_0 X_1 X_2
  go_wp2_with fail
  clear X_0 X_1 X_2
  obtain ⟨W4, hW4⟩ : ∃ W', W' = W3.alloc (.cells #[.slice pa2 pn2 pc2, .slice ca2 cn cc2, .slice ja2 jn jc2] 26) := ⟨_, rfl⟩
  have hk3 : Below W3.heap.size W3 W4 := by rw [hW4]; exact (Below.refl _ _).alloc (Nat.le_refl _) _
  have HZX : BK W4 W3.heap.size 26 #[.slice pa2 pn2 pc2, .slice ca2 cn cc2, .slice ja2 jn jc2] := by rw [hW4]; exact BK.new _ _ _
  rw [← hW4]
  clear hW4
  have hB4 := hB3.trans (hk3.mono hB3.size)
  have hX4 := hX3.below hk3 hX3.lt
  have HZN : Hid (BK W4 W3.heap.size 26 #[.slice pa2 pn2 pc2, .slice ca2 cn cc2, .slice ja2 jn jc2]) := HZX
  have hZ4 := HZN.out
  have HR2 := Lib.hid (HR2.out.grow hk3 hk3.size)
  have HN1 := Lib.hid (fun q (hq : q ∈ R.ps) => (pOk_len (hv'.out.pk q hq)).1)
  clear HZX
  have X_0 := hX4.cell 0
  have X_1 := hX4.cell 1
  have X_2 := hX4.cell 2
  have Z_0 := hZ4.cell 0
  have Z_1 := hZ4.cell 1
  have Z_2 := hZ4.cell 2
  simp only [List.getElem?_toArray, List.getElem?_cons_zero, List.getElem?_cons_succ] at X_0 X_1 X_2 Z_0 Z_1 Z_2
  go_wp2_with fail
  clear X_0 X_1 X_2 Z_0 Z_1 Z_2
  refine (Normal_in pa2 pn2 pc2 ca2 cn cc2 ja2 jn jc2 (normR R) W4 HR2.out HLV.out).mono ?_
  rintro e W5 ⟨pa3, pn3, pc3, ca3, cc3, ja3, jc3, rfl, ⟨o1, o2, o3⟩, hk4⟩
  have HR2 := Lib.hid (HR2.out.grow hk4 hk4.size)
  have hB5 := hB4.trans (hk4.mono hB4.size)
  have hX5 := hX4.below hk4 hX4.lt
  have hZ5 := hZ4.below hk4 hZ4.lt
  have hnn : normP (normR R).ps = normP R.ps := norm_norm HN1.out
  rw [hnn] at o1
  have hp3 : pn3 = pn2 := by rw [o1.2, HO1.out]
  subst hp3
  have hR3 : RD W5 W5.heap.size pa3 pn3 ca3 cn ja3 jn (normR R) := ⟨o1.sl pC_len, o2.sl cC_len, o3.sl jC_len⟩
  have HR3 := Lib.hid hR3
  have hlz := hZ5.lt
  clear hR3 o1 o2 o3 hnn
  have X_0 := hX5.cell 0
  have X_1 := hX5.cell 1
  have X_2 := hX5.cell 2
  have Z_0 := hZ5.cell 0
  have Z_1 := hZ5.cell 1
  have Z_2 := hZ5.cell 2
  simp only [List.getElem?_toArray, List.getElem?_cons_zero, List.getElem?_cons_succ] at X_0 X_1 X_2 Z_0 Z_1 Z_2
  go_wp2_with fail
  clear X_0 X_1 X_2 Z_0 Z_1 Z_2
  obtain ⟨W6, hW6⟩ : ∃ W', W' = W5.alloc (.cells #[.slice pa3 pn3 pc3, .slice ca3 cn cc3, .slice ja3 jn jc3] 26) := ⟨_, rfl⟩
  have hk5 : Below W5.heap.size W5 W6 := by rw [hW6]; exact (Below.refl _ _).alloc (Nat.le_refl _) _
  have HZX : BK W6 W5.heap.size 26 #[.slice pa3 pn3 pc3, .slice ca3 cn cc3, .slice ja3 jn jc3] := by rw [hW6]; exact BK.new _ _ _
  rw [← hW6]
  clear hW6
  have hB6 := hB5.trans (hk5.mono hB5.size)
  have hX6 := hX5.below hk5 hX5.lt
  have hZ6 := hZ5.below hk5 hZ5.lt
  have HUN : Hid (BK W6 W5.heap.size 26 #[.slice pa3 pn3 pc3, .slice ca3 cn cc3, .slice ja3 jn jc3]) := HZX
  have hU6 := HUN.out
  have HR2 := Lib.hid (HR2.out.grow hk5 hk5.size)
  have HR3 := Lib.hid (HR3.out.grow hk5 hk5.size)
  clear HZX
  obtain ⟨Wc, hWc⟩ : ∃ Wc, Wc = W6 := ⟨_, rfl⟩
  rw [← hWc] at hB6 hX6 hZ6 hU6 HR2 HR3 ⊢
  have hBc := hB6
  have hXc := hX6
  have hZc := hZ6
  have hUc := hU6
  have hRc := Lib.hid (hR.out.grow hBc hBc.size)
  clear hWc
  have x0 := fun d os => cell_regrown (hXc.cell 0) d os
  have x1 := fun d os => cell_regrown (hXc.cell 1) d os
  have x2 := fun d os => cell_regrown (hXc.cell 2) d os
  have z0 := fun d os => cell_regrown (hZc.cell 0) d os
  have z1 := fun d os => cell_regrown (hZc.cell 1) d os
  have z2 := fun d os => cell_regrown (hZc.cell 2) d os
  have u0 := fun d os => cell_regrown (hUc.cell 0) d os
  have u1 := fun d os => cell_regrown (hUc.cell 1) d os
  have u2 := fun d os => cell_regrown (hUc.cell 2) d os
  go_wp2_with fail
  refine wp_region_ch 25 [9, 10, 13, 16, 19, 21, 23] hmo (by kernel_rfl) ?_
  simp only [List.take_succ_cons, List.take_zero, List.drop_succ_cons, List.drop_zero]
  repeat (refine wpC_q (by decide) (by decide) (fun K hK => ?_); go_simp; refine hK _ ?_; clear hK K)
  refine wpC_cg (ι := Value) 37 #[.agg #[.slice pa pn pc, .slice ca cn cc, .slice ja jn jc]] (fun i => i) (fun i x => ∃ pa4 pc4 ca4 cc4 ja4 jc4, i = .agg #[.slice pa4 pn3 pc4, .slice ca4 cn cc4, .slice ja4 jn jc4] ∧ RD x x.heap.size pa4 pn3 ca4 cn ja4 jn (normR R)) (by decide) (by decide) (by go_simp) (fun w => by go_simp) stable_true (fun i x y ⟨a1, a2, a3, a4, a5, a6, e, hd⟩ hb => ⟨a1, a2, a3, a4, a5, a6, e, hd.grow hb hb.size⟩) (fun W hW _ => ?_) (fun i1 hs1 => ?_)
  · obtain ⟨p, rfl⟩ := hW
    have hb := below_regrown Wc p.d p.os
    refine (RNormal_in pa pn pc ca cn cc ja jn jc R _ (hRc.out.grow hb hb.size) hv'.out).mono ?_
    rintro e w' ⟨pa4, pn4, pc4, ca4, cc4, ja4, jc4, rfl, ⟨o1, o2, o3⟩, hbl⟩
    obtain rfl : pn4 = pn3 := by rw [o1.2, HO1.out]
    exact ⟨_, rfl, ⟨pa4, pc4, ca4, cc4, ja4, jc4, rfl, o1.sl pC_len, o2.sl cC_len, o3.sl jC_len⟩, hbl⟩
  repeat (refine wpC_q (by decide) (by decide) (fun K hK => ?_); go_simp; refine hK _ ?_; clear hK K)
  refine wpC_cg (ι := Unit) 36 #[.agg #[.slice pa2 pn3 pc2, .slice ca2 cn cc2, .slice ja2 jn jc2], i1] (fun _ => .bool true) (fun _ _ => True) (by decide) (by decide) (by go_simp) (fun w => by go_simp) hs1 (fun _ => stable_true) (fun W hW hΦ => ?_) (fun i2 hs2 => ?_)
  · obtain ⟨p, rfl⟩ := hW
    have hb := below_regrown Wc p.d p.os
    obtain ⟨-, pa4, pc4, ca4, cc4, ja4, jc4, rfl, hd⟩ := hΦ
    refine (rSame_true pa2 pn3 pc2 ca2 cn cc2 ja2 jn jc2 pa4 pc4 ca4 cc4 ja4 jc4 (normR R) _ (HR2.out.grow hb hb.size) hd (by omega) (by omega) (by omega)).mono ?_
    rintro e w' ⟨rfl, hbl⟩
    exact ⟨(), rfl, trivial, hbl⟩
  repeat (refine wpC_q (by decide) (by decide) (fun K hK => ?_); go_simp; refine hK _ ?_; clear hK K)
  refine wpC_v (ι := Unit) (fun _ => .bool false) (fun _ _ => True) (by decide) (by decide) rfl hs2 (fun _ => stable_true) (fun W _ _ => ⟨(), W, by go_simp, trivial, Below.refl _ _⟩) (fun i3 hs3 => ?_)
  repeat (refine wpC_q (by decide) (by decide) (fun K hK => ?_); go_simp; refine hK _ ?_; clear hK K)
  refine wpC_cg (ι := Unit) 36 #[.agg #[.slice pa3 pn3 pc3, .slice ca3 cn cc3, .slice ja3 jn jc3], .agg #[.slice pa2 pn3 pc2, .slice ca2 cn cc2, .slice ja2 jn jc2]] (fun _ => .bool true) (fun _ _ => True) (by decide) (by decide) (by go_simp) (fun w => by go_simp) hs3 (fun _ => stable_true) (fun W hW hΦ => ?_) (fun i4 hs4 => ?_)
  · obtain ⟨p, rfl⟩ := hW
    have hb := below_regrown Wc p.d p.os
    refine (rSame_true pa3 pn3 pc3 ca3 cn cc3 ja3 jn jc3 pa2 pc2 ca2 cc2 ja2 jc2 (normR R) _ (HR3.out.grow hb hb.size) (HR2.out.grow hb hb.size) (by omega) (by omega) (by omega)).mono ?_
    rintro e w' ⟨rfl, hbl⟩
    exact ⟨(), rfl, trivial, hbl⟩
  repeat (refine wpC_q (by decide) (by decide) (fun K hK => ?_); go_simp; refine hK _ ?_; clear hK K)
  refine wpC_v (ι := Unit) (fun _ => .bool false) (fun _ _ => True) (by decide) (by decide) rfl hs4 (fun _ => stable_true) (fun W _ _ => ⟨(), W, by go_simp, trivial, Below.refl _ _⟩) (fun i5 hs5 => ?_)
  repeat (refine wpC_q (by decide) (by decide) (fun K hK => ?_); go_simp; refine hK _ ?_; clear hK K)
  refine wpC_cg (ι := Unit) 22 #[.agg #[.slice pa2 pn3 pc2, .slice ca2 cn cc2, .slice ja2 jn jc2]] (fun _ => .int .i64 (sumL R.ps)) (fun _ _ => True) (by decide) (by decide) (by go_simp) (fun w => by go_simp) hs5 (fun _ => stable_true) (fun W hW hΦ => ?_) (fun i6 hs6 => ?_)
  · obtain ⟨p, rfl⟩ := hW
    have hb := below_regrown Wc p.d p.os
    refine (rLength_any pa2 pn3 pc2 ca2 cn cc2 ja2 jn jc2 (normR R) _ (HR2.out.grow hb hb.size) HLV.out.pk (by omega)).mono ?_
    rintro e w' ⟨rfl, hbl⟩
    exact ⟨(), by rw [show sumL (normR R).ps = sumL R.ps from norm_sum HN1.out], trivial, hbl⟩
  repeat (refine wpC_q (by decide) (by decide) (fun K hK => ?_); go_simp; refine hK _ ?_; clear hK K)
  refine wpC_cg (ι := Unit) 22 #[.agg #[.slice pa pn pc, .slice ca cn cc, .slice ja jn jc]] (fun _ => .int .i64 (sumL R.ps)) (fun _ _ => True) (by decide) (by decide) (by go_simp) (fun w => by go_simp) hs6 (fun _ => stable_true) (fun W hW hΦ => ?_) (fun i7 hs7 => ?_)
  · obtain ⟨p, rfl⟩ := hW
    have hb := below_regrown Wc p.d p.os
    refine (rLength_any pa pn pc ca cn cc ja jn jc R _ (hRc.out.grow hb hb.size) hv'.out.pk (by omega)).mono ?_
    rintro e w' ⟨rfl, hbl⟩
    exact ⟨(), rfl, trivial, hbl⟩
  repeat (refine wpC_q (by decide) (by decide) (fun K hK => ?_); go_simp; refine hK _ ?_; clear hK K)
  refine wpC_nil ?_
  intro Wd hbd _
  clear x0 x1 x2 z0 z1 z2 u0 u1 u2 hs1 hs2 hs3 hs4 hs5 hs6 hs7
  have hBd := hBc.trans (hbd.mono hBc.size)
  have hzd := hBd.size
  obtain ⟨N, hN⟩ : ∃ N, N = sumL R.ps := ⟨_, rfl⟩
  have HN := Lib.hid hN
  rw [← hN] at hln
  go_wp2_with fail
  go_loopw [7] (fun i wr => ∃ k : Nat, (k : Int) ≤ N ∧ i = .int .i64 k ∧ Below Wd.heap.size Wd wr)
    (fun i _ => N.toNat - (intOf i).toNat)
  case atStart => exact ⟨0, by omega, rfl, Below.refl _ _⟩
  case round =>
    obtain ⟨k, hk, rfl, hbr⟩ := hrel
    have hbcr := hbd.trans (hbr.mono hbd.size)
    have hBr := hBc.trans (hbcr.mono hBc.size)
    have hXr := hXc.below hbcr hXc.lt
    have hZr := hZc.below hbcr hZc.lt
    have x0 := hXr.cell 0
    have x1 := hXr.cell 1
    have x2 := hXr.cell 2
    simp only [List.getElem?_toArray, List.getElem?_cons_zero, List.getElem?_cons_succ] at x0 x1 x2
    go_wp2_with fail
    refine (rLength_any pa pn pc ca cn cc ja jn jc R _ (hRc.out.grow hbcr hbcr.size) hv'.out.pk (by omega)).mono ?_
    rintro e We ⟨rfl, hbe⟩
    rw [← HN.out]
    clear x0 x1 x2
    have hbce := hbcr.trans (hbe.mono hbcr.size)
    have hBe := hBc.trans (hbce.mono hBc.size)
    have hXe := hXc.below hbce hXc.lt
    have hZe := hZc.below hbce hZc.lt
    by_cases hlt : (k : Int) < N
    · have hk0 : (0 : Int) ≤ (k : Int) := by omega
      obtain ⟨j, hj⟩ := At.exists_ hv'.out.pk hk0 (hN ▸ hlt)
      obtain ⟨j2, hj2⟩ := At.exists_ HLV.out.pk hk0 (show (k : Int) < sumL (normR R).ps by rw [show sumL (normR R).ps = sumL R.ps from norm_sum HN1.out, ← hN]; exact hlt)
      obtain ⟨p, hp⟩ : ∃ p, R.ps[j]? = some p := ⟨_, List.getElem?_eq_getElem hj.1⟩
      obtain ⟨q, hq⟩ : ∃ q, (normR R).ps[j2]? = some q := ⟨_, List.getElem?_eq_getElem hj2.1⟩
      have hone := norm_at HN1.out hk0 hj hp hj2 hq
      obtain ⟨pl, pt, pr, pw, psu⟩ := p
      obtain ⟨ql, qt, qr, qw, qs⟩ := q
      simp only [one, Piece.mk.injEq, true_and] at hone
      obtain ⟨rfl, rfl, rfl, rfl⟩ := hone
      have HJ := Lib.hid (And.intro hj hp)
      have HJ2 := Lib.hid (And.intro hj2 hq)
      clear hj hj2 hp hq
      have x0 := fun d os => cell_regrown (hXe.cell 0) d os
      have x1 := fun d os => cell_regrown (hXe.cell 1) d os
      have x2 := fun d os => cell_regrown (hXe.cell 2) d os
      have z0 := fun d os => cell_regrown (hZe.cell 0) d os
      have z1 := fun d os => cell_regrown (hZe.cell 1) d os
      have z2 := fun d os => cell_regrown (hZe.cell 2) d os
      go_wp2_with fail
      refine wp_region_chaa 8 6 7 [2, 5] 52 52 #[.int .i64 0, .int .i64 0, .int .i64 0, .int .i64 0, .int .i64 0] #[.int .i64 0, .int .i64 0, .int .i64 0, .int .i64 0, .int .i64 0] 8 9 _ _ hmo (by decide) (by decide) (by decide) (by decide) rfl rfl rfl (fun a w => rfl) rfl rfl rfl (fun a w => rfl) (by kernel_rfl) ?_
      simp only [List.take_succ_cons, List.take_zero, List.drop_succ_cons, List.drop_zero]
      repeat (refine wpC_q (by decide) (by decide) (fun K hK => ?_); go_simp; refine hK _ ?_; clear hK K)
      refine wpC_c (ι := Unit) 30 #[.agg #[.slice pa pn pc, .slice ca cn cc, .slice ja jn jc], .int .i64 k] (fun _ => .agg #[.int .i64 pl, .int .i64 qt, .int .i64 qr, .int .i64 qw, .int .i64 qs]) (fun _ _ => True) (by decide) (by decide) rfl (fun w => by go_simp) stable_true (fun _ => stable_true) (fun W hW hΦ => ?_) (fun i1 hs1 => ?_)
      · obtain ⟨pp, rfl⟩ := hW
        have hb := below_regrown We pp.d pp.os
        have hb' := hbce.trans (hb.mono hbce.size)
        refine (rAt_in k j pa pn pc ca cn cc ja jn jc R _ (hRc.out.grow hb' hb'.size) hv'.out.pk (by omega) HJ.out.1 _ HJ.out.2).mono ?_
        rintro e w' ⟨rfl, hbl⟩
        exact ⟨(), rfl, trivial, hbl⟩
      repeat (refine wpC_q (by decide) (by decide) (fun K hK => ?_); go_simp; refine hK _ ?_; clear hK K)
      refine wpC_c (ι := Unit) 30 #[.agg #[.slice pa2 pn3 pc2, .slice ca2 cn cc2, .slice ja2 jn jc2], .int .i64 k] (fun _ => .agg #[.int .i64 ql, .int .i64 qt, .int .i64 qr, .int .i64 qw, .int .i64 qs]) (fun _ _ => True) (by decide) (by decide) rfl (fun w => by go_simp) hs1 (fun _ => stable_true) (fun W hW hΦ => ?_) (fun i2 hs2 => ?_)
      · obtain ⟨pp, rfl⟩ := hW
        have hb := below_regrown We pp.d pp.os
        have hb' := hbce.trans (hb.mono hbce.size)
        refine (rAt_in k j2 pa2 pn3 pc2 ca2 cn cc2 ja2 jn jc2 (normR R) _ (HR2.out.grow hb' hb'.size) HLV.out.pk (by omega) HJ2.out.1 _ HJ2.out.2).mono ?_
        rintro e w' ⟨rfl, hbl⟩
        exact ⟨(), rfl, trivial, hbl⟩
      repeat (refine wpC_q (by decide) (by decide) (fun K hK => ?_); go_simp; refine hK _ ?_; clear hK K)
      refine wpC_a (by decide) ?_
      refine wpC_a (by decide) ?_
      refine wpC_nil ?_
      intro b1 b2 Wf hbf _ hg1 hg2 hne K1 K2
      clear x0 x1 x2 z0 z1 z2 hs1 hs2
      have hbcf := hbce.trans (hbf.mono hbce.size)
      have hdf : Below Wd.heap.size Wd Wf := (hbr.trans (hbe.mono hbr.size)).trans (hbf.mono (by have := hbr.size; have := hbe.size; omega))
      have hzb1 : Wd.heap.size ≤ b1 := by have := hbr.size; have := hbe.size; omega
      have hzb2 : Wd.heap.size ≤ b2 := by have := hbr.size; have := hbe.size; omega
      have hne' : ¬ b1 = b2 := hne
      have hne2 : ¬ b2 = b1 := fun e => hne e.symm
      have f1 := K1.frozen
      have f2 := K2.frozen
      have l1 := K1.lt
      have l2 := K2.lt
      have s0 := K1.cell 0
      have s1 := K1.cell 1
      have s2 := K1.cell 2
      have s3 := K1.cell 3
      have s4 := K1.cell 4
      have r0 := K2.cell 0
      have r1 := K2.cell 1
      have r2 := K2.cell 2
      have r3 := K2.cell 3
      have r4 := K2.cell 4
      simp only [List.getElem?_toArray, List.getElem?_cons_zero, List.getElem?_cons_succ] at s0 s1 s2 s3 s4 r0 r1 r2 r3 r4
      go_upto_region 11 with fail
      obtain ⟨Wg, hWg⟩ : ∃ Wg, Wg = (((((((((Wf.setCell ⟨b1, 0, none⟩ (.int .i64 pl)).setCell ⟨b1, 1, none⟩ (.int .i64 qt)).setCell ⟨b1, 2, none⟩ (.int .i64 qr)).setCell ⟨b1, 3, none⟩ (.int .i64 qw)).setCell ⟨b1, 4, none⟩ (.int .i64 qs)).setCell ⟨b2, 0, none⟩ (.int .i64 ql)).setCell ⟨b2, 1, none⟩ (.int .i64 qt)).setCell ⟨b2, 2, none⟩ (.int .i64 qr)).setCell ⟨b2, 3, none⟩ (.int .i64 qw)).setCell ⟨b2, 4, none⟩ (.int .i64 qs) := ⟨_, rfl⟩
      have G1 : BK Wg b1 52 #[.int .i64 pl, .int .i64 qt, .int .i64 qr, .int .i64 qw, .int .i64 qs] := by
        rw [hWg]
        exact (((((((((K1.set_ 0 _).set_ 1 _).set_ 2 _).set_ 3 _).set_ 4 _).far (p := ⟨b2, 0, none⟩) hne _).far (p := ⟨b2, 1, none⟩) hne _).far (p := ⟨b2, 2, none⟩) hne _).far (p := ⟨b2, 3, none⟩) hne _).far (p := ⟨b2, 4, none⟩) hne _
      have G2 : BK Wg b2 52 #[.int .i64 ql, .int .i64 qt, .int .i64 qr, .int .i64 qw, .int .i64 qs] := by
        rw [hWg]
        exact (((((((((K2.far (p := ⟨b1, 0, none⟩) hne.symm _).far (p := ⟨b1, 1, none⟩) hne.symm _).far (p := ⟨b1, 2, none⟩) hne.symm _).far (p := ⟨b1, 3, none⟩) hne.symm _).far (p := ⟨b1, 4, none⟩) hne.symm _).set_ 0 _).set_ 1 _).set_ 2 _).set_ 3 _).set_ 4 _
      have hdg : Below Wd.heap.size Wd Wg := by
        rw [hWg]
        exact (((((((((hdf.setCell hzb1 _).setCell hzb1 _).setCell hzb1 _).setCell hzb1 _).setCell hzb1 _).setCell hzb2 _).setCell hzb2 _).setCell hzb2 _).setCell hzb2 _).setCell hzb2 _
      rw [← hWg]
      clear hWg s0 s1 s2 s3 s4 r0 r1 r2 r3 r4 f1 f2 l1 l2 hdf K1 K2
      have s0 := G1.cell 0
      have s1 := G1.cell 1
      have s2 := G1.cell 2
      have s3 := G1.cell 3
      have s4 := G1.cell 4
      have r0 := G2.cell 0
      have r1 := G2.cell 1
      have r2 := G2.cell 2
      have r3 := G2.cell 3
      have r4 := G2.cell 4
      simp only [List.getElem?_toArray, List.getElem?_cons_zero, List.getElem?_cons_succ] at s0 s1 s2 s3 s4 r0 r1 r2 r3 r4
      have f1 := G1.frozen
      have f2 := G2.frozen
      have l1 := G1.lt
      have l2 := G2.lt
      go_wp2_with fail
      go_roundw
      case rel => exact ⟨k + 1, by omega, by go_num, (hdg.setCell hzb1 _).setCell hzb2 _⟩
      case measure => simp [intOf]; omega
    · obtain hkN : (k : Int) = N := by omega
      go_wp2_with fail
      refine (known_any We).mono ?_
      rintro e W9 ⟨rfl, hk9⟩
      go_wp2_with fail
      go_ret
      exact ⟨rfl, hBe.trans (hk9.mono hBe.size)⟩

end Go.Proofs.Ytomloklckpcaiaa
