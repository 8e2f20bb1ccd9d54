/- The document's Safer of two surveys of the same length. -/
import Derived.Test.YtomloklckpcaiaaZMr2
import Derived.Test.YtomloklckpcaiaaZRSame
import Derived.Test.YtomloklckpcaiaaZPcs
namespace Go.Proofs.Ytomloklckpcaiaa
open Go.RowKit Go.Shelf Go.Sort Go.Proofs
theorem JB.appJS {tR tP tC tJ : TypeId} {base : Nat} {w w' : World} {tb : Nat} {A1 : Option Addr} {n1 c1 : Nat} {ps : List Piece} {A2 : Option Addr} {n2 c2 : Nat} {cs : List Crest} {A3 : Option Addr} {n3 c3 : Nat} {js : List Junc}
    (h : JB tR tP tC tJ base w tb A1 n1 c1 ps A2 n2 c2 cs A3 n3 c3 js) (hRJ : tJ ≠ tR) (hPJ : tJ ≠ tP) (hCJ : tJ ≠ tC) (hPR : tP ≠ tR) (hCR : tC ≠ tR) {ys : List Junc} {m : Nat} {A' : Option Addr} {c' : Nat} (hap : AppS jC 3 tJ base w A3 n3 c3 m js ys A' c' w') :
    JB tR tP tC tJ base (w'.setCell ⟨tb, 2, none⟩ (.slice A' (n3 + m) c')) tb A1 n1 c1 ps A2 n2 c2 cs A' (n3 + m) c' (js ++ ys) := by
  have hb1 : BK w' tb tR #[.slice A1 n1 c1, .slice A2 n2 c2, .slice A3 n3 c3] := h.b.same (hap.far tb h.b.lt (fun b hb => BK.ne_row (.inr ⟨_, h.b⟩) h.j hRJ hb))
  have hp1 : OW pC 5 tP base w' A1 n1 c1 ps := h.p.keep fun a ha => hap.far _ (h.p.lt ha).2 (fun b hb e => h.j.ne h.p hPJ hb ha e)
  have hc1 : OW cC 2 tC base w' A2 n2 c2 cs := h.c.keep fun a ha => hap.far _ (h.c.lt ha).2 (fun b hb e => h.j.ne h.c hCJ hb ha e)
  exact ⟨hb1.set_ 2 _, hp1.setCell (fun a ha => BK.ne_row (.inr ⟨_, hb1⟩) hp1 hPR ha) _, hc1.setCell (fun a ha => BK.ne_row (.inr ⟨_, hb1⟩) hc1 hCR ha) _, hap.own.setCell (fun a ha => BK.ne_row (.inr ⟨_, hb1⟩) hap.own hRJ ha) _⟩
theorem JB.appCS {tR tP tC tJ : TypeId} {base : Nat} {w w' : World} {tb : Nat} {A1 : Option Addr} {n1 c1 : Nat} {ps : List Piece} {A2 : Option Addr} {n2 c2 : Nat} {cs : List Crest} {A3 : Option Addr} {n3 c3 : Nat} {js : List Junc}
    (h : JB tR tP tC tJ base w tb A1 n1 c1 ps A2 n2 c2 cs A3 n3 c3 js) (hRC : tC ≠ tR) (hPC : tC ≠ tP) (hJC : tC ≠ tJ) (hPR : tP ≠ tR) (hJR : tJ ≠ tR) {ys : List Crest} {m : Nat} {A' : Option Addr} {c' : Nat} (hap : AppS cC 2 tC base w A2 n2 c2 m cs ys A' c' w') :
    JB tR tP tC tJ base (w'.setCell ⟨tb, 1, none⟩ (.slice A' (n2 + m) c')) tb A1 n1 c1 ps A' (n2 + m) c' (cs ++ ys) A3 n3 c3 js := by
  have hb1 : BK w' tb tR #[.slice A1 n1 c1, .slice A2 n2 c2, .slice A3 n3 c3] := h.b.same (hap.far tb h.b.lt (fun b hb => BK.ne_row (.inr ⟨_, h.b⟩) h.c hRC hb))
  have hp1 : OW pC 5 tP base w' A1 n1 c1 ps := h.p.keep fun a ha => hap.far _ (h.p.lt ha).2 (fun b hb e => h.c.ne h.p hPC hb ha e)
  have hj1 : OW jC 3 tJ base w' A3 n3 c3 js := h.j.keep fun a ha => hap.far _ (h.j.lt ha).2 (fun b hb e => h.c.ne h.j hJC hb ha e)
  exact ⟨hb1.set_ 1 _, hp1.setCell (fun a ha => BK.ne_row (.inr ⟨_, hb1⟩) hp1 hPR ha) _, hap.own.setCell (fun a ha => BK.ne_row (.inr ⟨_, hb1⟩) hap.own hRC ha) _, hj1.setCell (fun a ha => BK.ne_row (.inr ⟨_, hb1⟩) hj1 hJR ha) _⟩
set_option maxRecDepth 100000 in
set_option maxHeartbeats 8000000 in
theorem rSafer_in (pa : Option Addr) (pn pc : Nat) (ca : Option Addr) (cn cc : Nat) (ja : Option Addr) (jn jc : Nat) (R : Road) (pa2 : Option Addr) (pn2 pc2 : Nat) (ca2 : Option Addr) (cn2 cc2 : Nat) (ja2 : Option Addr) (jn2 jc2 : Nat) (R2 : Road) (w : World)
    (h : RD w w.heap.size pa pn ca cn ja jn R) (h2 : RD w w.heap.size pa2 pn2 ca2 cn2 ja2 jn2 R2) (hv : OK R) (hv2 : OK R2) (hs : sumL R.ps = sumL R2.ps) (hsm : sumL R.ps ≤ 2000) :
    Calls Try.prog 47 #[.agg #[.slice pa pn pc, .slice ca cn cc, .slice ja jn jc], .agg #[.slice pa2 pn2 pc2, .slice ca2 cn2 cc2, .slice ja2 jn2 jc2]] w fun e w' =>
      ((rfM (units R.ps) (units R2.ps) (sumL R.ps).toNat = none → e = .returned (.tuple #[.agg #[.slice none 0 0, .slice none 0 0, .slice none 0 0], .int .i64 5])) ∧ (∀ L, rfM (units R.ps) (units R2.ps) (sumL R.ps).toNat = some L → mr2g (fun x : Junc => x.pos) okJ R.js R2.js = false → e = .returned (.tuple #[.agg #[.slice none 0 0, .slice none 0 0, .slice none 0 0], .int .i64 5])) ∧
       (∀ L, rfM (units R.ps) (units R2.ps) (sumL R.ps).toNat = some L → mr2g (fun x : Junc => x.pos) okJ R.js R2.js = true → ∃ A1 n1 c1 A2 n2 c2 A3 n3 c3, e = .returned (boundV A1 n1 c1 A2 n2 c2 A3 n3 c3 ⟨normP L, mr2 (fun x : Crest => x.pos) bothC R.cs R2.cs, mr2 (fun x : Junc => x.pos) bothJ R.js R2.js⟩) ∧
         (OW pC 5 52 w.heap.size w' A1 n1 c1 (normP L) ∧ OW cC 2 87 w.heap.size w' A2 n2 c2 (mr2 (fun x : Crest => x.pos) bothC R.cs R2.cs) ∧ OW jC 3 89 w.heap.size w' A3 n3 c3 (mr2 (fun x : Junc => x.pos) bothJ R.js R2.js)))) ∧ Below w.heap.size w w' := by
  have hR := Lib.hid h
  have hR2 := Lib.hid h2
  have hv' := Lib.hid hv
  have hv2' := Lib.hid hv2
  have hs' := Lib.hid hs
  have hpn : pn ≤ 2000 := by rw [h.p.1]; exact hv.p2
  have hpn2 : pn2 ≤ 2000 := by rw [h2.p.1]; exact hv2.p2
  have hmo : Try.prog.follows .mixedOrders = true := by kernel_rfl
  have hln := hv.len
  obtain ⟨N, hN⟩ : ∃ N : Nat, sumL R.ps = N := ⟨(sumL R.ps).toNat, by omega⟩
  have hN2 : N ≤ 2000 := by omega
  have hNt : (sumL R.ps).toNat = N := by rw [hN]; simp
  rw [hNt]
  clear h h2 hv hv2 hs hsm hln hNt
  obtain ⟨w0, hw0⟩ : ∃ w0, w0 = ((w.alloc (.cells #[.slice pa pn pc, .slice ca cn cc, .slice ja jn jc] 26)).alloc (.cells #[.slice pa2 pn2 pc2, .slice ca2 cn2 cc2, .slice ja2 jn2 jc2] 26)).alloc (.cells #[.slice none 0 0, .slice none 0 0, .slice none 0 0] 26) := ⟨_, rfl⟩
  have hW0 : Below w.heap.size w w0 := by rw [hw0]; exact (((Below.refl w.heap.size w).alloc (Nat.le_refl _) _).alloc (by simp) _).alloc (by simp <;> omega) _
  have hX0 : BK w0 w.heap.size 26 #[.slice pa pn pc, .slice ca cn cc, .slice ja jn jc] := by rw [hw0]; exact ((BK.new w _ _).alloc _).alloc _
  have hY0 : BK w0 (w.heap.size + 1) 26 #[.slice pa2 pn2 pc2, .slice ca2 cn2 cc2, .slice ja2 jn2 jc2] := by rw [hw0]; have := (BK.new (w.alloc (.cells #[.slice pa pn pc, .slice ca cn cc, .slice ja jn jc] 26)) 26 #[.slice pa2 pn2 pc2, .slice ca2 cn2 cc2, .slice ja2 jn2 jc2]); rw [World.size_alloc] at this; exact this.alloc _
  have hZ0 : BK w0 (w.heap.size + 1 + 1) 26 #[.slice none 0 0, .slice none 0 0, .slice none 0 0] := by rw [hw0]; have := (BK.new ((w.alloc (.cells #[.slice pa pn pc, .slice ca cn cc, .slice ja jn jc] 26)).alloc (.cells #[.slice pa2 pn2 pc2, .slice ca2 cn2 cc2, .slice ja2 jn2 jc2] 26)) 26 #[.slice none 0 0, .slice none 0 0, .slice none 0 0]); rw [World.size_alloc, World.size_alloc] at this; exact this
  go_enter Try.func47, Try.ntmps47
  go_wp2_with fail
  rw [← hw0]
  clear hw0
  have r0 := hX0.cell 0
  have r1 := hX0.cell 1
  have r2 := hX0.cell 2
  simp only [List.getElem?_toArray, List.getElem?_cons_zero, List.getElem?_cons_succ] at r0 r1 r2
  go_wp2_with fail
  clear r0 r1 r2
  refine (rLength_any pa pn pc ca cn cc ja jn jc R _ (hR.out.grow hW0 hW0.size) hv'.out.pk (by omega)).mono ?_
  rintro e w1 ⟨rfl, hk0⟩
  rw [hN]
  have HN := Lib.hid hN
  clear hN
  have hB1 := hW0.trans (hk0.mono hW0.size)
  have hX1 := hX0.below hk0 hX0.lt
  have hY1 := hY0.below hk0 hY0.lt
  have hZ1 := hZ0.below hk0 hZ0.lt
  have hzl := hZ1.lt
  clear hk0 hX0 hY0 hZ0 hW0
  go_wp2_with fail
  obtain ⟨W2, hW2⟩ : ∃ W2, W2 = w1.alloc (.cells #[.slice none 0 0, .slice none 0 0, .slice none 0 0] 26) := ⟨_, rfl⟩
  have hJ2 : JB 26 52 87 89 (w1.heap.size + 1) W2 w1.heap.size none 0 0 [] none 0 0 [] none 0 0 [] := by rw [hW2]; exact ⟨BK.new _ _ _, OW.nil_, OW.nil_, OW.nil_⟩
  have hB2 : Below w1.heap.size w1 W2 := by rw [hW2]; exact (Below.refl _ _).alloc (Nat.le_refl _) _
  rw [← hW2]
  clear hW2
  go_loopw [8] (fun pv wr => ∃ (k : Nat) (L : List Piece) (A1 : Option Addr) (c1 : Nat), pv = .int .i64 k ∧ k ≤ N ∧ Hid (rfM (units R.ps) (units R2.ps) k = some L) ∧ JB 26 52 87 89 (w1.heap.size + 1) wr w1.heap.size A1 k c1 L none 0 0 [] none 0 0 [] ∧ Below w1.heap.size w1 wr)
    (fun pv _ => N - (intOf pv).toNat)
  case atStart => exact ⟨0, [], none, 0, rfl, Nat.zero_le _, Lib.hid rfl, hJ2, hB2⟩
  case round =>
    obtain ⟨k, L, A1, c1, rfl, hkN, HL, hJ, hb⟩ := hrel
    have hz := hb.size
    have hXr := hX1.below hb hX1.lt
    have hYr := hY1.below hb hY1.lt
    have hZr := hZ1.below hb hZ1.lt
    have hBr := hB1.trans (hb.mono hB1.size)
    have HRr := Lib.hid (hR.out.grow hBr hBr.size)
    have HRr2 := Lib.hid (hR2.out.grow hBr hBr.size)
    by_cases hlt : k < N
    · obtain ⟨j, hj⟩ := At.exists_ hv'.out.pk (x := (k : Int)) (by omega) (by rw [HN.out]; omega)
      obtain ⟨j2, hj2⟩ := At.exists_ hv2'.out.pk (x := (k : Int)) (by omega) (by rw [← hs'.out, HN.out]; omega)
      obtain ⟨p, hp⟩ : ∃ p, R.ps[j]? = some p := ⟨_, List.getElem?_eq_getElem hj.1⟩
      obtain ⟨q, hq⟩ : ∃ q, R2.ps[j2]? = some q := ⟨_, List.getElem?_eq_getElem hj2.1⟩
      have HJ := Lib.hid hj
      have HJ2 := Lib.hid hj2
      have HPJ := Lib.hid hp
      have HQJ := Lib.hid hq
      have hnew : Hid (rfM (units R.ps) (units R2.ps) (k + 1) = (sfr p q 1).map fun z => L ++ [z]) := by
        show _ = _
        have a1 := at_units (fun q hq => by have := pOk_len (hv'.out.pk q hq); omega) (by omega : (0 : Int) ≤ (k : Int)) hj hp
        have a2 := at_units (fun q hq => by have := pOk_len (hv2'.out.pk q hq); omega) (by omega : (0 : Int) ≤ (k : Int)) hj2 hq
        rw [Int.toNat_natCast] at a1 a2
        rw [rfM_succ _ _ k a1 a2, HL.out]
        rfl
      clear hj hj2 hp hq
      have x0 := fun d os => cell_regrown (hXr.cell 0) d os
      have x1 := fun d os => cell_regrown (hXr.cell 1) d os
      have x2 := fun d os => cell_regrown (hXr.cell 2) d os
      have y0 := fun d os => cell_regrown (hYr.cell 0) d os
      have y1 := fun d os => cell_regrown (hYr.cell 1) d os
      have y2 := fun d os => cell_regrown (hYr.cell 2) d os
      cases hsf : sfr p q 1 with
      | none =>
        have HSF := Lib.hid hsf
        have hnone : Hid (rfM (units R.ps) (units R2.ps) N = none) := by
          show _ = _
          have h1 : rfM (units R.ps) (units R2.ps) (k + 1) = none := by rw [hnew.out, hsf]; rfl
          rw [show N = (k + 1) + (N - (k + 1)) by omega]
          exact rfM_none _ _ h1 _
        clear hsf
        go_wp2_with fail
        refine wp_region_one 12 10 11 [2, 5, 6] 52 #[.int .i64 0, .int .i64 0, .int .i64 0, .int .i64 0, .int .i64 0] #[.int .i64 0, .int .i64 0, .int .i64 0, .int .i64 0, .int .i64 0] 9 28 (.agg #[.int .i64 0, .int .i64 0, .int .i64 0, .int .i64 0, .int .i64 0]) _ _ hmo (by decide) rfl rfl rfl (fun a w => rfl) rfl rfl rfl (by kernel_rfl) (by kernel_rfl) (fun a w b h1 h2 h3 => (fun d x => store_piece ⟨0, 0, 0, 0, 0⟩ d x) 9 28 a w b h1 h2 h3 _ rfl) (by kernel_rfl) ?_
        simp only [List.take_succ_cons, List.take_zero, List.drop_succ_cons, List.drop_zero]
        repeat (refine wpCG_q (by decide) (by decide) (fun K hK => ?_); go_simp; refine hK _ ?_; clear hK K)
        refine wpCG_c (ι := Unit) 30 #[.agg #[.slice pa pn pc, .slice ca cn cc, .slice ja jn jc], .int .i64 k] (fun _ => .agg #[.int .i64 p.len, .int .i64 p.turn, .int .i64 p.rad, .int .i64 p.wid, .int .i64 p.sur]) (by decide) (by decide) rfl (fun w => by go_simp) (fun _ _ h _ => h) (fun _ _ h _ => h) (fun W hW _ => ?_) (fun i1 => ?_)
        · obtain ⟨pp, rfl⟩ := hW
          have hbp := below_regrown wr pp.d pp.os
          refine (rAt_in k j pa pn pc ca cn cc ja jn jc R _ (HRr.out.grow hbp hbp.size) hv'.out.pk (by omega) HJ.out p HPJ.out).mono ?_
          rintro e w' ⟨rfl, hbl⟩
          exact ⟨(), rfl, hbl⟩
        repeat (refine wpCG_q (by decide) (by decide) (fun K hK => ?_); go_simp; refine hK _ ?_; clear hK K)
        refine wpCG_c (ι := Unit) 30 #[.agg #[.slice pa2 pn2 pc2, .slice ca2 cn2 cc2, .slice ja2 jn2 jc2], .int .i64 k] (fun _ => .agg #[.int .i64 q.len, .int .i64 q.turn, .int .i64 q.rad, .int .i64 q.wid, .int .i64 q.sur]) (by decide) (by decide) rfl (fun w => by go_simp) (fun _ _ h _ => h) (fun _ _ h _ => h) (fun W hW _ => ?_) (fun i2 => ?_)
        · obtain ⟨pp, rfl⟩ := hW
          have hbp := below_regrown wr pp.d pp.os
          refine (rAt_in k j2 pa2 pn2 pc2 ca2 cn2 cc2 ja2 jn2 jc2 R2 _ (HRr2.out.grow hbp hbp.size) hv2'.out.pk (by omega) HJ2.out q HQJ.out).mono ?_
          rintro e w' ⟨rfl, hbl⟩
          exact ⟨(), rfl, hbl⟩
        refine wpCG_c (ι := Unit) 86 #[.agg #[.int .i64 p.len, .int .i64 p.turn, .int .i64 p.rad, .int .i64 p.wid, .int .i64 p.sur], .agg #[.int .i64 q.len, .int .i64 q.turn, .int .i64 q.rad, .int .i64 q.wid, .int .i64 q.sur]] (fun _ => sfrV (sfr p q 1)) (by decide) (by decide) rfl (fun w => by go_simp) (fun _ _ h _ => h) (fun _ _ h _ => h) (fun W hW _ => ?_) (fun i3 => ?_)
        · refine (rsafer_any p q W).mono ?_
          rintro e w' ⟨rfl, hbl⟩
          exact ⟨(), rfl, hbl⟩
        rw [HSF.out]
        simp only [sfrV]
        repeat (refine wpCG_q (by decide) (by decide) (fun K hK => ?_); go_simp; refine hK _ ?_; clear hK K)
        refine wpCG_a (by decide) (fun h => by cases h) ?_
        refine wpCG_a (by decide) (fun _ => ⟨rfl, by simp⟩) ?_
        refine wpCG_nil ?_
        intro tb Wd hk4 _ htb hTB
        have hBd : Below w.heap.size w Wd := hBr.trans (hk4.mono hBr.size)
        have hZd := hZr.below hk4 hZr.lt
        clear x0 x1 x2 y0 y1 y2
        have z0 := hZd.cell 0
        have z1 := hZd.cell 1
        have z2 := hZd.cell 2
        have zf := hZd.frozen
        have zl := hZd.lt
        simp only [List.getElem?_toArray, List.getElem?_cons_zero, List.getElem?_cons_succ] at z0 z1 z2
        obtain ⟨WF, hWF⟩ : ∃ WF, WF = ((Wd.setCell ⟨w.heap.size + 1 + 1, 0, none⟩ (.slice none 0 0)).setCell ⟨w.heap.size + 1 + 1, 1, none⟩ (.slice none 0 0)).setCell ⟨w.heap.size + 1 + 1, 2, none⟩ (.slice none 0 0) := ⟨_, rfl⟩
        have hZF : BK WF (w.heap.size + 1 + 1) 26 #[.slice none 0 0, .slice none 0 0, .slice none 0 0] := by rw [hWF]; exact ((hZd.set_ 0 _).set_ 1 _).set_ 2 _
        have hBF : Below w.heap.size w WF := by rw [hWF]; exact ((hBd.setCell (p := ⟨w.heap.size + 1 + 1, 0, none⟩) (by simp <;> omega) _).setCell (p := ⟨w.heap.size + 1 + 1, 1, none⟩) (by simp <;> omega) _).setCell (p := ⟨w.heap.size + 1 + 1, 2, none⟩) (by simp <;> omega) _
        have HWF := Lib.hid hWF
        clear hWF hZd hBd
        go_wp2_with fail
        rw [← HWF.out]
        clear z0 z1 z2
        have z0 := hZF.cell 0
        have z1 := hZF.cell 1
        have z2 := hZF.cell 2
        simp only [List.getElem?_toArray, List.getElem?_cons_zero, List.getElem?_cons_succ] at z0 z1 z2
        refine bodyPost_ret (v := .tuple #[.agg #[.slice none 0 0, .slice none 0 0, .slice none 0 0], .int .i64 5]) (by simp [results, Try.results47, go_sem, z0, z1, z2]) rfl ⟨⟨fun _ => rfl, fun L' h => absurd (hnone.out.symm.trans h) (by simp), fun L' h => absurd (hnone.out.symm.trans h) (by simp)⟩, hBF⟩
      | some z =>
        have HSF := Lib.hid hsf
        clear hsf
        go_wp2_with fail
        refine wp_region_one 12 10 11 [2, 5, 6] 52 #[.int .i64 0, .int .i64 0, .int .i64 0, .int .i64 0, .int .i64 0] #[.int .i64 z.len, .int .i64 z.turn, .int .i64 z.rad, .int .i64 z.wid, .int .i64 z.sur] 9 28 (.agg #[.int .i64 z.len, .int .i64 z.turn, .int .i64 z.rad, .int .i64 z.wid, .int .i64 z.sur]) _ _ hmo (by decide) rfl rfl rfl (fun a w => rfl) rfl rfl rfl (by kernel_rfl) (by kernel_rfl) (fun a w b h1 h2 h3 => store_piece z 9 28 a w b h1 h2 h3 _ rfl) (by kernel_rfl) ?_
        simp only [List.take_succ_cons, List.take_zero, List.drop_succ_cons, List.drop_zero]
        repeat (refine wpCG_q (by decide) (by decide) (fun K hK => ?_); go_simp; refine hK _ ?_; clear hK K)
        refine wpCG_c (ι := Unit) 30 #[.agg #[.slice pa pn pc, .slice ca cn cc, .slice ja jn jc], .int .i64 k] (fun _ => .agg #[.int .i64 p.len, .int .i64 p.turn, .int .i64 p.rad, .int .i64 p.wid, .int .i64 p.sur]) (by decide) (by decide) rfl (fun w => by go_simp) (fun _ _ h _ => h) (fun _ _ h _ => h) (fun W hW _ => ?_) (fun i1 => ?_)
        · obtain ⟨pp, rfl⟩ := hW
          have hbp := below_regrown wr pp.d pp.os
          refine (rAt_in k j pa pn pc ca cn cc ja jn jc R _ (HRr.out.grow hbp hbp.size) hv'.out.pk (by omega) HJ.out p HPJ.out).mono ?_
          rintro e w' ⟨rfl, hbl⟩
          exact ⟨(), rfl, hbl⟩
        repeat (refine wpCG_q (by decide) (by decide) (fun K hK => ?_); go_simp; refine hK _ ?_; clear hK K)
        refine wpCG_c (ι := Unit) 30 #[.agg #[.slice pa2 pn2 pc2, .slice ca2 cn2 cc2, .slice ja2 jn2 jc2], .int .i64 k] (fun _ => .agg #[.int .i64 q.len, .int .i64 q.turn, .int .i64 q.rad, .int .i64 q.wid, .int .i64 q.sur]) (by decide) (by decide) rfl (fun w => by go_simp) (fun _ _ h _ => h) (fun _ _ h _ => h) (fun W hW _ => ?_) (fun i2 => ?_)
        · obtain ⟨pp, rfl⟩ := hW
          have hbp := below_regrown wr pp.d pp.os
          refine (rAt_in k j2 pa2 pn2 pc2 ca2 cn2 cc2 ja2 jn2 jc2 R2 _ (HRr2.out.grow hbp hbp.size) hv2'.out.pk (by omega) HJ2.out q HQJ.out).mono ?_
          rintro e w' ⟨rfl, hbl⟩
          exact ⟨(), rfl, hbl⟩
        refine wpCG_c (ι := Unit) 86 #[.agg #[.int .i64 p.len, .int .i64 p.turn, .int .i64 p.rad, .int .i64 p.wid, .int .i64 p.sur], .agg #[.int .i64 q.len, .int .i64 q.turn, .int .i64 q.rad, .int .i64 q.wid, .int .i64 q.sur]] (fun _ => sfrV (sfr p q 1)) (by decide) (by decide) rfl (fun w => by go_simp) (fun _ _ h _ => h) (fun _ _ h _ => h) (fun W hW _ => ?_) (fun i3 => ?_)
        · refine (rsafer_any p q W).mono ?_
          rintro e w' ⟨rfl, hbl⟩
          exact ⟨(), rfl, hbl⟩
        rw [HSF.out]
        simp only [sfrV]
        repeat (refine wpCG_q (by decide) (by decide) (fun K hK => ?_); go_simp; refine hK _ ?_; clear hK K)
        refine wpCG_a (by decide) (fun h => by cases h) ?_
        refine wpCG_a (by decide) (fun _ => ⟨rfl, by simp⟩) ?_
        refine wpCG_nil ?_
        intro tb Wd hk4 _ htb hTB
        clear x0 x1 x2 y0 y1 y2
        have hJd := hJ.call hk4
        have b0 := hJd.b.cell 0
        have bl := hJd.b.lt
        have t0 := hTB.cell 0
        have t1 := hTB.cell 1
        have t2 := hTB.cell 2
        have t3 := hTB.cell 3
        have t4 := hTB.cell 4
        have tl := hTB.lt
        simp only [List.getElem?_toArray, List.getElem?_cons_zero, List.getElem?_cons_succ] at b0 t0 t1 t2 t3 t4
        have hN1 := BK.new Wd 52 #[.int .i64 z.len, .int .i64 z.turn, .int .i64 z.rad, .int .i64 z.wid, .int .i64 z.sur]
        have hJa := hJd.alloc (.cells #[.int .i64 z.len, .int .i64 z.turn, .int .i64 z.rad, .int .i64 z.wid, .int .i64 z.sur] 52)
        have HFZ : Hid (∀ w3 g c'', App1 pC 5 52 (w1.heap.size + 1) (Wd.alloc (.cells #[.int .i64 z.len, .int .i64 z.turn, .int .i64 z.rad, .int .i64 z.wid, .int .i64 z.sur] 52)) A1 k c1 L z g c'' w3 → w3.heap[w1.heap.size]? = (Wd.alloc (.cells #[.int .i64 z.len, .int .i64 z.turn, .int .i64 z.rad, .int .i64 z.wid, .int .i64 z.sur] 52)).heap[w1.heap.size]?) := by
          intro w3 g c'' hap
          exact hap.far _ hJa.b.lt (fun b hb => BK.ne_row (.inr ⟨_, hJa.b⟩) hJa.p (by decide) hb)
        have hzd := hk4.size
        clear hJ hJ2
        go_wp2_with (at_builtin; refine wpList_app rfl _ _ 22 rfl (w1.heap.size + 1) 52 _ 5 40 Try.underlying22 infoP rfl (by decide) pC A1 k c1 L rfl hJa.p z #[.int .i64 z.len, .int .i64 z.turn, .int .i64 z.rad, .int .i64 z.wid, .int .i64 z.sur] rfl rfl 52 Wd.heap.size rfl hN1 (by simp [pC, Value.oneCell']) (by omega) (by omega) (by simp; omega) ?_; intro g' c' w3 hap; have hw3 := HFZ.out _ _ _ hap; have hm3 := hJa.b.same hw3; have m0 := hm3.cell 0; have mf := hm3.frozen 0; have HAP := Lib.hid hap; clear hap)
        go_roundw
        case rel =>
          have hap := HAP.out
          have hJn := hJa.appP (by decide) (by decide) (by decide) (by decide) (by decide) hap
          have hba := (Below.refl Wd.heap.size Wd).alloc (Nat.le_refl _) (.cells #[.int .i64 z.len, .int .i64 z.turn, .int .i64 z.rad, .int .i64 z.wid, .int .i64 z.sur] 52)
          have hbd : Below w1.heap.size w1 Wd := hb.trans (hk4.mono hz)
          exact ⟨k + 1, L ++ [z], _, _, by go_num, by omega, by show _ = _; rw [hnew.out, HSF.out]; rfl, hJn, ((hbd.trans (hba.mono (by omega))).trans (hap.bel.mono (by omega))).setCell (Nat.le_refl _) _⟩
        case measure => simp [intOf]; omega
    · obtain rfl : k = N := by omega
      have HLN : Hid (rfM (units R.ps) (units R2.ps) k = some L) := HL
      have HLL : Hid (L.length ≤ 2000) := by
        show _ ≤ _
        have h1 := rfM_len _ _ _ HL.out
        omega
      have HPK : Hid (∀ q ∈ normP L, pOk q = true) := normP_ok (rfM_ok _ _ (units_ok hv'.out.pk) (units_ok hv2'.out.pk) _ HL.out)
      have hlens : Hid (∀ z ∈ L, 1 ≤ z.len ∧ z.len ≤ 5000) := fun z hz => by have := rfM_one _ _ _ HL.out z hz; omega
      have HLS := hlens
      have b0 := hJ.b.cell 0
      have bl := hJ.b.lt
      simp only [List.getElem?_toArray, List.getElem?_cons_zero] at b0
      go_wp2_with fail
      refine (pieces_in A1 k c1 L wr (hJ.p.sl pC_len) hlens.out (by omega)).mono ?_
      rintro e w5 ⟨P1, m1, q1, rfl, o1, hk5⟩
      have hJ5 := hJ.call hk5
      have b0 := hJ5.b.cell 0
      have bf := hJ5.b.frozen
      have bl5 := hJ5.b.lt
      simp only [List.getElem?_toArray, List.getElem?_cons_zero] at b0
      have HO1 := Lib.hid o1
      clear o1
      go_wp2_with fail
      refine wp_wnamed (fun W6 hW6 => ?_)
      have hJ6 : JB 26 52 87 89 (w1.heap.size + 1) W6 w1.heap.size P1 m1 q1 (normP L) none 0 0 [] none 0 0 [] := by
        rw [hW6]
        exact ⟨hJ5.b.set_ 0 _, (HO1.out.setCell (p := ⟨w1.heap.size, 0, none⟩) (fun a ha => by have := (HO1.out.lt ha).1; show a.block ≠ w1.heap.size; omega) _).drop0 (by omega), OW.nil_, OW.nil_⟩
      have hb6 : Below w1.heap.size w1 W6 := by rw [hW6]; exact (hb.trans (hk5.mono hz)).setCell (Nat.le_refl _) _
      clear hW6 hJ hJ5 b0 bf bl bl5 HO1 hXr hYr hZr hBr HRr HRr2 hk5 hlens HL
      obtain ⟨RC, hRC⟩ : ∃ RC, RC = mr2 (fun x : Crest => x.pos) bothC R.cs R2.cs := ⟨_, rfl⟩
      have HRC := Lib.hid hRC
      have hrcl : RC.length ≤ 2000 := by
        have h1 := mr2_len (fun x : Crest => x.pos) bothC R.cs R2.cs
        have h2 := hv'.out.c1
        have h3 := hv2'.out.c1
        rw [hRC]; omega
      have HC1 := Lib.hid hR.out.c.1
      have HC2 := Lib.hid hR2.out.c.1
      have hcn : cn ≤ 1000 := by rw [HC1.out]; exact hv'.out.c1
      have hcn2 : cn2 ≤ 1000 := by rw [HC2.out]; exact hv2'.out.c1
      have hst : Hid ([] ++ mr2 (fun x : Crest => x.pos) bothC (R.cs.drop 0) (R2.cs.drop 0) = RC) := by show _ = _; rw [hRC]; rfl
      clear hRC
      go_loopw [11, 12] (fun iv kv wr => ∃ (i k : Nat) (M : List Crest) (A2 : Option Addr) (n2 c2 : Nat), iv = .int .i64 i ∧ kv = .int .i64 k ∧ i ≤ cn ∧ k ≤ cn2 ∧ Hid (M ++ mr2 (fun x : Crest => x.pos) bothC (R.cs.drop i) (R2.cs.drop k) = RC) ∧ JB 26 52 87 89 (w1.heap.size + 1) wr w1.heap.size P1 m1 q1 (normP L) A2 n2 c2 M none 0 0 [] ∧ Below w1.heap.size w1 wr)
        (fun iv kv _ => (cn - (intOf iv).toNat) + (cn2 - (intOf kv).toNat))
      case atStart => exact ⟨0, 0, [], none, 0, 0, rfl, rfl, Nat.zero_le _, Nat.zero_le _, hst, hJ6, hb6⟩
      case round =>
        clear hst hJ6 hb6 hb hz
        obtain ⟨i, k', M, A2, n2, c2, rfl, rfl, hi, hk', HM, hJ, hb⟩ := hrel
        have hz := hb.size
        have hXr := hX1.below hb hX1.lt
        have hYr := hY1.below hb hY1.lt
        have hBr := hB1.trans (hb.mono hB1.size)
        have x1 := hXr.cell 1
        have y1 := hYr.cell 1
        have xl := hXr.lt
        have yl := hYr.lt
        simp only [List.getElem?_toArray, List.getElem?_cons_zero, List.getElem?_cons_succ] at x1 y1
        by_cases hki : k' = cn2
        · subst hki
          by_cases hii : i = cn
          · subst hii
            have hfin : M = RC := by
              have := HM.out
              rw [List.drop_of_length_le (by rw [HC1.out]; exact Nat.le_refl _), List.drop_of_length_le (by rw [HC2.out]; exact Nat.le_refl _), mr2_nil, List.append_nil] at this
              exact this
            subst hfin
            as_aux_lemma =>
              obtain ⟨RJ, hRJ⟩ : ∃ RJ, RJ = mr2 (fun x : Junc => x.pos) bothJ R.js R2.js := ⟨_, rfl⟩
              obtain ⟨GJ, hGJ⟩ : ∃ GJ, GJ = mr2g (fun x : Junc => x.pos) okJ R.js R2.js := ⟨_, rfl⟩
              have hrjl : RJ.length ≤ 400 := by
                have h1 := mr2_len (fun x : Junc => x.pos) bothJ R.js R2.js
                have h2 := hv'.out.j1
                have h3 := hv2'.out.j1
                rw [hRJ]; omega
              have HJ1 := Lib.hid hR.out.j.1
              have HJ2' := Lib.hid hR2.out.j.1
              have hjn : jn ≤ 200 := by rw [HJ1.out]; exact hv'.out.j1
              have hjn2 : jn2 ≤ 200 := by rw [HJ2'.out]; exact hv2'.out.j1
              have hst : Hid ([] ++ mr2 (fun x : Junc => x.pos) bothJ (R.js.drop 0) (R2.js.drop 0) = RJ) := by show _ = _; rw [hRJ]; rfl
              have hsg : Hid (mr2g (fun x : Junc => x.pos) okJ (R.js.drop 0) (R2.js.drop 0) = GJ) := by show _ = _; rw [hGJ]; rfl
              have HRJ := Lib.hid hRJ
              have HGJ := Lib.hid hGJ
              clear hRJ hGJ HM
              go_wp2_with fail
              clear x1 y1 xl yl hXr hYr hBr
              go_loopw [11, 12] (fun iv kv wr => ∃ (i k : Nat) (MJ : List Junc) (A3 : Option Addr) (n3 c3 : Nat), iv = .int .i64 i ∧ kv = .int .i64 k ∧ i ≤ jn ∧ k ≤ jn2 ∧ Hid (MJ ++ mr2 (fun x : Junc => x.pos) bothJ (R.js.drop i) (R2.js.drop k) = RJ) ∧ Hid (mr2g (fun x : Junc => x.pos) okJ (R.js.drop i) (R2.js.drop k) = GJ) ∧ JB 26 52 87 89 (w1.heap.size + 1) wr w1.heap.size P1 m1 q1 (normP L) A2 n2 c2 M A3 n3 c3 MJ ∧ Below w1.heap.size w1 wr)
                (fun iv kv _ => (jn - (intOf iv).toNat) + (jn2 - (intOf kv).toNat))
              case atStart => exact ⟨0, 0, [], none, 0, 0, rfl, rfl, Nat.zero_le _, Nat.zero_le _, hst, hsg, hJ, hb⟩
              case round =>
                clear hst hsg hJ hb hz
                obtain ⟨i, k', MJ, A3, n3, c3, rfl, rfl, hi, hk', HM, HG, hJ, hb⟩ := hrel
                have hz := hb.size
                have hXr := hX1.below hb hX1.lt
                have hYr := hY1.below hb hY1.lt
                have hZr := hZ1.below hb hZ1.lt
                have hBr := hB1.trans (hb.mono hB1.size)
                have x1 := hXr.cell 2
                have y1 := hYr.cell 2
                have xl := hXr.lt
                have yl := hYr.lt
                simp only [List.getElem?_toArray, List.getElem?_cons_zero, List.getElem?_cons_succ] at x1 y1
                have hnl3 : n3 ≤ 2000 := by
                  have h1 := hJ.j.len
                  have h2 := congrArg List.length HM.out
                  rw [List.length_append] at h2
                  omega
                by_cases hki : k' = jn2
                · subst hki
                  by_cases hii : i = jn
                  · subst hii
                    have hfin : MJ = RJ := by
                      have := HM.out
                      rw [List.drop_of_length_le (by rw [HJ1.out]; exact Nat.le_refl _), List.drop_of_length_le (by rw [HJ2'.out]; exact Nat.le_refl _), mr2_nil, List.append_nil] at this
                      exact this
                    have hgt : GJ = true := by
                      have := HG.out
                      rw [List.drop_of_length_le (by rw [HJ1.out]; exact Nat.le_refl _), nil_mr2g] at this
                      exact this.symm
                    subst hfin
                    have HGT := Lib.hid hgt
                    clear hgt HM HG
                    have hn1 : m1 ≤ 2000 := by
                      have h1 := hJ.p.len
                      have h2 := norm_len (ps := L) HLS.out
                      have h3 := HLL.out
                      omega
                    have t0 := hJ.b.cell 0
                    have t1 := hJ.b.cell 1
                    have t2 := hJ.b.cell 2
                    have tl := hJ.b.lt
                    simp only [List.getElem?_toArray, List.getElem?_cons_zero, List.getElem?_cons_succ] at t0 t1 t2
                    go_wp2_with fail
                    refine (fits_any P1 m1 q1 A2 n2 c2 A3 n3 c3 ⟨normP L, M, MJ⟩ wr ⟨hJ.p.sl pC_len, hJ.c.sl cC_len, hJ.j.sl jC_len⟩ HPK.out (by omega)).mono ?_
                    rintro e wc ⟨rfl, hbl⟩
                    have hJc := hJ.call hbl
                    have hZc := hZr.below hbl hZr.lt
                    have hBc := hBr.trans (hbl.mono hBr.size)
                    clear hJ t0 t1 t2 tl
                    have zf := hZc.frozen
                    have zl := hZc.lt
                    have z0 := hZc.cell 0
                    have z1 := hZc.cell 1
                    have z2 := hZc.cell 2
                    simp only [List.getElem?_toArray, List.getElem?_cons_zero, List.getElem?_cons_succ] at z0 z1 z2
                    cases hfit : fitsR ⟨normP L, M, MJ⟩
                    case true =>
                      have hbv : boundV P1 m1 q1 A2 n2 c2 A3 n3 c3 ⟨normP L, M, MJ⟩ = .tuple #[.agg #[.slice P1 m1 q1, .slice A2 n2 c2, .slice A3 n3 c3], .int .i64 0] := by rw [boundV, if_pos hfit]
                      have HBV := Lib.hid hbv
                      clear hbv hfit
                      have t0 := hJc.b.cell 0
                      have t1 := hJc.b.cell 1
                      have t2 := hJc.b.cell 2
                      have tl := hJc.b.lt
                      simp only [List.getElem?_toArray, List.getElem?_cons_zero, List.getElem?_cons_succ] at t0 t1 t2
                      obtain ⟨WF, hWF⟩ : ∃ WF, WF = ((wc.setCell ⟨w.heap.size + 1 + 1, 0, none⟩ (.slice P1 m1 q1)).setCell ⟨w.heap.size + 1 + 1, 1, none⟩ (.slice A2 n2 c2)).setCell ⟨w.heap.size + 1 + 1, 2, none⟩ (.slice A3 n3 c3) := ⟨_, rfl⟩
                      have hZF : BK WF (w.heap.size + 1 + 1) 26 #[.slice P1 m1 q1, .slice A2 n2 c2, .slice A3 n3 c3] := by rw [hWF]; exact ((hZc.set_ 0 _).set_ 1 _).set_ 2 _
                      have hBF : Below w.heap.size w WF := by rw [hWF]; exact ((hBc.setCell (p := ⟨w.heap.size + 1 + 1, 0, none⟩) (by simp <;> omega) _).setCell (p := ⟨w.heap.size + 1 + 1, 1, none⟩) (by simp <;> omega) _).setCell (p := ⟨w.heap.size + 1 + 1, 2, none⟩) (by simp <;> omega) _
                      have fP : ∀ a, P1 = some a → a.block ≠ w.heap.size + 1 + 1 := fun a ha => by have := (hJc.p.lt ha).1; omega
                      have fC : ∀ a, A2 = some a → a.block ≠ w.heap.size + 1 + 1 := fun a ha => by have := (hJc.c.lt ha).1; omega
                      have fQ : ∀ a, A3 = some a → a.block ≠ w.heap.size + 1 + 1 := fun a ha => by have := (hJc.j.lt ha).1; omega
                      have FF : OW pC 5 52 w.heap.size WF P1 m1 q1 (normP L) ∧ OW cC 2 87 w.heap.size WF A2 n2 c2 M ∧ OW jC 3 89 w.heap.size WF A3 n3 c3 MJ := by
                        rw [hWF]
                        exact ⟨(((hJc.p.setCell fP _).setCell fP _).setCell fP _).drop0 (by omega), (((hJc.c.setCell fC _).setCell fC _).setCell fC _).drop0 (by omega), (((hJc.j.setCell fQ _).setCell fQ _).setCell fQ _).drop0 (by omega)⟩
                      have HFF := Lib.hid FF
                      have HWF := Lib.hid hWF
                      clear hWF hZc hBc FF fP fC fQ hJc
                      go_wp2_with fail
                      rw [← HWF.out]
                      clear z0 z1 z2
                      have z0 := hZF.cell 0
                      have z1 := hZF.cell 1
                      have z2 := hZF.cell 2
                      simp only [List.getElem?_toArray, List.getElem?_cons_zero, List.getElem?_cons_succ] at z0 z1 z2
                      refine bodyPost_ret (v := .tuple #[.agg #[.slice P1 m1 q1, .slice A2 n2 c2, .slice A3 n3 c3], .int .i64 0]) (by simp [results, Try.results47, go_sem, z0, z1, z2]) rfl ⟨⟨fun h => absurd (HLN.out.symm.trans h) (by simp), fun _ _ hh => absurd (HGT.out.symm.trans (HGJ.out.trans hh)) (by decide), fun L' hL' _ => ?_⟩, hBF⟩
                      have hLL := HLN.out.symm.trans hL'
                      cases hLL
                      rw [← HRC.out, ← HRJ.out]
                      exact ⟨P1, m1, q1, A2, n2, c2, A3, n3, c3, by rw [HBV.out], HFF.out⟩
                    case false =>
                      have hbv : boundV P1 m1 q1 A2 n2 c2 A3 n3 c3 ⟨normP L, M, MJ⟩ = .tuple #[.agg #[.slice none 0 0, .slice none 0 0, .slice none 0 0], .int .i64 4] := by rw [boundV, hfit, if_neg (by decide)]
                      have HBV := Lib.hid hbv
                      clear hbv hfit
                      obtain ⟨WF, hWF⟩ : ∃ WF, WF = ((wc.setCell ⟨w.heap.size + 1 + 1, 0, none⟩ (.slice none 0 0)).setCell ⟨w.heap.size + 1 + 1, 1, none⟩ (.slice none 0 0)).setCell ⟨w.heap.size + 1 + 1, 2, none⟩ (.slice none 0 0) := ⟨_, rfl⟩
                      have hZF : BK WF (w.heap.size + 1 + 1) 26 #[.slice none 0 0, .slice none 0 0, .slice none 0 0] := by rw [hWF]; exact ((hZc.set_ 0 _).set_ 1 _).set_ 2 _
                      have hBF : Below w.heap.size w WF := by rw [hWF]; exact ((hBc.setCell (p := ⟨w.heap.size + 1 + 1, 0, none⟩) (by simp <;> omega) _).setCell (p := ⟨w.heap.size + 1 + 1, 1, none⟩) (by simp <;> omega) _).setCell (p := ⟨w.heap.size + 1 + 1, 2, none⟩) (by simp <;> omega) _
                      have fP : ∀ a, P1 = some a → a.block ≠ w.heap.size + 1 + 1 := fun a ha => by have := (hJc.p.lt ha).1; omega
                      have fC : ∀ a, A2 = some a → a.block ≠ w.heap.size + 1 + 1 := fun a ha => by have := (hJc.c.lt ha).1; omega
                      have fQ : ∀ a, A3 = some a → a.block ≠ w.heap.size + 1 + 1 := fun a ha => by have := (hJc.j.lt ha).1; omega
                      have FF : OW pC 5 52 w.heap.size WF P1 m1 q1 (normP L) ∧ OW cC 2 87 w.heap.size WF A2 n2 c2 M ∧ OW jC 3 89 w.heap.size WF A3 n3 c3 MJ := by
                        rw [hWF]
                        exact ⟨(((hJc.p.setCell fP _).setCell fP _).setCell fP _).drop0 (by omega), (((hJc.c.setCell fC _).setCell fC _).setCell fC _).drop0 (by omega), (((hJc.j.setCell fQ _).setCell fQ _).setCell fQ _).drop0 (by omega)⟩
                      have HFF := Lib.hid FF
                      have HWF := Lib.hid hWF
                      clear hWF hZc hBc FF fP fC fQ hJc
                      go_wp2_with fail
                      rw [← HWF.out]
                      clear z0 z1 z2
                      have z0 := hZF.cell 0
                      have z1 := hZF.cell 1
                      have z2 := hZF.cell 2
                      simp only [List.getElem?_toArray, List.getElem?_cons_zero, List.getElem?_cons_succ] at z0 z1 z2
                      refine bodyPost_ret (v := .tuple #[.agg #[.slice none 0 0, .slice none 0 0, .slice none 0 0], .int .i64 4]) (by simp [results, Try.results47, go_sem, z0, z1, z2]) rfl ⟨⟨fun h => absurd (HLN.out.symm.trans h) (by simp), fun _ _ hh => absurd (HGT.out.symm.trans (HGJ.out.trans hh)) (by decide), fun L' hL' _ => ?_⟩, hBF⟩
                      have hLL := HLN.out.symm.trans hL'
                      cases hLL
                      rw [← HRC.out, ← HRJ.out]
                      exact ⟨P1, m1, q1, A2, n2, c2, A3, n3, c3, by rw [HBV.out], HFF.out⟩
                  · have hil : i < jn := by omega
                    have hdr : Hid (R2.js.drop k' = []) := by show _ = _; exact List.drop_of_length_le (by rw [HJ2'.out]; exact Nat.le_refl _)
                    have HIX : Hid (i < R.js.length) := by show _ < _; rw [← HJ1.out]; exact hil
                    as_aux_lemma =>
                      go_wp2_with fail
                      go_quiet (fail)
                      go_upto_region 28 with fail
                      refine wp_wnamed (fun Wa hWa => ?_)
                      have hba : Below wr.heap.size wr Wa := by rw [hWa]; exact below_drewN (Below.refl _ _) _
                      have hJA := hJ.call hba
                      have hBA := hBr.trans (hba.mono hBr.size)
                      have bX := hXr.below hba hXr.lt
                      clear hWa
                      obtain ⟨bb, off, hA, hbB, k0, k1, k2⟩ := JS.at_ (hR.out.grow hBA hBA.size).j (k := i) HIX.out
                      obtain ⟨x, hx⟩ : ∃ x, x = R.js[i]'HIX.out := ⟨_, rfl⟩
                      rw [← hx] at k0 k1 k2
                      have HX := Lib.hid hx
                      clear hx
                      have b1 := hJA.b.cell 2
                      have xc := bX.cell 2
                      simp only [List.getElem?_toArray, List.getElem?_cons_zero, List.getElem?_cons_succ] at b1 xc
                      have g0 := fun d os => cell_regrown b1 d os
                      have g1 := fun d os => cell_regrown xc d os
                      have g2 := fun d os => cell_regrown k0 d os
                      have g3 := fun d os => cell_regrown k1 d os
                      have g4 := fun d os => cell_regrown k2 d os
                      have hi1 : (0 : Int) ≤ (i : Int) := by omega
                      have hi2 : (i : Int) < (jn : Int) := by omega
                      cases hA
                      clear b1 xc k0 k1 k2
                      go_wp2_with fail
                      refine wp_region_ch 8 [7] hmo (by kernel_rfl) ?_
                      simp only [List.take_succ_cons, List.take_zero, List.drop_succ_cons, List.drop_zero]
                      repeat (refine wpC_q (by decide) (by decide) (fun K hK => ?_); go_simp; refine hK _ ?_; clear hK K)
                      refine wpC_v (ι := Nat) (fun n => .slice (some ⟨n, 0, none⟩) 1 1) (fun n W => BK W n 89 #[.int .i64 x.pos, .int .i64 x.arms, .int .i64 x.way] ∧ Wa.heap.size ≤ n) (by decide) (by decide) rfl stable_true (fun n x y hh hb => ⟨hh.1.below hb hh.1.lt, hh.2⟩) (fun W hW _ => ?_) (fun nb hs1 => ?_)
                      · obtain ⟨pp, rfl⟩ := hW
                        have hbp := (below_regrown Wa pp.d pp.os).size
                        exact ⟨_, _, by go_simp, ⟨BK.new _ _ _, hbp⟩, (Below.refl _ _).alloc (Nat.le_refl _) _⟩
                      refine wpC_nil ?_
                      intro Wh hbh hΦ
                      obtain ⟨-, hNB, hnb⟩ := hΦ
                      clear g0 g1 g2 g3 g4 hs1
                      have hJh := hJA.call hbh
                      have hbw := hba.trans (hbh.mono hba.size)
                      have hwz := hbw.size
                      have b1 := hJh.b.cell 2
                      have bl := hJh.b.lt
                      simp only [List.getElem?_toArray, List.getElem?_cons_zero, List.getElem?_cons_succ] at b1
                      have hSX : SL jC 3 Wh Wh.heap.size (some ⟨nb, 0, none⟩) 1 [x] := SL.of_bk (xs := [x]) hNB rfl jC_len hNB.lt
                      have HFZ : Hid (∀ w3 A' c'', AppS jC 3 89 (w1.heap.size + 1) Wh A3 n3 c3 1 MJ [x] A' c'' w3 → w3.heap[w1.heap.size]? = Wh.heap[w1.heap.size]?) := by
                        intro w3 A' c'' hap
                        exact hap.far _ hJh.b.lt (fun b hb => BK.ne_row (.inr ⟨_, hJh.b⟩) hJh.j (by decide) hb)
                      have HSX := Lib.hid hSX
                      clear hJ hJA hNB hSX
                      go_wp2_with (at_builtin; refine wpList_appS rfl _ _ 24 rfl (w1.heap.size + 1) 89 _ 3 24 Try.underlying24 infoJ rfl (by decide) jC A3 n3 c3 MJ rfl hJh.j Wh.heap.size (some ⟨nb, 0, none⟩) 1 1 [x] rfl HSX.out jC_len oneJ (by omega) (by omega) (by omega) ?_; intro A2' c2' w3 hap; have hw3 := HFZ.out _ _ _ hap; have hm3 := hJh.b.same hw3; have m1' := hm3.cell 2; have mf := hm3.frozen 2; have HAP := Lib.hid hap; clear hap)
                      go_roundw
                      case rel =>
                        have hap := HAP.out
                        have hJn := hJh.appJS (by decide) (by decide) (by decide) (by decide) (by decide) hap
                        have hbd : Below w1.heap.size w1 Wh := hb.trans (hbw.mono hz)
                        refine ⟨i + 1, k', MJ ++ [x], _, _, _, by go_num, by go_num, by omega, by omega, ?_, ?_, hJn, (hbd.trans (hap.bel.mono (by omega))).setCell (Nat.le_refl _) _⟩
                        · show _ = _
                          have h1 := HM.out
                          rw [hdr.out, mr2_nil] at h1 ⊢
                          rw [← h1, List.drop_eq_getElem_cons HIX.out, ← HX.out]
                          simp
                        · show _ = _
                          have h1 := HG.out
                          rw [hdr.out, mr2g_nil] at h1 ⊢
                          exact h1
                      case measure => simp [intOf]; omega
                · have hkl : k' < jn2 := by omega
                  have HKX : Hid (k' < R2.js.length) := by show _ < _; rw [← HJ2'.out]; exact hkl
                  have hj1 : (0 : Int) ≤ (k' : Int) := by omega
                  have hj2 : (k' : Int) < (jn2 : Int) := by omega
                  have ue1 : ((k' : Int) == (jn2 : Int)) = false := by simp; omega
                  by_cases hii : i = jn
                  · subst hii
                    have hdr : Hid (R.js.drop i = []) := by show _ = _; exact List.drop_of_length_le (by rw [HJ1.out]; exact Nat.le_refl _)
                    have HIX := HKX
                    as_aux_lemma =>
                      go_wp2_with fail
                      go_quiet (fail)
                      go_wp2_with fail
                      go_quiet (fail)
                      go_upto_region 31 with fail
                      refine wp_wnamed (fun Wa hWa => ?_)
                      have hba : Below wr.heap.size wr Wa := by rw [hWa]; exact below_drewN (below_drewN (Below.refl _ _) _) _
                      have hJA := hJ.call hba
                      have hBA := hBr.trans (hba.mono hBr.size)
                      have bX := hYr.below hba hYr.lt
                      clear hWa
                      obtain ⟨bb, off, hA, hbB, k0, k1, k2⟩ := JS.at_ (hR2.out.grow hBA hBA.size).j (k := k') HIX.out
                      obtain ⟨x, hx⟩ : ∃ x, x = R2.js[k']'HIX.out := ⟨_, rfl⟩
                      rw [← hx] at k0 k1 k2
                      have HX := Lib.hid hx
                      clear hx
                      have b1 := hJA.b.cell 2
                      have xc := bX.cell 2
                      simp only [List.getElem?_toArray, List.getElem?_cons_zero, List.getElem?_cons_succ] at b1 xc
                      have g0 := fun d os => cell_regrown b1 d os
                      have g1 := fun d os => cell_regrown xc d os
                      have g2 := fun d os => cell_regrown k0 d os
                      have g3 := fun d os => cell_regrown k1 d os
                      have g4 := fun d os => cell_regrown k2 d os
                      have hi1 : (0 : Int) ≤ (k' : Int) := by omega
                      have hi2 : (k' : Int) < (jn2 : Int) := by omega
                      cases hA
                      clear b1 xc k0 k1 k2
                      go_wp2_with fail
                      refine wp_region_ch 8 [7] hmo (by kernel_rfl) ?_
                      simp only [List.take_succ_cons, List.take_zero, List.drop_succ_cons, List.drop_zero]
                      repeat (refine wpC_q (by decide) (by decide) (fun K hK => ?_); go_simp; refine hK _ ?_; clear hK K)
                      refine wpC_v (ι := Nat) (fun n => .slice (some ⟨n, 0, none⟩) 1 1) (fun n W => BK W n 89 #[.int .i64 x.pos, .int .i64 x.arms, .int .i64 x.way] ∧ Wa.heap.size ≤ n) (by decide) (by decide) rfl stable_true (fun n x y hh hb => ⟨hh.1.below hb hh.1.lt, hh.2⟩) (fun W hW _ => ?_) (fun nb hs1 => ?_)
                      · obtain ⟨pp, rfl⟩ := hW
                        have hbp := (below_regrown Wa pp.d pp.os).size
                        exact ⟨_, _, by go_simp, ⟨BK.new _ _ _, hbp⟩, (Below.refl _ _).alloc (Nat.le_refl _) _⟩
                      refine wpC_nil ?_
                      intro Wh hbh hΦ
                      obtain ⟨-, hNB, hnb⟩ := hΦ
                      clear g0 g1 g2 g3 g4 hs1
                      have hJh := hJA.call hbh
                      have hbw := hba.trans (hbh.mono hba.size)
                      have hwz := hbw.size
                      have b1 := hJh.b.cell 2
                      have bl := hJh.b.lt
                      simp only [List.getElem?_toArray, List.getElem?_cons_zero, List.getElem?_cons_succ] at b1
                      have hSX : SL jC 3 Wh Wh.heap.size (some ⟨nb, 0, none⟩) 1 [x] := SL.of_bk (xs := [x]) hNB rfl jC_len hNB.lt
                      have HFZ : Hid (∀ w3 A' c'', AppS jC 3 89 (w1.heap.size + 1) Wh A3 n3 c3 1 MJ [x] A' c'' w3 → w3.heap[w1.heap.size]? = Wh.heap[w1.heap.size]?) := by
                        intro w3 A' c'' hap
                        exact hap.far _ hJh.b.lt (fun b hb => BK.ne_row (.inr ⟨_, hJh.b⟩) hJh.j (by decide) hb)
                      have HSX := Lib.hid hSX
                      clear hJ hJA hNB hSX
                      go_wp2_with (at_builtin; refine wpList_appS rfl _ _ 24 rfl (w1.heap.size + 1) 89 _ 3 24 Try.underlying24 infoJ rfl (by decide) jC A3 n3 c3 MJ rfl hJh.j Wh.heap.size (some ⟨nb, 0, none⟩) 1 1 [x] rfl HSX.out jC_len oneJ (by omega) (by omega) (by omega) ?_; intro A2' c2' w3 hap; have hw3 := HFZ.out _ _ _ hap; have hm3 := hJh.b.same hw3; have m1' := hm3.cell 2; have mf := hm3.frozen 2; have HAP := Lib.hid hap; clear hap)
                      go_roundw
                      case rel =>
                        have hap := HAP.out
                        have hJn := hJh.appJS (by decide) (by decide) (by decide) (by decide) (by decide) hap
                        have hbd : Below w1.heap.size w1 Wh := hb.trans (hbw.mono hz)
                        refine ⟨i, k' + 1, MJ ++ [x], _, _, _, by go_num, by go_num, by omega, by omega, ?_, ?_, hJn, (hbd.trans (hap.bel.mono (by omega))).setCell (Nat.le_refl _) _⟩
                        · show _ = _
                          have h1 := HM.out
                          rw [hdr.out, nil_mr2] at h1 ⊢
                          rw [← h1, List.drop_eq_getElem_cons HIX.out, ← HX.out]
                          simp
                        · show _ = _
                          have h1 := HG.out
                          rw [hdr.out, nil_mr2g] at h1 ⊢
                          exact h1
                      case measure => simp [intOf]; omega
                  · have hil : i < jn := by omega
                    have HAX : Hid (i < R.js.length) := by show _ < _; rw [← HJ1.out]; exact hil
                    have hj3 : (0 : Int) ≤ (i : Int) := by omega
                    have ue2 : ((i : Int) == (jn : Int)) = false := by simp; omega
                    have hj4 : (i : Int) < (jn : Int) := by omega
                    obtain ⟨ba, oa, hAa, hbBa, a0, a1, a2⟩ := JS.at_ (hR.out.grow hBr hBr.size).j (k := i) HAX.out
                    obtain ⟨bc, oc, hAc, hbBc, d0, d1, d2⟩ := JS.at_ (hR2.out.grow hBr hBr.size).j (k := k') HKX.out
                    obtain ⟨va, hva⟩ : ∃ va, va = R.js[i]'HAX.out := ⟨_, rfl⟩
                    obtain ⟨vb, hvb⟩ : ∃ vb, vb = R2.js[k']'HKX.out := ⟨_, rfl⟩
                    rw [← hva] at a0 a1 a2
                    rw [← hvb] at d0 d1 d2
                    have HVA := Lib.hid hva
                    have HVB := Lib.hid hvb
                    cases hAa
                    cases hAc
                    clear hva hvb
                    have hstep : Hid (mr2 (fun x : Junc => x.pos) bothJ (R.js.drop i) (R2.js.drop k') = if va.pos < vb.pos then va :: mr2 (fun x : Junc => x.pos) bothJ (R.js.drop (i + 1)) (R2.js.drop k') else if vb.pos < va.pos then vb :: mr2 (fun x : Junc => x.pos) bothJ (R.js.drop i) (R2.js.drop (k' + 1)) else bothJ va vb :: mr2 (fun x : Junc => x.pos) bothJ (R.js.drop (i + 1)) (R2.js.drop (k' + 1))) := by
                      show _ = _
                      have e1 := List.drop_eq_getElem_cons HAX.out
                      have e2 := List.drop_eq_getElem_cons HKX.out
                      rw [← HVA.out] at e1
                      rw [← HVB.out] at e2
                      rw [e1, e2, mr2_cons]
                    have hstepg : Hid (mr2g (fun x : Junc => x.pos) okJ (R.js.drop i) (R2.js.drop k') = if va.pos < vb.pos then mr2g (fun x : Junc => x.pos) okJ (R.js.drop (i + 1)) (R2.js.drop k') else if vb.pos < va.pos then mr2g (fun x : Junc => x.pos) okJ (R.js.drop i) (R2.js.drop (k' + 1)) else okJ va vb && mr2g (fun x : Junc => x.pos) okJ (R.js.drop (i + 1)) (R2.js.drop (k' + 1))) := by
                      show _ = _
                      have e1 := List.drop_eq_getElem_cons HAX.out
                      have e2 := List.drop_eq_getElem_cons HKX.out
                      rw [← HVA.out] at e1
                      rw [← HVB.out] at e2
                      rw [e1, e2, mr2g_cons]
                    by_cases q1' : va.pos < vb.pos
                    · have u1 : decide (va.pos < vb.pos) = true := by simpa using q1'
                      have HQ := Lib.hid q1'
                      have HIX := HAX
                      clear q1'
                      as_aux_lemma =>
                        go_wp2_with fail
                        go_quiet (fail)
                        clear a0 a1 a2 d0 d1 d2
                        go_upto_region 28 with fail
                        refine wp_wnamed (fun Wa hWa => ?_)
                        have hba : Below wr.heap.size wr Wa := by rw [hWa]; exact below_drewN (Below.refl _ _) _
                        have hJA := hJ.call hba
                        have hBA := hBr.trans (hba.mono hBr.size)
                        have bX := hXr.below hba hXr.lt
                        clear hWa
                        obtain ⟨bb, off, hA, hbB, k0, k1, k2⟩ := JS.at_ (hR.out.grow hBA hBA.size).j (k := i) HIX.out
                        obtain ⟨x, hx⟩ : ∃ x, x = R.js[i]'HIX.out := ⟨_, rfl⟩
                        rw [← hx] at k0 k1 k2
                        have HX := Lib.hid hx
                        clear hx
                        have b1 := hJA.b.cell 2
                        have xc := bX.cell 2
                        simp only [List.getElem?_toArray, List.getElem?_cons_zero, List.getElem?_cons_succ] at b1 xc
                        have g0 := fun d os => cell_regrown b1 d os
                        have g1 := fun d os => cell_regrown xc d os
                        have g2 := fun d os => cell_regrown k0 d os
                        have g3 := fun d os => cell_regrown k1 d os
                        have g4 := fun d os => cell_regrown k2 d os
                        have hi1 : (0 : Int) ≤ (i : Int) := by omega
                        have hi2 : (i : Int) < (jn : Int) := by omega
                        cases hA
                        clear b1 xc k0 k1 k2
                        go_wp2_with fail
                        refine wp_region_ch 8 [7] hmo (by kernel_rfl) ?_
                        simp only [List.take_succ_cons, List.take_zero, List.drop_succ_cons, List.drop_zero]
                        repeat (refine wpC_q (by decide) (by decide) (fun K hK => ?_); go_simp; refine hK _ ?_; clear hK K)
                        refine wpC_v (ι := Nat) (fun n => .slice (some ⟨n, 0, none⟩) 1 1) (fun n W => BK W n 89 #[.int .i64 x.pos, .int .i64 x.arms, .int .i64 x.way] ∧ Wa.heap.size ≤ n) (by decide) (by decide) rfl stable_true (fun n x y hh hb => ⟨hh.1.below hb hh.1.lt, hh.2⟩) (fun W hW _ => ?_) (fun nb hs1 => ?_)
                        · obtain ⟨pp, rfl⟩ := hW
                          have hbp := (below_regrown Wa pp.d pp.os).size
                          exact ⟨_, _, by go_simp, ⟨BK.new _ _ _, hbp⟩, (Below.refl _ _).alloc (Nat.le_refl _) _⟩
                        refine wpC_nil ?_
                        intro Wh hbh hΦ
                        obtain ⟨-, hNB, hnb⟩ := hΦ
                        clear g0 g1 g2 g3 g4 hs1
                        have hJh := hJA.call hbh
                        have hbw := hba.trans (hbh.mono hba.size)
                        have hwz := hbw.size
                        have b1 := hJh.b.cell 2
                        have bl := hJh.b.lt
                        simp only [List.getElem?_toArray, List.getElem?_cons_zero, List.getElem?_cons_succ] at b1
                        have hSX : SL jC 3 Wh Wh.heap.size (some ⟨nb, 0, none⟩) 1 [x] := SL.of_bk (xs := [x]) hNB rfl jC_len hNB.lt
                        have HFZ : Hid (∀ w3 A' c'', AppS jC 3 89 (w1.heap.size + 1) Wh A3 n3 c3 1 MJ [x] A' c'' w3 → w3.heap[w1.heap.size]? = Wh.heap[w1.heap.size]?) := by
                          intro w3 A' c'' hap
                          exact hap.far _ hJh.b.lt (fun b hb => BK.ne_row (.inr ⟨_, hJh.b⟩) hJh.j (by decide) hb)
                        have HSX := Lib.hid hSX
                        clear hJ hJA hNB hSX
                        go_wp2_with (at_builtin; refine wpList_appS rfl _ _ 24 rfl (w1.heap.size + 1) 89 _ 3 24 Try.underlying24 infoJ rfl (by decide) jC A3 n3 c3 MJ rfl hJh.j Wh.heap.size (some ⟨nb, 0, none⟩) 1 1 [x] rfl HSX.out jC_len oneJ (by omega) (by omega) (by omega) ?_; intro A2' c2' w3 hap; have hw3 := HFZ.out _ _ _ hap; have hm3 := hJh.b.same hw3; have m1' := hm3.cell 2; have mf := hm3.frozen 2; have HAP := Lib.hid hap; clear hap)
                        go_roundw
                        case rel =>
                          have hap := HAP.out
                          have hJn := hJh.appJS (by decide) (by decide) (by decide) (by decide) (by decide) hap
                          have hbd : Below w1.heap.size w1 Wh := hb.trans (hbw.mono hz)
                          refine ⟨i + 1, k', MJ ++ [x], _, _, _, by go_num, by go_num, by omega, by omega, ?_, ?_, hJn, (hbd.trans (hap.bel.mono (by omega))).setCell (Nat.le_refl _) _⟩
                          · show _ = _
                            have h1 := HM.out
                            rw [hstep.out, if_pos HQ.out] at h1
                            rw [← h1, HX.out, ← HVA.out]
                            simp
                          · show _ = _
                            have h1 := HG.out
                            rw [hstepg.out, if_pos HQ.out] at h1
                            exact h1
                        case measure => simp [intOf]; omega
                    · have u1 : decide (va.pos < vb.pos) = false := by simpa using q1'
                      have HQ1 := Lib.hid q1'
                      by_cases q2' : vb.pos < va.pos
                      · have u2 : decide (vb.pos < va.pos) = true := by simpa using q2'
                        have HQ := Lib.hid q2'
                        have HIX := HKX
                        clear q1' q2'
                        as_aux_lemma =>
                          go_wp2_with fail
                          go_quiet (fail)
                          go_wp2_with fail
                          go_quiet (fail)
                          clear a0 a1 a2 d0 d1 d2
                          go_upto_region 31 with fail
                          refine wp_wnamed (fun Wa hWa => ?_)
                          have hba : Below wr.heap.size wr Wa := by rw [hWa]; exact below_drewN (below_drewN (Below.refl _ _) _) _
                          have hJA := hJ.call hba
                          have hBA := hBr.trans (hba.mono hBr.size)
                          have bX := hYr.below hba hYr.lt
                          clear hWa
                          obtain ⟨bb, off, hA, hbB, k0, k1, k2⟩ := JS.at_ (hR2.out.grow hBA hBA.size).j (k := k') HIX.out
                          obtain ⟨x, hx⟩ : ∃ x, x = R2.js[k']'HIX.out := ⟨_, rfl⟩
                          rw [← hx] at k0 k1 k2
                          have HX := Lib.hid hx
                          clear hx
                          have b1 := hJA.b.cell 2
                          have xc := bX.cell 2
                          simp only [List.getElem?_toArray, List.getElem?_cons_zero, List.getElem?_cons_succ] at b1 xc
                          have g0 := fun d os => cell_regrown b1 d os
                          have g1 := fun d os => cell_regrown xc d os
                          have g2 := fun d os => cell_regrown k0 d os
                          have g3 := fun d os => cell_regrown k1 d os
                          have g4 := fun d os => cell_regrown k2 d os
                          have hi1 : (0 : Int) ≤ (k' : Int) := by omega
                          have hi2 : (k' : Int) < (jn2 : Int) := by omega
                          cases hA
                          clear b1 xc k0 k1 k2
                          go_wp2_with fail
                          refine wp_region_ch 8 [7] hmo (by kernel_rfl) ?_
                          simp only [List.take_succ_cons, List.take_zero, List.drop_succ_cons, List.drop_zero]
                          repeat (refine wpC_q (by decide) (by decide) (fun K hK => ?_); go_simp; refine hK _ ?_; clear hK K)
                          refine wpC_v (ι := Nat) (fun n => .slice (some ⟨n, 0, none⟩) 1 1) (fun n W => BK W n 89 #[.int .i64 x.pos, .int .i64 x.arms, .int .i64 x.way] ∧ Wa.heap.size ≤ n) (by decide) (by decide) rfl stable_true (fun n x y hh hb => ⟨hh.1.below hb hh.1.lt, hh.2⟩) (fun W hW _ => ?_) (fun nb hs1 => ?_)
                          · obtain ⟨pp, rfl⟩ := hW
                            have hbp := (below_regrown Wa pp.d pp.os).size
                            exact ⟨_, _, by go_simp, ⟨BK.new _ _ _, hbp⟩, (Below.refl _ _).alloc (Nat.le_refl _) _⟩
                          refine wpC_nil ?_
                          intro Wh hbh hΦ
                          obtain ⟨-, hNB, hnb⟩ := hΦ
                          clear g0 g1 g2 g3 g4 hs1
                          have hJh := hJA.call hbh
                          have hbw := hba.trans (hbh.mono hba.size)
                          have hwz := hbw.size
                          have b1 := hJh.b.cell 2
                          have bl := hJh.b.lt
                          simp only [List.getElem?_toArray, List.getElem?_cons_zero, List.getElem?_cons_succ] at b1
                          have hSX : SL jC 3 Wh Wh.heap.size (some ⟨nb, 0, none⟩) 1 [x] := SL.of_bk (xs := [x]) hNB rfl jC_len hNB.lt
                          have HFZ : Hid (∀ w3 A' c'', AppS jC 3 89 (w1.heap.size + 1) Wh A3 n3 c3 1 MJ [x] A' c'' w3 → w3.heap[w1.heap.size]? = Wh.heap[w1.heap.size]?) := by
                            intro w3 A' c'' hap
                            exact hap.far _ hJh.b.lt (fun b hb => BK.ne_row (.inr ⟨_, hJh.b⟩) hJh.j (by decide) hb)
                          have HSX := Lib.hid hSX
                          clear hJ hJA hNB hSX
                          go_wp2_with (at_builtin; refine wpList_appS rfl _ _ 24 rfl (w1.heap.size + 1) 89 _ 3 24 Try.underlying24 infoJ rfl (by decide) jC A3 n3 c3 MJ rfl hJh.j Wh.heap.size (some ⟨nb, 0, none⟩) 1 1 [x] rfl HSX.out jC_len oneJ (by omega) (by omega) (by omega) ?_; intro A2' c2' w3 hap; have hw3 := HFZ.out _ _ _ hap; have hm3 := hJh.b.same hw3; have m1' := hm3.cell 2; have mf := hm3.frozen 2; have HAP := Lib.hid hap; clear hap)
                          go_roundw
                          case rel =>
                            have hap := HAP.out
                            have hJn := hJh.appJS (by decide) (by decide) (by decide) (by decide) (by decide) hap
                            have hbd : Below w1.heap.size w1 Wh := hb.trans (hbw.mono hz)
                            refine ⟨i, k' + 1, MJ ++ [x], _, _, _, by go_num, by go_num, by omega, by omega, ?_, ?_, hJn, (hbd.trans (hap.bel.mono (by omega))).setCell (Nat.le_refl _) _⟩
                            · show _ = _
                              have h1 := HM.out
                              rw [hstep.out, if_neg (by have := HQ1.out; omega), if_pos HQ.out] at h1
                              rw [← h1, HX.out, ← HVB.out]
                              simp
                            · show _ = _
                              have h1 := HG.out
                              rw [hstepg.out, if_neg (by have := HQ1.out; omega), if_pos HQ.out] at h1
                              exact h1
                          case measure => simp [intOf]; omega
                      · have u2 : decide (vb.pos < va.pos) = false := by simpa using q2'
                        have HQ2 := Lib.hid q2'
                        have hpe : va.pos = vb.pos := by omega
                        clear q1' q2'
                        by_cases h2 : va.arms = vb.arms
                        · by_cases h3 : va.way = vb.way
                          · have e : vb = va := by cases va; cases vb; simp at hpe h2 h3; simp [hpe, h2, h3]
                            subst e
                            clear hpe h2 h3
                            have HOK : Hid (okJ vb vb = true) := okJ_own vb
                            have HIX := HAX
                            as_aux_lemma =>
                              go_wp2_with fail
                              go_quiet (fail)
                              go_wp2_with fail
                              go_quiet (fail)
                              go_wp2_with fail
                              go_quiet (fail)
                              clear a0 a1 a2 d0 d1 d2
                              go_upto_region 24 with fail
                              refine wp_wnamed (fun Wa hWa => ?_)
                              have hba : Below wr.heap.size wr Wa := by rw [hWa]; exact below_drewN (below_drewN (below_drewN (Below.refl _ _) _) _) _
                              have hJA := hJ.call hba
                              have hBA := hBr.trans (hba.mono hBr.size)
                              have bX := hXr.below hba hXr.lt
                              clear hWa
                              obtain ⟨bb, off, hA, hbB, k0, k1, k2⟩ := JS.at_ (hR.out.grow hBA hBA.size).j (k := i) HIX.out
                              obtain ⟨x, hx⟩ : ∃ x, x = R.js[i]'HIX.out := ⟨_, rfl⟩
                              rw [← hx] at k0 k1 k2
                              have HX := Lib.hid hx
                              clear hx
                              have b1 := hJA.b.cell 2
                              have xc := bX.cell 2
                              simp only [List.getElem?_toArray, List.getElem?_cons_zero, List.getElem?_cons_succ] at b1 xc
                              have g0 := fun d os => cell_regrown b1 d os
                              have g1 := fun d os => cell_regrown xc d os
                              have g2 := fun d os => cell_regrown k0 d os
                              have g3 := fun d os => cell_regrown k1 d os
                              have g4 := fun d os => cell_regrown k2 d os
                              have hi1 : (0 : Int) ≤ (i : Int) := by omega
                              have hi2 : (i : Int) < (jn : Int) := by omega
                              cases hA
                              clear b1 xc k0 k1 k2
                              go_wp2_with fail
                              refine wp_region_ch 8 [7] hmo (by kernel_rfl) ?_
                              simp only [List.take_succ_cons, List.take_zero, List.drop_succ_cons, List.drop_zero]
                              repeat (refine wpC_q (by decide) (by decide) (fun K hK => ?_); go_simp; refine hK _ ?_; clear hK K)
                              refine wpC_v (ι := Nat) (fun n => .slice (some ⟨n, 0, none⟩) 1 1) (fun n W => BK W n 89 #[.int .i64 x.pos, .int .i64 x.arms, .int .i64 x.way] ∧ Wa.heap.size ≤ n) (by decide) (by decide) rfl stable_true (fun n x y hh hb => ⟨hh.1.below hb hh.1.lt, hh.2⟩) (fun W hW _ => ?_) (fun nb hs1 => ?_)
                              · obtain ⟨pp, rfl⟩ := hW
                                have hbp := (below_regrown Wa pp.d pp.os).size
                                exact ⟨_, _, by go_simp, ⟨BK.new _ _ _, hbp⟩, (Below.refl _ _).alloc (Nat.le_refl _) _⟩
                              refine wpC_nil ?_
                              intro Wh hbh hΦ
                              obtain ⟨-, hNB, hnb⟩ := hΦ
                              clear g0 g1 g2 g3 g4 hs1
                              have hJh := hJA.call hbh
                              have hbw := hba.trans (hbh.mono hba.size)
                              have hwz := hbw.size
                              have b1 := hJh.b.cell 2
                              have bl := hJh.b.lt
                              simp only [List.getElem?_toArray, List.getElem?_cons_zero, List.getElem?_cons_succ] at b1
                              have hSX : SL jC 3 Wh Wh.heap.size (some ⟨nb, 0, none⟩) 1 [x] := SL.of_bk (xs := [x]) hNB rfl jC_len hNB.lt
                              have HFZ : Hid (∀ w3 A' c'', AppS jC 3 89 (w1.heap.size + 1) Wh A3 n3 c3 1 MJ [x] A' c'' w3 → w3.heap[w1.heap.size]? = Wh.heap[w1.heap.size]?) := by
                                intro w3 A' c'' hap
                                exact hap.far _ hJh.b.lt (fun b hb => BK.ne_row (.inr ⟨_, hJh.b⟩) hJh.j (by decide) hb)
                              have HSX := Lib.hid hSX
                              clear hJ hJA hNB hSX
                              go_wp2_with (at_builtin; refine wpList_appS rfl _ _ 24 rfl (w1.heap.size + 1) 89 _ 3 24 Try.underlying24 infoJ rfl (by decide) jC A3 n3 c3 MJ rfl hJh.j Wh.heap.size (some ⟨nb, 0, none⟩) 1 1 [x] rfl HSX.out jC_len oneJ (by omega) (by omega) (by omega) ?_; intro A2' c2' w3 hap; have hw3 := HFZ.out _ _ _ hap; have hm3 := hJh.b.same hw3; have m1' := hm3.cell 2; have mf := hm3.frozen 2; have HAP := Lib.hid hap; clear hap)
                              go_roundw
                              case rel =>
                                have hap := HAP.out
                                have hJn := hJh.appJS (by decide) (by decide) (by decide) (by decide) (by decide) hap
                                have hbd : Below w1.heap.size w1 Wh := hb.trans (hbw.mono hz)
                                refine ⟨i + 1, k' + 1, MJ ++ [x], _, _, _, by go_num, by go_num, by omega, by omega, ?_, ?_, hJn, (hbd.trans (hap.bel.mono (by omega))).setCell (Nat.le_refl _) _⟩
                                · show _ = _
                                  have h1 := HM.out
                                  rw [hstep.out, if_neg (by have := HQ1.out; omega), if_neg (by have := HQ2.out; omega)] at h1
                                  rw [← h1, HX.out, ← HVA.out]
                                  simp [bothJ]
                                · show _ = _
                                  have h1 := HG.out
                                  rw [hstepg.out, if_neg (by have := HQ1.out; omega), if_neg (by have := HQ2.out; omega), HOK.out, Bool.true_and] at h1
                                  exact h1
                              case measure => simp [intOf]; omega
                          · have HOK : Hid (okJ va vb = false) := by show _ = _; simp [okJ, h3]
                            have u3 : (va.pos == vb.pos) = true := by simpa using hpe
                            have u4 : (va.arms == vb.arms) = true := by simpa using h2
                            have u5 : (va.way == vb.way) = false := by simpa using h3
                            clear hpe h2 h3
                            as_aux_lemma =>
                              go_wp2_with fail
                              go_quiet (fail)
                              go_wp2_with fail
                              go_quiet (fail)
                              go_wp2_with fail
                              go_quiet (fail)
                              go_upto_region 34 with fail
                              refine wp_wnamed (fun Wd hWd => ?_)
                              have hBd0 : Below wr.heap.size wr Wd := by rw [hWd]; exact below_drewN (below_drewN (below_drewN (Below.refl _ _) _) _) _
                              clear a0 a1 a2 d0 d1 d2 hWd x1 y1
                              have hBd : Below w.heap.size w Wd := hBr.trans (hBd0.mono hBr.size)
                              have hZd := hZr.below hBd0 hZr.lt
                              have hgf : Hid (GJ = false) := by
                                show _ = _
                                have h1 := HG.out
                                rw [hstepg.out, if_neg (by have := HQ1.out; omega), if_neg (by have := HQ2.out; omega), HOK.out, Bool.false_and] at h1
                                exact h1.symm
                              have z0 := hZd.cell 0
                              have z1 := hZd.cell 1
                              have z2 := hZd.cell 2
                              have zf := hZd.frozen
                              have zl := hZd.lt
                              simp only [List.getElem?_toArray, List.getElem?_cons_zero, List.getElem?_cons_succ] at z0 z1 z2
                              obtain ⟨WF, hWF⟩ : ∃ WF, WF = ((Wd.setCell ⟨w.heap.size + 1 + 1, 0, none⟩ (.slice none 0 0)).setCell ⟨w.heap.size + 1 + 1, 1, none⟩ (.slice none 0 0)).setCell ⟨w.heap.size + 1 + 1, 2, none⟩ (.slice none 0 0) := ⟨_, rfl⟩
                              have hZF : BK WF (w.heap.size + 1 + 1) 26 #[.slice none 0 0, .slice none 0 0, .slice none 0 0] := by rw [hWF]; exact ((hZd.set_ 0 _).set_ 1 _).set_ 2 _
                              have hBF : Below w.heap.size w WF := by rw [hWF]; exact ((hBd.setCell (p := ⟨w.heap.size + 1 + 1, 0, none⟩) (by simp <;> omega) _).setCell (p := ⟨w.heap.size + 1 + 1, 1, none⟩) (by simp <;> omega) _).setCell (p := ⟨w.heap.size + 1 + 1, 2, none⟩) (by simp <;> omega) _
                              have HWF := Lib.hid hWF
                              clear hWF hZd hBd
                              go_wp2_with fail
                              rw [← HWF.out]
                              clear z0 z1 z2
                              have z0 := hZF.cell 0
                              have z1 := hZF.cell 1
                              have z2 := hZF.cell 2
                              simp only [List.getElem?_toArray, List.getElem?_cons_zero, List.getElem?_cons_succ] at z0 z1 z2
                              refine bodyPost_ret (v := .tuple #[.agg #[.slice none 0 0, .slice none 0 0, .slice none 0 0], .int .i64 5]) (by simp [results, Try.results47, go_sem, z0, z1, z2]) rfl ⟨⟨fun _ => rfl, fun _ _ _ => rfl, fun _ _ hh => absurd (hgf.out.symm.trans (HGJ.out.trans hh)) (by decide)⟩, hBF⟩
                        · have HOK : Hid (okJ va vb = false) := by show _ = _; simp [okJ, h2]
                          have u3 : (va.pos == vb.pos) = true := by simpa using hpe
                          have u4 : (va.arms == vb.arms) = false := by simpa using h2
                          clear hpe h2
                          as_aux_lemma =>
                            go_wp2_with fail
                            go_quiet (fail)
                            go_wp2_with fail
                            go_quiet (fail)
                            go_wp2_with fail
                            go_quiet (fail)
                            go_upto_region 34 with fail
                            refine wp_wnamed (fun Wd hWd => ?_)
                            have hBd0 : Below wr.heap.size wr Wd := by rw [hWd]; exact below_drewN (below_drewN (below_drewN (Below.refl _ _) _) _) _
                            clear a0 a1 a2 d0 d1 d2 hWd x1 y1
                            have hBd : Below w.heap.size w Wd := hBr.trans (hBd0.mono hBr.size)
                            have hZd := hZr.below hBd0 hZr.lt
                            have hgf : Hid (GJ = false) := by
                              show _ = _
                              have h1 := HG.out
                              rw [hstepg.out, if_neg (by have := HQ1.out; omega), if_neg (by have := HQ2.out; omega), HOK.out, Bool.false_and] at h1
                              exact h1.symm
                            have z0 := hZd.cell 0
                            have z1 := hZd.cell 1
                            have z2 := hZd.cell 2
                            have zf := hZd.frozen
                            have zl := hZd.lt
                            simp only [List.getElem?_toArray, List.getElem?_cons_zero, List.getElem?_cons_succ] at z0 z1 z2
                            obtain ⟨WF, hWF⟩ : ∃ WF, WF = ((Wd.setCell ⟨w.heap.size + 1 + 1, 0, none⟩ (.slice none 0 0)).setCell ⟨w.heap.size + 1 + 1, 1, none⟩ (.slice none 0 0)).setCell ⟨w.heap.size + 1 + 1, 2, none⟩ (.slice none 0 0) := ⟨_, rfl⟩
                            have hZF : BK WF (w.heap.size + 1 + 1) 26 #[.slice none 0 0, .slice none 0 0, .slice none 0 0] := by rw [hWF]; exact ((hZd.set_ 0 _).set_ 1 _).set_ 2 _
                            have hBF : Below w.heap.size w WF := by rw [hWF]; exact ((hBd.setCell (p := ⟨w.heap.size + 1 + 1, 0, none⟩) (by simp <;> omega) _).setCell (p := ⟨w.heap.size + 1 + 1, 1, none⟩) (by simp <;> omega) _).setCell (p := ⟨w.heap.size + 1 + 1, 2, none⟩) (by simp <;> omega) _
                            have HWF := Lib.hid hWF
                            clear hWF hZd hBd
                            go_wp2_with fail
                            rw [← HWF.out]
                            clear z0 z1 z2
                            have z0 := hZF.cell 0
                            have z1 := hZF.cell 1
                            have z2 := hZF.cell 2
                            simp only [List.getElem?_toArray, List.getElem?_cons_zero, List.getElem?_cons_succ] at z0 z1 z2
                            refine bodyPost_ret (v := .tuple #[.agg #[.slice none 0 0, .slice none 0 0, .slice none 0 0], .int .i64 5]) (by simp [results, Try.results47, go_sem, z0, z1, z2]) rfl ⟨⟨fun _ => rfl, fun _ _ _ => rfl, fun _ _ hh => absurd (hgf.out.symm.trans (HGJ.out.trans hh)) (by decide)⟩, hBF⟩
          · have hil : i < cn := by omega
            have hdr : Hid (R2.cs.drop k' = []) := by show _ = _; exact List.drop_of_length_le (by rw [HC2.out]; exact Nat.le_refl _)
            have HIX : Hid (i < R.cs.length) := by show _ < _; rw [← HC1.out]; exact hil
            have hnl : n2 ≤ 2000 := by
              have h1 := hJ.c.len
              have h2 := congrArg List.length HM.out
              rw [List.length_append] at h2
              omega
            as_aux_lemma =>
              go_wp2_with fail
              go_quiet (fail)
              go_upto_region 17 with fail
              refine wp_wnamed (fun Wa hWa => ?_)
              have hba : Below wr.heap.size wr Wa := by rw [hWa]; exact below_drewN (Below.refl _ _) _
              have hJA := hJ.call hba
              have hBA := hBr.trans (hba.mono hBr.size)
              have bX := hXr.below hba hXr.lt
              clear hWa
              obtain ⟨bb, off, hA, hbB, k0, k1⟩ := CS.at_ (hR.out.grow hBA hBA.size).c (k := i) HIX.out
              obtain ⟨x, hx⟩ : ∃ x, x = R.cs[i]'HIX.out := ⟨_, rfl⟩
              rw [← hx] at k0 k1
              have HX := Lib.hid hx
              clear hx
              have b1 := hJA.b.cell 1
              have xc := bX.cell 1
              simp only [List.getElem?_toArray, List.getElem?_cons_zero, List.getElem?_cons_succ] at b1 xc
              have g0 := fun d os => cell_regrown b1 d os
              have g1 := fun d os => cell_regrown xc d os
              have g2 := fun d os => cell_regrown k0 d os
              have g3 := fun d os => cell_regrown k1 d os
              have hi1 : (0 : Int) ≤ (i : Int) := by omega
              have hi2 : (i : Int) < (cn : Int) := by omega
              cases hA
              clear b1 xc k0 k1
              go_wp2_with fail
              refine wp_region_ch 8 [7] hmo (by kernel_rfl) ?_
              simp only [List.take_succ_cons, List.take_zero, List.drop_succ_cons, List.drop_zero]
              repeat (refine wpC_q (by decide) (by decide) (fun K hK => ?_); go_simp; refine hK _ ?_; clear hK K)
              refine wpC_v (ι := Nat) (fun n => .slice (some ⟨n, 0, none⟩) 1 1) (fun n W => BK W n 87 #[.int .i64 x.pos, .int .i64 x.siz] ∧ Wa.heap.size ≤ n) (by decide) (by decide) rfl stable_true (fun n x y hh hb => ⟨hh.1.below hb hh.1.lt, hh.2⟩) (fun W hW _ => ?_) (fun nb hs1 => ?_)
              · obtain ⟨pp, rfl⟩ := hW
                have hbp := (below_regrown Wa pp.d pp.os).size
                exact ⟨_, _, by go_simp, ⟨BK.new _ _ _, hbp⟩, (Below.refl _ _).alloc (Nat.le_refl _) _⟩
              refine wpC_nil ?_
              intro Wh hbh hΦ
              obtain ⟨-, hNB, hnb⟩ := hΦ
              clear g0 g1 g2 g3 hs1
              have hJh := hJA.call hbh
              have hbw := hba.trans (hbh.mono hba.size)
              have hwz := hbw.size
              have b1 := hJh.b.cell 1
              have bl := hJh.b.lt
              simp only [List.getElem?_toArray, List.getElem?_cons_zero, List.getElem?_cons_succ] at b1
              have hSX : SL cC 2 Wh Wh.heap.size (some ⟨nb, 0, none⟩) 1 [x] := SL.of_bk (xs := [x]) hNB rfl cC_len hNB.lt
              have HFZ : Hid (∀ w3 A' c'', AppS cC 2 87 (w1.heap.size + 1) Wh A2 n2 c2 1 M [x] A' c'' w3 → w3.heap[w1.heap.size]? = Wh.heap[w1.heap.size]?) := by
                intro w3 A' c'' hap
                exact hap.far _ hJh.b.lt (fun b hb => BK.ne_row (.inr ⟨_, hJh.b⟩) hJh.c (by decide) hb)
              have HSX := Lib.hid hSX
              clear hJ hJA hNB hSX
              go_wp2_with (at_builtin; refine wpList_appS rfl _ _ 23 rfl (w1.heap.size + 1) 87 _ 2 16 Try.underlying23 infoC rfl (by decide) cC A2 n2 c2 M rfl hJh.c Wh.heap.size (some ⟨nb, 0, none⟩) 1 1 [x] rfl HSX.out cC_len oneC (by omega) (by omega) (by omega) ?_; intro A2' c2' w3 hap; have hw3 := HFZ.out _ _ _ hap; have hm3 := hJh.b.same hw3; have m1' := hm3.cell 1; have mf := hm3.frozen 1; have HAP := Lib.hid hap; clear hap)
              go_roundw
              case rel =>
                have hap := HAP.out
                have hJn := hJh.appCS (by decide) (by decide) (by decide) (by decide) (by decide) hap
                have hbd : Below w1.heap.size w1 Wh := hb.trans (hbw.mono hz)
                refine ⟨i + 1, k', M ++ [x], _, _, _, by go_num, by go_num, by omega, by omega, ?_, hJn, (hbd.trans (hap.bel.mono (by omega))).setCell (Nat.le_refl _) _⟩
                show _ = _
                have h1 := HM.out
                rw [hdr.out, mr2_nil] at h1 ⊢
                rw [← h1, List.drop_eq_getElem_cons HIX.out, ← HX.out]
                simp
              case measure => simp [intOf]; omega
        · have hkl : k' < cn2 := by omega
          have HKX : Hid (k' < R2.cs.length) := by show _ < _; rw [← HC2.out]; exact hkl
          have hnl : n2 ≤ 2000 := by
            have h1 := hJ.c.len
            have h2 := congrArg List.length HM.out
            rw [List.length_append] at h2
            omega
          have hj1 : (0 : Int) ≤ (k' : Int) := by omega
          have hj2 : (k' : Int) < (cn2 : Int) := by omega
          have ue1 : ((k' : Int) == (cn2 : Int)) = false := by simp; omega
          by_cases hii : i = cn
          · subst hii
            have hdr : Hid (R.cs.drop i = []) := by show _ = _; exact List.drop_of_length_le (by rw [HC1.out]; exact Nat.le_refl _)
            have HIX := HKX
            as_aux_lemma =>
              go_wp2_with fail
              go_quiet (fail)
              go_wp2_with fail
              go_quiet (fail)
              go_upto_region 20 with fail
              refine wp_wnamed (fun Wa hWa => ?_)
              have hba : Below wr.heap.size wr Wa := by rw [hWa]; exact below_drewN (below_drewN (Below.refl _ _) _) _
              have hJA := hJ.call hba
              have hBA := hBr.trans (hba.mono hBr.size)
              have bX := hYr.below hba hYr.lt
              clear hWa
              obtain ⟨bb, off, hA, hbB, k0, k1⟩ := CS.at_ (hR2.out.grow hBA hBA.size).c (k := k') HIX.out
              obtain ⟨x, hx⟩ : ∃ x, x = R2.cs[k']'HIX.out := ⟨_, rfl⟩
              rw [← hx] at k0 k1
              have HX := Lib.hid hx
              clear hx
              have b1 := hJA.b.cell 1
              have xc := bX.cell 1
              simp only [List.getElem?_toArray, List.getElem?_cons_zero, List.getElem?_cons_succ] at b1 xc
              have g0 := fun d os => cell_regrown b1 d os
              have g1 := fun d os => cell_regrown xc d os
              have g2 := fun d os => cell_regrown k0 d os
              have g3 := fun d os => cell_regrown k1 d os
              have hi1 : (0 : Int) ≤ (k' : Int) := by omega
              have hi2 : (k' : Int) < (cn2 : Int) := by omega
              cases hA
              clear b1 xc k0 k1
              go_wp2_with fail
              refine wp_region_ch 8 [7] hmo (by kernel_rfl) ?_
              simp only [List.take_succ_cons, List.take_zero, List.drop_succ_cons, List.drop_zero]
              repeat (refine wpC_q (by decide) (by decide) (fun K hK => ?_); go_simp; refine hK _ ?_; clear hK K)
              refine wpC_v (ι := Nat) (fun n => .slice (some ⟨n, 0, none⟩) 1 1) (fun n W => BK W n 87 #[.int .i64 x.pos, .int .i64 x.siz] ∧ Wa.heap.size ≤ n) (by decide) (by decide) rfl stable_true (fun n x y hh hb => ⟨hh.1.below hb hh.1.lt, hh.2⟩) (fun W hW _ => ?_) (fun nb hs1 => ?_)
              · obtain ⟨pp, rfl⟩ := hW
                have hbp := (below_regrown Wa pp.d pp.os).size
                exact ⟨_, _, by go_simp, ⟨BK.new _ _ _, hbp⟩, (Below.refl _ _).alloc (Nat.le_refl _) _⟩
              refine wpC_nil ?_
              intro Wh hbh hΦ
              obtain ⟨-, hNB, hnb⟩ := hΦ
              clear g0 g1 g2 g3 hs1
              have hJh := hJA.call hbh
              have hbw := hba.trans (hbh.mono hba.size)
              have hwz := hbw.size
              have b1 := hJh.b.cell 1
              have bl := hJh.b.lt
              simp only [List.getElem?_toArray, List.getElem?_cons_zero, List.getElem?_cons_succ] at b1
              have hSX : SL cC 2 Wh Wh.heap.size (some ⟨nb, 0, none⟩) 1 [x] := SL.of_bk (xs := [x]) hNB rfl cC_len hNB.lt
              have HFZ : Hid (∀ w3 A' c'', AppS cC 2 87 (w1.heap.size + 1) Wh A2 n2 c2 1 M [x] A' c'' w3 → w3.heap[w1.heap.size]? = Wh.heap[w1.heap.size]?) := by
                intro w3 A' c'' hap
                exact hap.far _ hJh.b.lt (fun b hb => BK.ne_row (.inr ⟨_, hJh.b⟩) hJh.c (by decide) hb)
              have HSX := Lib.hid hSX
              clear hJ hJA hNB hSX
              go_wp2_with (at_builtin; refine wpList_appS rfl _ _ 23 rfl (w1.heap.size + 1) 87 _ 2 16 Try.underlying23 infoC rfl (by decide) cC A2 n2 c2 M rfl hJh.c Wh.heap.size (some ⟨nb, 0, none⟩) 1 1 [x] rfl HSX.out cC_len oneC (by omega) (by omega) (by omega) ?_; intro A2' c2' w3 hap; have hw3 := HFZ.out _ _ _ hap; have hm3 := hJh.b.same hw3; have m1' := hm3.cell 1; have mf := hm3.frozen 1; have HAP := Lib.hid hap; clear hap)
              go_roundw
              case rel =>
                have hap := HAP.out
                have hJn := hJh.appCS (by decide) (by decide) (by decide) (by decide) (by decide) hap
                have hbd : Below w1.heap.size w1 Wh := hb.trans (hbw.mono hz)
                refine ⟨i, k' + 1, M ++ [x], _, _, _, by go_num, by go_num, by omega, by omega, ?_, hJn, (hbd.trans (hap.bel.mono (by omega))).setCell (Nat.le_refl _) _⟩
                show _ = _
                have h1 := HM.out
                rw [hdr.out, nil_mr2] at h1 ⊢
                rw [← h1, List.drop_eq_getElem_cons HIX.out, ← HX.out]
                simp
              case measure => simp [intOf]; omega
          · have hil : i < cn := by omega
            have HAX : Hid (i < R.cs.length) := by show _ < _; rw [← HC1.out]; exact hil
            have hj3 : (0 : Int) ≤ (i : Int) := by omega
            have ue2 : ((i : Int) == (cn : Int)) = false := by simp; omega
            have hj4 : (i : Int) < (cn : Int) := by omega
            obtain ⟨ba, oa, hAa, hbBa, a0, a1⟩ := CS.at_ (hR.out.grow hBr hBr.size).c (k := i) HAX.out
            obtain ⟨bc, oc, hAc, hbBc, d0, d1⟩ := CS.at_ (hR2.out.grow hBr hBr.size).c (k := k') HKX.out
            obtain ⟨va, hva⟩ : ∃ va, va = R.cs[i]'HAX.out := ⟨_, rfl⟩
            obtain ⟨vb, hvb⟩ : ∃ vb, vb = R2.cs[k']'HKX.out := ⟨_, rfl⟩
            rw [← hva] at a0 a1
            rw [← hvb] at d0 d1
            have HVA := Lib.hid hva
            have HVB := Lib.hid hvb
            cases hAa
            cases hAc
            clear hva hvb
            have hstep : Hid (mr2 (fun x : Crest => x.pos) bothC (R.cs.drop i) (R2.cs.drop k') = if va.pos < vb.pos then va :: mr2 (fun x : Crest => x.pos) bothC (R.cs.drop (i + 1)) (R2.cs.drop k') else if vb.pos < va.pos then vb :: mr2 (fun x : Crest => x.pos) bothC (R.cs.drop i) (R2.cs.drop (k' + 1)) else bothC va vb :: mr2 (fun x : Crest => x.pos) bothC (R.cs.drop (i + 1)) (R2.cs.drop (k' + 1))) := by
              show _ = _
              have e1 := List.drop_eq_getElem_cons HAX.out
              have e2 := List.drop_eq_getElem_cons HKX.out
              rw [← HVA.out] at e1
              rw [← HVB.out] at e2
              rw [e1, e2, mr2_cons]
            by_cases q1' : va.pos < vb.pos
            · have u1 : decide (va.pos < vb.pos) = true := by simpa using q1'
              have HQ := Lib.hid q1'
              have HIX := HAX
              clear q1'
              as_aux_lemma =>
                go_wp2_with fail
                go_quiet (fail)
                clear a0 a1 d0 d1
                go_upto_region 17 with fail
                refine wp_wnamed (fun Wa hWa => ?_)
                have hba : Below wr.heap.size wr Wa := by rw [hWa]; exact below_drewN (Below.refl _ _) _
                have hJA := hJ.call hba
                have hBA := hBr.trans (hba.mono hBr.size)
                have bX := hXr.below hba hXr.lt
                clear hWa
                obtain ⟨bb, off, hA, hbB, k0, k1⟩ := CS.at_ (hR.out.grow hBA hBA.size).c (k := i) HIX.out
                obtain ⟨x, hx⟩ : ∃ x, x = R.cs[i]'HIX.out := ⟨_, rfl⟩
                rw [← hx] at k0 k1
                have HX := Lib.hid hx
                clear hx
                have b1 := hJA.b.cell 1
                have xc := bX.cell 1
                simp only [List.getElem?_toArray, List.getElem?_cons_zero, List.getElem?_cons_succ] at b1 xc
                have g0 := fun d os => cell_regrown b1 d os
                have g1 := fun d os => cell_regrown xc d os
                have g2 := fun d os => cell_regrown k0 d os
                have g3 := fun d os => cell_regrown k1 d os
                have hi1 : (0 : Int) ≤ (i : Int) := by omega
                have hi2 : (i : Int) < (cn : Int) := by omega
                cases hA
                clear b1 xc k0 k1
                go_wp2_with fail
                refine wp_region_ch 8 [7] hmo (by kernel_rfl) ?_
                simp only [List.take_succ_cons, List.take_zero, List.drop_succ_cons, List.drop_zero]
                repeat (refine wpC_q (by decide) (by decide) (fun K hK => ?_); go_simp; refine hK _ ?_; clear hK K)
                refine wpC_v (ι := Nat) (fun n => .slice (some ⟨n, 0, none⟩) 1 1) (fun n W => BK W n 87 #[.int .i64 x.pos, .int .i64 x.siz] ∧ Wa.heap.size ≤ n) (by decide) (by decide) rfl stable_true (fun n x y hh hb => ⟨hh.1.below hb hh.1.lt, hh.2⟩) (fun W hW _ => ?_) (fun nb hs1 => ?_)
                · obtain ⟨pp, rfl⟩ := hW
                  have hbp := (below_regrown Wa pp.d pp.os).size
                  exact ⟨_, _, by go_simp, ⟨BK.new _ _ _, hbp⟩, (Below.refl _ _).alloc (Nat.le_refl _) _⟩
                refine wpC_nil ?_
                intro Wh hbh hΦ
                obtain ⟨-, hNB, hnb⟩ := hΦ
                clear g0 g1 g2 g3 hs1
                have hJh := hJA.call hbh
                have hbw := hba.trans (hbh.mono hba.size)
                have hwz := hbw.size
                have b1 := hJh.b.cell 1
                have bl := hJh.b.lt
                simp only [List.getElem?_toArray, List.getElem?_cons_zero, List.getElem?_cons_succ] at b1
                have hSX : SL cC 2 Wh Wh.heap.size (some ⟨nb, 0, none⟩) 1 [x] := SL.of_bk (xs := [x]) hNB rfl cC_len hNB.lt
                have HFZ : Hid (∀ w3 A' c'', AppS cC 2 87 (w1.heap.size + 1) Wh A2 n2 c2 1 M [x] A' c'' w3 → w3.heap[w1.heap.size]? = Wh.heap[w1.heap.size]?) := by
                  intro w3 A' c'' hap
                  exact hap.far _ hJh.b.lt (fun b hb => BK.ne_row (.inr ⟨_, hJh.b⟩) hJh.c (by decide) hb)
                have HSX := Lib.hid hSX
                clear hJ hJA hNB hSX
                go_wp2_with (at_builtin; refine wpList_appS rfl _ _ 23 rfl (w1.heap.size + 1) 87 _ 2 16 Try.underlying23 infoC rfl (by decide) cC A2 n2 c2 M rfl hJh.c Wh.heap.size (some ⟨nb, 0, none⟩) 1 1 [x] rfl HSX.out cC_len oneC (by omega) (by omega) (by omega) ?_; intro A2' c2' w3 hap; have hw3 := HFZ.out _ _ _ hap; have hm3 := hJh.b.same hw3; have m1' := hm3.cell 1; have mf := hm3.frozen 1; have HAP := Lib.hid hap; clear hap)
                go_roundw
                case rel =>
                  have hap := HAP.out
                  have hJn := hJh.appCS (by decide) (by decide) (by decide) (by decide) (by decide) hap
                  have hbd : Below w1.heap.size w1 Wh := hb.trans (hbw.mono hz)
                  refine ⟨i + 1, k', M ++ [x], _, _, _, by go_num, by go_num, by omega, by omega, ?_, hJn, (hbd.trans (hap.bel.mono (by omega))).setCell (Nat.le_refl _) _⟩
                  show _ = _
                  have h1 := HM.out
                  rw [hstep.out, if_pos HQ.out] at h1
                  rw [← h1, HX.out, ← HVA.out]
                  simp
                case measure => simp [intOf]; omega
            · have u1 : decide (va.pos < vb.pos) = false := by simpa using q1'
              have HQ1 := Lib.hid q1'
              clear q1'
              by_cases q2' : vb.pos < va.pos
              · have u2 : decide (vb.pos < va.pos) = true := by simpa using q2'
                have HQ := Lib.hid q2'
                have HIX := HKX
                clear q2'
                as_aux_lemma =>
                  go_wp2_with fail
                  go_quiet (fail)
                  go_wp2_with fail
                  go_quiet (fail)
                  clear a0 a1 d0 d1
                  go_upto_region 20 with fail
                  refine wp_wnamed (fun Wa hWa => ?_)
                  have hba : Below wr.heap.size wr Wa := by rw [hWa]; exact below_drewN (below_drewN (Below.refl _ _) _) _
                  have hJA := hJ.call hba
                  have hBA := hBr.trans (hba.mono hBr.size)
                  have bX := hYr.below hba hYr.lt
                  clear hWa
                  obtain ⟨bb, off, hA, hbB, k0, k1⟩ := CS.at_ (hR2.out.grow hBA hBA.size).c (k := k') HIX.out
                  obtain ⟨x, hx⟩ : ∃ x, x = R2.cs[k']'HIX.out := ⟨_, rfl⟩
                  rw [← hx] at k0 k1
                  have HX := Lib.hid hx
                  clear hx
                  have b1 := hJA.b.cell 1
                  have xc := bX.cell 1
                  simp only [List.getElem?_toArray, List.getElem?_cons_zero, List.getElem?_cons_succ] at b1 xc
                  have g0 := fun d os => cell_regrown b1 d os
                  have g1 := fun d os => cell_regrown xc d os
                  have g2 := fun d os => cell_regrown k0 d os
                  have g3 := fun d os => cell_regrown k1 d os
                  have hi1 : (0 : Int) ≤ (k' : Int) := by omega
                  have hi2 : (k' : Int) < (cn2 : Int) := by omega
                  cases hA
                  clear b1 xc k0 k1
                  go_wp2_with fail
                  refine wp_region_ch 8 [7] hmo (by kernel_rfl) ?_
                  simp only [List.take_succ_cons, List.take_zero, List.drop_succ_cons, List.drop_zero]
                  repeat (refine wpC_q (by decide) (by decide) (fun K hK => ?_); go_simp; refine hK _ ?_; clear hK K)
                  refine wpC_v (ι := Nat) (fun n => .slice (some ⟨n, 0, none⟩) 1 1) (fun n W => BK W n 87 #[.int .i64 x.pos, .int .i64 x.siz] ∧ Wa.heap.size ≤ n) (by decide) (by decide) rfl stable_true (fun n x y hh hb => ⟨hh.1.below hb hh.1.lt, hh.2⟩) (fun W hW _ => ?_) (fun nb hs1 => ?_)
                  · obtain ⟨pp, rfl⟩ := hW
                    have hbp := (below_regrown Wa pp.d pp.os).size
                    exact ⟨_, _, by go_simp, ⟨BK.new _ _ _, hbp⟩, (Below.refl _ _).alloc (Nat.le_refl _) _⟩
                  refine wpC_nil ?_
                  intro Wh hbh hΦ
                  obtain ⟨-, hNB, hnb⟩ := hΦ
                  clear g0 g1 g2 g3 hs1
                  have hJh := hJA.call hbh
                  have hbw := hba.trans (hbh.mono hba.size)
                  have hwz := hbw.size
                  have b1 := hJh.b.cell 1
                  have bl := hJh.b.lt
                  simp only [List.getElem?_toArray, List.getElem?_cons_zero, List.getElem?_cons_succ] at b1
                  have hSX : SL cC 2 Wh Wh.heap.size (some ⟨nb, 0, none⟩) 1 [x] := SL.of_bk (xs := [x]) hNB rfl cC_len hNB.lt
                  have HFZ : Hid (∀ w3 A' c'', AppS cC 2 87 (w1.heap.size + 1) Wh A2 n2 c2 1 M [x] A' c'' w3 → w3.heap[w1.heap.size]? = Wh.heap[w1.heap.size]?) := by
                    intro w3 A' c'' hap
                    exact hap.far _ hJh.b.lt (fun b hb => BK.ne_row (.inr ⟨_, hJh.b⟩) hJh.c (by decide) hb)
                  have HSX := Lib.hid hSX
                  clear hJ hJA hNB hSX
                  go_wp2_with (at_builtin; refine wpList_appS rfl _ _ 23 rfl (w1.heap.size + 1) 87 _ 2 16 Try.underlying23 infoC rfl (by decide) cC A2 n2 c2 M rfl hJh.c Wh.heap.size (some ⟨nb, 0, none⟩) 1 1 [x] rfl HSX.out cC_len oneC (by omega) (by omega) (by omega) ?_; intro A2' c2' w3 hap; have hw3 := HFZ.out _ _ _ hap; have hm3 := hJh.b.same hw3; have m1' := hm3.cell 1; have mf := hm3.frozen 1; have HAP := Lib.hid hap; clear hap)
                  go_roundw
                  case rel =>
                    have hap := HAP.out
                    have hJn := hJh.appCS (by decide) (by decide) (by decide) (by decide) (by decide) hap
                    have hbd : Below w1.heap.size w1 Wh := hb.trans (hbw.mono hz)
                    refine ⟨i, k' + 1, M ++ [x], _, _, _, by go_num, by go_num, by omega, by omega, ?_, hJn, (hbd.trans (hap.bel.mono (by omega))).setCell (Nat.le_refl _) _⟩
                    show _ = _
                    have h1 := HM.out
                    rw [hstep.out, if_neg (by have := HQ1.out; omega), if_pos HQ.out] at h1
                    rw [← h1, HX.out, ← HVB.out]
                    simp
                  case measure => simp [intOf]; omega
              · have u2 : decide (vb.pos < va.pos) = false := by simpa using q2'
                have HQ2 := Lib.hid q2'
                clear q2'
                as_aux_lemma =>
                  go_wp2_with fail
                  go_quiet (fail)
                  go_wp2_with fail
                  go_quiet (fail)
                  clear a0 a1 d0 d1
                  obtain ⟨MM, hMM⟩ : ∃ MM, MM = (if va.siz < vb.siz then vb.siz else va.siz) := ⟨_, rfl⟩
                  have hite := hMM.symm
                  have HMM := Lib.hid hMM
                  clear hMM
                  go_upto_region 13 with fail
                  refine wp_wnamed (fun Wa hWa => ?_)
                  have hba : Below wr.heap.size wr Wa := by rw [hWa]; exact below_drewN (below_drewN (Below.refl _ _) _) _
                  have hJA := hJ.call hba
                  have hBA := hBr.trans (hba.mono hBr.size)
                  have bX := hXr.below hba hXr.lt
                  have bY := hYr.below hba hYr.lt
                  clear hWa
                  obtain ⟨bb, off, hA, hbB, k0, k1⟩ := CS.at_ (hR.out.grow hBA hBA.size).c (k := i) HAX.out
                  obtain ⟨bb2, off2, hA2, hbB2, l0, l1⟩ := CS.at_ (hR2.out.grow hBA hBA.size).c (k := k') HKX.out
                  rw [← HVA.out] at k0 k1
                  rw [← HVB.out] at l0 l1
                  have b1 := hJA.b.cell 1
                  have xc := bX.cell 1
                  have yc := bY.cell 1
                  simp only [List.getElem?_toArray, List.getElem?_cons_zero, List.getElem?_cons_succ] at b1 xc yc
                  have g0 := fun d os => cell_regrown b1 d os
                  have g1 := fun d os => cell_regrown xc d os
                  have g2 := fun d os => cell_regrown yc d os
                  have g3 := fun d os => cell_regrown k0 d os
                  have g4 := fun d os => cell_regrown k1 d os
                  have g5 := fun d os => cell_regrown l0 d os
                  have g6 := fun d os => cell_regrown l1 d os
                  cases hA
                  cases hA2
                  clear b1 xc yc k0 k1 l0 l1
                  go_wp2_with fail
                  refine wp_region_ch 23 [22] hmo (by kernel_rfl) ?_
                  simp only [List.take_succ_cons, List.take_zero, List.drop_succ_cons, List.drop_zero]
                  repeat (refine wpC_q (by decide) (by decide) (fun K hK => ?_); go_simp; refine hK _ ?_; clear hK K)
                  refine wpC_v (ι := Nat) (fun n => .slice (some ⟨n, 0, none⟩) 1 1) (fun n W => BK W n 87 #[.int .i64 va.pos, .int .i64 MM] ∧ Wa.heap.size ≤ n) (by decide) (by decide) rfl stable_true (fun n x y hh hb => ⟨hh.1.below hb hh.1.lt, hh.2⟩) (fun W hW _ => ?_) (fun nb hs1 => ?_)
                  · obtain ⟨pp, rfl⟩ := hW
                    have hbp := (below_regrown Wa pp.d pp.os).size
                    exact ⟨_, _, by go_simp, ⟨BK.new _ _ _, hbp⟩, (Below.refl _ _).alloc (Nat.le_refl _) _⟩
                  refine wpC_nil ?_
                  intro Wh hbh hΦ
                  obtain ⟨-, hNB, hnb⟩ := hΦ
                  clear g0 g1 g2 g3 g4 g5 g6 hs1
                  have hJh := hJA.call hbh
                  have hbw := hba.trans (hbh.mono hba.size)
                  have hwz := hbw.size
                  have b1 := hJh.b.cell 1
                  have bl := hJh.b.lt
                  simp only [List.getElem?_toArray, List.getElem?_cons_zero, List.getElem?_cons_succ] at b1
                  have hSX : SL cC 2 Wh Wh.heap.size (some ⟨nb, 0, none⟩) 1 [(⟨va.pos, MM⟩ : Crest)] := SL.of_bk (xs := [(⟨va.pos, MM⟩ : Crest)]) hNB rfl cC_len hNB.lt
                  have HFZ : Hid (∀ w3 A' c'', AppS cC 2 87 (w1.heap.size + 1) Wh A2 n2 c2 1 M [(⟨va.pos, MM⟩ : Crest)] A' c'' w3 → w3.heap[w1.heap.size]? = Wh.heap[w1.heap.size]?) := by
                    intro w3 A' c'' hap
                    exact hap.far _ hJh.b.lt (fun b hb => BK.ne_row (.inr ⟨_, hJh.b⟩) hJh.c (by decide) hb)
                  have HSX := Lib.hid hSX
                  clear hJ hJA hNB hSX
                  go_wp2_with (at_builtin; refine wpList_appS rfl _ _ 23 rfl (w1.heap.size + 1) 87 _ 2 16 Try.underlying23 infoC rfl (by decide) cC A2 n2 c2 M rfl hJh.c Wh.heap.size (some ⟨nb, 0, none⟩) 1 1 [(⟨va.pos, MM⟩ : Crest)] rfl HSX.out cC_len oneC (by omega) (by omega) (by omega) ?_; intro A2' c2' w3 hap; have hw3 := HFZ.out _ _ _ hap; have hm3 := hJh.b.same hw3; have m1' := hm3.cell 1; have mf := hm3.frozen 1; have HAP := Lib.hid hap; clear hap)
                  go_roundw
                  case rel =>
                    have hap := HAP.out
                    have hJn := hJh.appCS (by decide) (by decide) (by decide) (by decide) (by decide) hap
                    have hbd : Below w1.heap.size w1 Wh := hb.trans (hbw.mono hz)
                    refine ⟨i + 1, k' + 1, M ++ [(⟨va.pos, MM⟩ : Crest)], _, _, _, by go_num, by go_num, by omega, by omega, ?_, hJn, (hbd.trans (hap.bel.mono (by omega))).setCell (Nat.le_refl _) _⟩
                    show _ = _
                    have h1 := HM.out
                    rw [hstep.out, if_neg (by have := HQ1.out; omega), if_neg (by have := HQ2.out; omega)] at h1
                    rw [← h1, HMM.out]
                    simp [bothC]
                  case measure => simp [intOf]; omega
end Go.Proofs.Ytomloklckpcaiaa
