/- The safer one of two pieces: the code and the document. -/
import Derived.Test.YtpiiaffkobddlaaZBMrgd
import Derived.Test.YtpiiaffkobddlaaZBSurv
namespace Go.Proofs.Ytpiiaffkobddlaa
open Go.RowKit Go.Shelf Go.Sort Go.Proofs
/-- The safer one of two pieces, of some length. -/
def sfr (x y : Piece) (l : Int) : Option Piece :=
  if x.turn = 0 then some ⟨l, y.turn, y.rad, if y.wid < x.wid then y.wid else x.wid, if x.sur < y.sur then y.sur else x.sur⟩
  else if y.turn = 0 then some ⟨l, x.turn, x.rad, if y.wid < x.wid then y.wid else x.wid, if x.sur < y.sur then y.sur else x.sur⟩
  else if x.turn = y.turn then some ⟨l, x.turn, if y.rad < x.rad then y.rad else x.rad, if y.wid < x.wid then y.wid else x.wid, if x.sur < y.sur then y.sur else x.sur⟩
  else none
def sfrV (o : Option Piece) : Value := match o with
  | some z => .tuple #[.agg #[.int .i64 z.len, .int .i64 z.turn, .int .i64 z.rad, .int .i64 z.wid, .int .i64 z.sur], .bool true]
  | none => .tuple #[.agg #[.int .i64 0, .int .i64 0, .int .i64 0, .int .i64 0, .int .i64 0], .bool false]
theorem body_nm {P : Program} {fn : Func} {Φ : Ending → World → Prop} {ex : Exit} {a : Act} {w : World} (h : ∀ W, W = w → bodyPost P fn Φ ex a W) : bodyPost P fn Φ ex a w := h w rfl
theorem calls_nm {P : Program} {c : Code} {Q : Exit → Act → World → Prop} {a : Act} {w : World} (h : ∀ W, W = w → c.wp P Q a W) : c.wp P Q a w := h w rfl
set_option maxRecDepth 100000 in
set_option maxHeartbeats 4000000 in
theorem safer_any (x y : Piece) (w : World) : Calls Try.prog 20 #[.agg #[.int .i64 x.len, .int .i64 x.turn, .int .i64 x.rad, .int .i64 x.wid, .int .i64 x.sur, .int .i64 y.len, .int .i64 y.turn, .int .i64 y.rad, .int .i64 y.wid, .int .i64 y.sur]] w fun e w' => e = .returned (sfrV (sfr x y 0)) ∧ Below w.heap.size w w' := by
  have hmo : Try.prog.follows .mixedOrders = true := by kernel_rfl
  obtain ⟨MW, hMW⟩ : ∃ MW, MW = if y.wid < x.wid then y.wid else x.wid := ⟨_, rfl⟩
  obtain ⟨MS', hMS⟩ : ∃ MS', MS' = if x.sur < y.sur then y.sur else x.sur := ⟨_, rfl⟩
  obtain ⟨MR, hMR⟩ : ∃ MR, MR = if y.rad < x.rad then y.rad else x.rad := ⟨_, rfl⟩
  have e0 : Hid (sfr x y 0 = if x.turn = 0 then some ⟨0, y.turn, y.rad, MW, MS'⟩ else if y.turn = 0 then some ⟨0, x.turn, x.rad, MW, MS'⟩ else if x.turn = y.turn then some ⟨0, x.turn, MR, MW, MS'⟩ else none) := by show _ = _; rw [hMW, hMS, hMR]; rfl
  have q1 := hMW.symm
  have q2 := hMS.symm
  have q3 := hMR.symm
  clear hMW hMS hMR
  obtain ⟨w0, hw0⟩ : ∃ w0, w0 = (w.alloc (.cells #[.int .i64 x.len, .int .i64 x.turn, .int .i64 x.rad, .int .i64 x.wid, .int .i64 x.sur, .int .i64 y.len, .int .i64 y.turn, .int .i64 y.rad, .int .i64 y.wid, .int .i64 y.sur] 71)).alloc (.cells #[.int .i64 0, .int .i64 0, .int .i64 0, .int .i64 0, .int .i64 0] 53) := ⟨_, rfl⟩
  have hB0 : Below w.heap.size w w0 := by rw [hw0]; exact ((Below.refl _ _).alloc (Nat.le_refl _) _).alloc (by simp) _
  have hP0 : BK w0 w.heap.size 71 #[.int .i64 x.len, .int .i64 x.turn, .int .i64 x.rad, .int .i64 x.wid, .int .i64 x.sur, .int .i64 y.len, .int .i64 y.turn, .int .i64 y.rad, .int .i64 y.wid, .int .i64 y.sur] := by rw [hw0]; exact (BK.new w _ _).alloc _
  have hZ0 : BK w0 (w.heap.size + 1) 53 #[.int .i64 0, .int .i64 0, .int .i64 0, .int .i64 0, .int .i64 0] := by rw [hw0]; have := BK.new (w.alloc (.cells #[.int .i64 x.len, .int .i64 x.turn, .int .i64 x.rad, .int .i64 x.wid, .int .i64 x.sur, .int .i64 y.len, .int .i64 y.turn, .int .i64 y.rad, .int .i64 y.wid, .int .i64 y.sur] 71)) 53 #[.int .i64 0, .int .i64 0, .int .i64 0, .int .i64 0, .int .i64 0]; rw [World.size_alloc] at this; exact this
  go_enter Try.func20, Try.ntmps20
  go_wp2_with fail
  rw [← hw0]
  clear hw0
  have k0 := fun d os => cell_regrown (hP0.cell 0) d os
  have k1 := fun d os => cell_regrown (hP0.cell 1) d os
  have k2 := fun d os => cell_regrown (hP0.cell 2) d os
  have k3 := fun d os => cell_regrown (hP0.cell 3) d os
  have k4 := fun d os => cell_regrown (hP0.cell 4) d os
  have k5 := fun d os => cell_regrown (hP0.cell 5) d os
  have k6 := fun d os => cell_regrown (hP0.cell 6) d os
  have k7 := fun d os => cell_regrown (hP0.cell 7) d os
  have k8 := fun d os => cell_regrown (hP0.cell 8) d os
  have k9 := fun d os => cell_regrown (hP0.cell 9) d os
  refine wp_region_two 7 4 5 6 [] 53 53 #[.int .i64 0, .int .i64 0, .int .i64 0, .int .i64 0, .int .i64 0] #[.int .i64 0, .int .i64 0, .int .i64 0, .int .i64 0, .int .i64 0] #[.int .i64 x.len, .int .i64 x.turn, .int .i64 x.rad, .int .i64 x.wid, .int .i64 x.sur] 4 5 8 (.agg #[.int .i64 x.len, .int .i64 x.turn, .int .i64 x.rad, .int .i64 x.wid, .int .i64 x.sur]) _ _ _ hmo (by decide) rfl rfl rfl (fun a w => rfl) rfl rfl rfl (fun a w => rfl) rfl rfl rfl (by kernel_rfl) (by kernel_rfl) (fun a w b h1 h2 h3 => store_piece x 4 8 a w b h1 h2 h3 _ rfl) (by kernel_rfl) ?_
  simp only [List.take_succ_cons, List.take_zero, List.drop_succ_cons, List.drop_zero]
  repeat (refine wpCG_q (by decide) (by decide) (fun K hK => ?_); go_simp; refine hK _ ?_; clear hK K)
  refine wpCG_a (by decide) (fun h => by cases h) ?_
  refine wpCG_a (by decide) (fun h => by cases h) ?_
  refine wpCG_a (by decide) (fun _ => ⟨rfl, by simp⟩) ?_
  refine wpCG_nil ?_
  intro b1 b2 Wf hbf _ hg1 hg2 hne K1 K2
  clear k0 k1 k2 k3 k4 k5 k6 k7 k8 k9
  have hne2 : ¬ b2 = b1 := fun e => hne e.symm
  have hBF := hB0.trans (hbf.mono hB0.size)
  have hZF := hZ0.below hbf hZ0.lt
  have hZL := hZ0.lt
  have f2 := K2.frozen
  have l2 := K2.lt
  have t0 := K2.cell 0
  have t1 := K2.cell 1
  have t2 := K2.cell 2
  have t3 := K2.cell 3
  have t4 := K2.cell 4
  simp only [List.getElem?_toArray, List.getElem?_cons_zero, List.getElem?_cons_succ] at t0 t1 t2 t3 t4
  go_upto_region 2 with fail
  refine calls_nm (fun Wg hWg => ?_)
  have G1 : BK Wg b1 53 #[.int .i64 x.len, .int .i64 x.turn, .int .i64 x.rad, .int .i64 x.wid, .int .i64 x.sur] := by rw [hWg]; exact (((((K1.far (p := ⟨b2, 0, none⟩) hne _).far (p := ⟨b2, 1, none⟩) hne _).far (p := ⟨b2, 2, none⟩) hne _).far (p := ⟨b2, 3, none⟩) hne _).far (p := ⟨b2, 4, none⟩) hne _)
  have G2 : BK Wg b2 53 #[.int .i64 y.len, .int .i64 y.turn, .int .i64 y.rad, .int .i64 y.wid, .int .i64 y.sur] := by rw [hWg]; exact (((((K2.set_ 0 _).set_ 1 _).set_ 2 _).set_ 3 _).set_ 4 _)
  have hz2 : w.heap.size + 1 ≠ b2 := by omega
  have hZG : BK Wg (w.heap.size + 1) 53 #[.int .i64 0, .int .i64 0, .int .i64 0, .int .i64 0, .int .i64 0] := by rw [hWg]; exact (((((hZF.far (p := ⟨b2, 0, none⟩) hz2 _).far (p := ⟨b2, 1, none⟩) hz2 _).far (p := ⟨b2, 2, none⟩) hz2 _).far (p := ⟨b2, 3, none⟩) hz2 _).far (p := ⟨b2, 4, none⟩) hz2 _)
  have hg3 : w.heap.size ≤ b2 := by omega
  have hBG : Below w.heap.size w Wg := by rw [hWg]; exact (((((hBF.setCell hg3 _).setCell hg3 _).setCell hg3 _).setCell hg3 _).setCell hg3 _)
  clear hWg K1 K2 f2 l2 t0 t1 t2 t3 t4 hBF hZF hbf
  have s0 := G1.cell 0
  have s1 := G1.cell 1
  have s2 := G1.cell 2
  have s3 := G1.cell 3
  have s4 := G1.cell 4
  have t0 := G2.cell 0
  have t1 := G2.cell 1
  have t2 := G2.cell 2
  have t3 := G2.cell 3
  have t4 := G2.cell 4
  have z0 := hZG.cell 0
  have z1 := hZG.cell 1
  have z2 := hZG.cell 2
  have z3 := hZG.cell 3
  have z4 := hZG.cell 4
  have zf := hZG.frozen
  have ll1 := G1.lt
  have ll2 := G2.lt
  have llz := hZG.lt
  have hnz1 : w.heap.size + 1 < b1 := by omega
  have hnz2 : w.heap.size + 1 < b2 := by omega
  simp only [List.getElem?_toArray, List.getElem?_cons_zero, List.getElem?_cons_succ] at s0 t0 s1 t1 s2 t2 s3 t3 s4 t4 z0 z1 z2 z3 z4
  by_cases h1 : x.turn = 0
  · have b1' : (x.turn == 0) = true := by simpa using h1
    have H1 := Lib.hid h1
    clear h1
    go_wp2_with fail
    go_region
    go_wp2_with fail
    refine body_nm (fun WF hWF => ?_)
    have hZZ : BK WF (w.heap.size + 1) 53 #[.int .i64 0, .int .i64 y.turn, .int .i64 y.rad, .int .i64 MW, .int .i64 MS'] := by rw [hWF]; exact (((((hZG.set_ 0 _).set_ 1 _).set_ 2 _).set_ 3 _).set_ 4 _).alloc _
    have hBZ : Below w.heap.size w WF := by rw [hWF]; exact below_drewN (((((((hBG.setCell (by simp <;> omega) _).setCell (by simp <;> omega) _).setCell (by simp <;> omega) _).setCell (by simp <;> omega) _).setCell (by simp <;> omega) _).alloc (by simp; exact hBG.size) _)) 1
    clear hWF
    have y0 := hZZ.cell 0
    have y1 := hZZ.cell 1
    have y2 := hZZ.cell 2
    have y3 := hZZ.cell 3
    have y4 := hZZ.cell 4
    simp only [List.getElem?_toArray, List.getElem?_cons_zero, List.getElem?_cons_succ] at y0 y1 y2 y3 y4
    refine bodyPost_ret (v := .tuple #[.agg #[.int .i64 0, .int .i64 y.turn, .int .i64 y.rad, .int .i64 MW, .int .i64 MS'], .bool true]) (by simp [results, Try.results20, go_sem, y0, y1, y2, y3, y4]) rfl ⟨by rw [e0.out, if_pos H1.out]; exact rfl, hBZ⟩
  have b1' : (x.turn == 0) = false := by simpa using h1
  have H1 := Lib.hid h1
  clear h1
  by_cases h2 : y.turn = 0
  · have b2' : (y.turn == 0) = true := by simpa using h2
    have H2 := Lib.hid h2
    clear h2
    go_wp2_with fail
    go_region
    go_wp2_with fail
    refine body_nm (fun WF hWF => ?_)
    have hZZ : BK WF (w.heap.size + 1) 53 #[.int .i64 0, .int .i64 x.turn, .int .i64 x.rad, .int .i64 MW, .int .i64 MS'] := by rw [hWF]; exact (((((hZG.set_ 0 _).set_ 1 _).set_ 2 _).set_ 3 _).set_ 4 _).alloc _
    have hBZ : Below w.heap.size w WF := by rw [hWF]; exact below_drewN (((((((hBG.setCell (by simp <;> omega) _).setCell (by simp <;> omega) _).setCell (by simp <;> omega) _).setCell (by simp <;> omega) _).setCell (by simp <;> omega) _).alloc (by simp; exact hBG.size) _)) 1
    clear hWF
    have y0 := hZZ.cell 0
    have y1 := hZZ.cell 1
    have y2 := hZZ.cell 2
    have y3 := hZZ.cell 3
    have y4 := hZZ.cell 4
    simp only [List.getElem?_toArray, List.getElem?_cons_zero, List.getElem?_cons_succ] at y0 y1 y2 y3 y4
    refine bodyPost_ret (v := .tuple #[.agg #[.int .i64 0, .int .i64 x.turn, .int .i64 x.rad, .int .i64 MW, .int .i64 MS'], .bool true]) (by simp [results, Try.results20, go_sem, y0, y1, y2, y3, y4]) rfl ⟨by rw [e0.out, if_neg H1.out, if_pos H2.out]; exact rfl, hBZ⟩
  have b2' : (y.turn == 0) = false := by simpa using h2
  have H2 := Lib.hid h2
  clear h2
  by_cases h3 : x.turn = y.turn
  · have b3' : (x.turn == y.turn) = true := by simpa using h3
    have H3 := Lib.hid h3
    clear h3
    go_wp2_with fail
    go_region
    go_wp2_with fail
    refine body_nm (fun WF hWF => ?_)
    have hZZ : BK WF (w.heap.size + 1) 53 #[.int .i64 0, .int .i64 x.turn, .int .i64 MR, .int .i64 MW, .int .i64 MS'] := by rw [hWF]; exact (((((hZG.set_ 0 _).set_ 1 _).set_ 2 _).set_ 3 _).set_ 4 _).alloc _
    have hBZ : Below w.heap.size w WF := by rw [hWF]; exact below_drewN (((((((hBG.setCell (by simp <;> omega) _).setCell (by simp <;> omega) _).setCell (by simp <;> omega) _).setCell (by simp <;> omega) _).setCell (by simp <;> omega) _).alloc (by simp; exact hBG.size) _)) 1
    clear hWF
    have y0 := hZZ.cell 0
    have y1 := hZZ.cell 1
    have y2 := hZZ.cell 2
    have y3 := hZZ.cell 3
    have y4 := hZZ.cell 4
    simp only [List.getElem?_toArray, List.getElem?_cons_zero, List.getElem?_cons_succ] at y0 y1 y2 y3 y4
    refine bodyPost_ret (v := .tuple #[.agg #[.int .i64 0, .int .i64 x.turn, .int .i64 MR, .int .i64 MW, .int .i64 MS'], .bool true]) (by simp [results, Try.results20, go_sem, y0, y1, y2, y3, y4]) rfl ⟨by rw [e0.out, if_neg H1.out, if_neg H2.out, if_pos H3.out]; exact rfl, hBZ⟩
  have b3' : (x.turn == y.turn) = false := by simpa using h3
  have H3 := Lib.hid h3
  clear h3
  go_wp2_with fail
  refine body_nm (fun WF hWF => ?_)
  have hZZ : BK WF (w.heap.size + 1) 53 #[.int .i64 0, .int .i64 0, .int .i64 0, .int .i64 0, .int .i64 0] := by rw [hWF]; exact (((((hZG.set_ 0 _).set_ 1 _).set_ 2 _).set_ 3 _).set_ 4 _).alloc _
  have hBZ : Below w.heap.size w WF := by rw [hWF]; exact (((((((hBG.setCell (by simp <;> omega) _).setCell (by simp <;> omega) _).setCell (by simp <;> omega) _).setCell (by simp <;> omega) _).setCell (by simp <;> omega) _).alloc (by simp; exact hBG.size) _))
  clear hWF
  have y0 := hZZ.cell 0
  have y1 := hZZ.cell 1
  have y2 := hZZ.cell 2
  have y3 := hZZ.cell 3
  have y4 := hZZ.cell 4
  simp only [List.getElem?_toArray, List.getElem?_cons_zero, List.getElem?_cons_succ] at y0 y1 y2 y3 y4
  refine bodyPost_ret (v := .tuple #[.agg #[.int .i64 0, .int .i64 0, .int .i64 0, .int .i64 0, .int .i64 0], .bool false]) (by simp [results, Try.results20, go_sem, y0, y1, y2, y3, y4]) rfl ⟨by rw [e0.out, if_neg H1.out, if_neg H2.out, if_neg H3.out]; exact rfl, hBZ⟩
end Go.Proofs.Ytpiiaffkobddlaa
