/- road.Compare: where two surveys differ, by stretches. -/
import Derived.Test.YtijcbfhlhgjedaaGreatDoorPCBBase
import Derived.Test.YtijcbfhlhgjedaaGreatDoorPCBRoad
import Derived.Test.YtijcbfhlhgjedaaGreatDoorPCBLeaf
import Derived.Test.YtijcbfhlhgjedaaGreatDoorPCBCheck
import Derived.Test.YtijcbfhlhgjedaaGreatDoorPCBValid
import Derived.Test.YtijcbfhlhgjedaaGreatDoorPCBFind
import Derived.Test.YtijcbfhlhgjedaaGreatDoorPCBReg
import Derived.Test.YtijcbfhlhgjedaaGreatDoorPCBGrouped
import Derived.Test.YtijcbfhlhgjedaaGreatDoorPCBPG
import Derived.Test.YtijcbfhlhgjedaaGreatDoorPCBStr
import Derived.Test.YtijcbfhlhgjedaaGreatDoorPCBCmp
import Derived.Test.YtijcbfhlhgjedaaGreatDoorPCBOpen
import Derived.Test.YtijcbfhlhgjedaaGreatDoorPCBReg7
import Derived.Test.YtijcbfhlhgjedaaGreatDoorPCPRow
import Derived.Test.YtijcbfhlhgjedaaGreatDoorPCMtr
import Derived.Test.YtijcbfhlhgjedaaGreatDoorPCReg8
import Derived.Test.YtijcbfhlhgjedaaGreatDoorPCSpCk
import Derived.Test.YtijcbfhlhgjedaaGreatDoorPCPlanM
import Derived.Test.YtijcbfhlhgjedaaGreatDoorPCLast
import Derived.Test.YtijcbfhlhgjedaaGreatDoorPCBeg
import Derived.Test.YtijcbfhlhgjedaaGreatDoorPCRoom
import Derived.Test.YtijcbfhlhgjedaaGreatDoorPCCallsB
import Derived.Test.YtijcbfhlhgjedaaGreatDoorPCPlan
import Derived.Test.YtijcbfhlhgjedaaGreatDoorPCBetw
import Derived.Test.YtijcbfhlhgjedaaGreatDoorPCKn03P
import Derived.Test.YtijcbfhlhgjedaaGreatDoorPCRef3
import Derived.Test.YtijcbfhlhgjedaaGreatDoorPFReg
import Derived.Test.YtijcbfhlhgjedaaGreatDoorPFRev
import Derived.Test.YtijcbfhlhgjedaaGreatDoorPFMrgd
import Derived.Test.YtijcbfhlhgjedaaGreatDoorPFPGrouped
namespace Go.Proofs.YtijcbfhlhgjedaaGreatDoor
open Go.RowKit Go.Shelf Go.Sort Go.Proofs

attribute [local go_sem] Oper.semAt_some

/-- A piece is stored in a block made for it. -/
theorem store_piece (p : Piece) (d x : Tmp) (a : Act) (w : World) (b : Nat) (h1 : a.eval (.tmp d) = .pointer (some ⟨b, 0, none⟩)) (h2 : a.eval (.tmp x) = .agg #[.int .i64 p.len, .int .i64 p.turn, .int .i64 p.rad, .int .i64 p.wid, .int .i64 p.sur]) (h3 : BK w b 72 #[.int .i64 0, .int .i64 0, .int .i64 0, .int .i64 0, .int .i64 0]) (o : Oper) (ho : o.op = .store 72 (.tmp d) (.tmp x)) :
    ∃ w', (execOp a.eval o).run Tryz.prog w = .ok .skip w' ∧ BK w' b 72 #[.int .i64 p.len, .int .i64 p.turn, .int .i64 p.rad, .int .i64 p.wid, .int .i64 p.sur] ∧ Below b w w' ∧ w'.heap.size = w.heap.size ∧ ∀ k, k ≠ b → w'.heap[k]? = w.heap[k]? := by
  have c0 := h3.cell 0
  have c1 := h3.cell 1
  have c2 := h3.cell 2
  have c3 := h3.cell 3
  have c4 := h3.cell 4
  have f := h3.frozen
  have hl := h3.lt
  simp only [List.getElem?_toArray, List.getElem?_cons_zero, List.getElem?_cons_succ] at c0 c1 c2 c3 c4
  refine ⟨((((w.setCell ⟨b, 0, none⟩ (.int .i64 p.len)).setCell ⟨b, 1, none⟩ (.int .i64 p.turn)).setCell ⟨b, 2, none⟩ (.int .i64 p.rad)).setCell ⟨b, 3, none⟩ (.int .i64 p.wid)).setCell ⟨b, 4, none⟩ (.int .i64 p.sur), ?_, ((((h3.set_ 0 _).set_ 1 _).set_ 2 _).set_ 3 _).set_ 4 _, ((((((Below.refl b w).setCell (Nat.le_refl _) _).setCell (Nat.le_refl _) _).setCell (Nat.le_refl _) _).setCell (Nat.le_refl _) _).setCell (Nat.le_refl _) _), by simp, fun k hk => ?_⟩
  · unfold execOp
    rw [ho]
    simp only [h1, h2]
    go_simp
  · rw [Below.heap_setCell _ _ _ _ hk, Below.heap_setCell _ _ _ _ hk, Below.heap_setCell _ _ _ _ hk, Below.heap_setCell _ _ _ _ hk, Below.heap_setCell _ _ _ _ hk]
theorem owg_own {α β : Type} (B g base : Nat) (t e : TypeId) (cf : α → List Value) (sz : Nat) (f : β → List α) : OwnFrom B (fun s W => ∃ A n c, BK W g t #[.slice A n c] ∧ OW cf sz e base W A n c (f s)) := by
  intro s W W' row hs hg hr
  obtain ⟨A, n, c, h1, h2⟩ := hs
  refine ⟨A, n, c, bk_own B g t (fun _ : Unit => _) () W W' row h1 hg hr, h2.keep (fun b hb => hg.block b.block (h2.lt hb).2 (fun e => ?_))⟩
  obtain ⟨_, o, ho, hc⟩ := hr _ e.symm
  subst hb
  rcases h2.1.2 with ⟨h3, _⟩ | ⟨g', cap, cur, h3, _, hg', _⟩
  · cases h3
  · injection h3 with h3
    injection h3 with h3
    subst h3
    rw [hg'] at ho
    cases ho
    cases hc
end Go.Proofs.YtijcbfhlhgjedaaGreatDoor

/- road.Compare: the error. -/
namespace Go.Proofs.YtijcbfhlhgjedaaGreatDoor
open Go.RowKit Go.Shelf Go.Sort Go.Proofs

end Go.Proofs.YtijcbfhlhgjedaaGreatDoor

/- The safer one of two pieces: the code and the document. -/
namespace Go.Proofs.YtijcbfhlhgjedaaGreatDoor
open Go.RowKit Go.Shelf Go.Sort Go.Proofs
/-- The safer one of two pieces, of some length. -/
def sfr (x y : Piece) (l : Int) : Option Piece :=
  if x.turn = 0 then some ⟨l, y.turn, y.rad, if y.wid < x.wid then y.wid else x.wid, if x.sur < y.sur then y.sur else x.sur⟩
  else if y.turn = 0 then some ⟨l, x.turn, x.rad, if y.wid < x.wid then y.wid else x.wid, if x.sur < y.sur then y.sur else x.sur⟩
  else if x.turn = y.turn then some ⟨l, x.turn, if y.rad < x.rad then y.rad else x.rad, if y.wid < x.wid then y.wid else x.wid, if x.sur < y.sur then y.sur else x.sur⟩
  else none
def sfrV (o : Option Piece) : Value := match o with
  | some z => .tuple #[.agg #[.int .i64 z.len, .int .i64 z.turn, .int .i64 z.rad, .int .i64 z.wid, .int .i64 z.sur], .bool true]
  | none => .tuple #[.agg #[.int .i64 0, .int .i64 0, .int .i64 0, .int .i64 0, .int .i64 0], .bool false]
theorem body_nm {P : Program} {fn : Func} {Φ : Ending → World → Prop} {ex : Exit} {a : Act} {w : World} (h : ∀ W, W = w → bodyPost P fn Φ ex a W) : bodyPost P fn Φ ex a w := h w rfl
theorem calls_nm {P : Program} {c : Code} {Q : Exit → Act → World → Prop} {a : Act} {w : World} (h : ∀ W, W = w → c.wp P Q a W) : c.wp P Q a w := h w rfl
set_option maxRecDepth 100000 in
set_option maxHeartbeats 4000000 in
theorem safer_any (x y : Piece) (w : World) : Calls Tryz.prog 28 #[.agg #[.int .i64 x.len, .int .i64 x.turn, .int .i64 x.rad, .int .i64 x.wid, .int .i64 x.sur, .int .i64 y.len, .int .i64 y.turn, .int .i64 y.rad, .int .i64 y.wid, .int .i64 y.sur]] w fun e w' => e = .returned (sfrV (sfr x y 0)) ∧ Below w.heap.size w w' := by
  have hmo : Tryz.prog.follows .mixedOrders = true := by kernel_rfl
  obtain ⟨MW, hMW⟩ : ∃ MW, MW = if y.wid < x.wid then y.wid else x.wid := ⟨_, rfl⟩
  obtain ⟨MS', hMS⟩ : ∃ MS', MS' = if x.sur < y.sur then y.sur else x.sur := ⟨_, rfl⟩
  obtain ⟨MR, hMR⟩ : ∃ MR, MR = if y.rad < x.rad then y.rad else x.rad := ⟨_, rfl⟩
  have e0 : Hid (sfr x y 0 = if x.turn = 0 then some ⟨0, y.turn, y.rad, MW, MS'⟩ else if y.turn = 0 then some ⟨0, x.turn, x.rad, MW, MS'⟩ else if x.turn = y.turn then some ⟨0, x.turn, MR, MW, MS'⟩ else none) := by show _ = _; rw [hMW, hMS, hMR]; rfl
  have q1 := hMW.symm
  have q2 := hMS.symm
  have q3 := hMR.symm
  clear hMW hMS hMR
  obtain ⟨w0, hw0⟩ : ∃ w0, w0 = (w.alloc (.cells #[.int .i64 x.len, .int .i64 x.turn, .int .i64 x.rad, .int .i64 x.wid, .int .i64 x.sur, .int .i64 y.len, .int .i64 y.turn, .int .i64 y.rad, .int .i64 y.wid, .int .i64 y.sur] 93)).alloc (.cells #[.int .i64 0, .int .i64 0, .int .i64 0, .int .i64 0, .int .i64 0] 72) := ⟨_, rfl⟩
  have hB0 : Below w.heap.size w w0 := by rw [hw0]; exact ((Below.refl _ _).alloc (Nat.le_refl _) _).alloc (by simp) _
  have hP0 : BK w0 w.heap.size 93 #[.int .i64 x.len, .int .i64 x.turn, .int .i64 x.rad, .int .i64 x.wid, .int .i64 x.sur, .int .i64 y.len, .int .i64 y.turn, .int .i64 y.rad, .int .i64 y.wid, .int .i64 y.sur] := by rw [hw0]; exact (BK.new w _ _).alloc _
  have hZ0 : BK w0 (w.heap.size + 1) 72 #[.int .i64 0, .int .i64 0, .int .i64 0, .int .i64 0, .int .i64 0] := by rw [hw0]; have := BK.new (w.alloc (.cells #[.int .i64 x.len, .int .i64 x.turn, .int .i64 x.rad, .int .i64 x.wid, .int .i64 x.sur, .int .i64 y.len, .int .i64 y.turn, .int .i64 y.rad, .int .i64 y.wid, .int .i64 y.sur] 93)) 72 #[.int .i64 0, .int .i64 0, .int .i64 0, .int .i64 0, .int .i64 0]; rw [World.size_alloc] at this; exact this
  go_enter Tryz.func28, Tryz.ntmps28
  go_wp2_with fail
  rw [← hw0]
  clear hw0
  have k0 := fun d os => cell_regrown (hP0.cell 0) d os
  have k1 := fun d os => cell_regrown (hP0.cell 1) d os
  have k2 := fun d os => cell_regrown (hP0.cell 2) d os
  have k3 := fun d os => cell_regrown (hP0.cell 3) d os
  have k4 := fun d os => cell_regrown (hP0.cell 4) d os
  have k5 := fun d os => cell_regrown (hP0.cell 5) d os
  have k6 := fun d os => cell_regrown (hP0.cell 6) d os
  have k7 := fun d os => cell_regrown (hP0.cell 7) d os
  have k8 := fun d os => cell_regrown (hP0.cell 8) d os
  have k9 := fun d os => cell_regrown (hP0.cell 9) d os
  refine wp_region_two 7 4 5 6 [] 72 72 #[.int .i64 0, .int .i64 0, .int .i64 0, .int .i64 0, .int .i64 0] #[.int .i64 0, .int .i64 0, .int .i64 0, .int .i64 0, .int .i64 0] #[.int .i64 x.len, .int .i64 x.turn, .int .i64 x.rad, .int .i64 x.wid, .int .i64 x.sur] 4 5 8 (.agg #[.int .i64 x.len, .int .i64 x.turn, .int .i64 x.rad, .int .i64 x.wid, .int .i64 x.sur]) _ _ _ hmo (by decide) rfl rfl rfl (fun a w => rfl) rfl rfl rfl (fun a w => rfl) rfl rfl rfl (by kernel_rfl) (by kernel_rfl) (fun a w b h1 h2 h3 => store_piece x 4 8 a w b h1 h2 h3 _ rfl) (by kernel_rfl) ?_
  simp only [List.take_succ_cons, List.take_zero, List.drop_succ_cons, List.drop_zero]
  repeat (refine wpCG_q (by decide) (by decide) (fun K hK => ?_); go_simp; refine hK _ ?_; clear hK K)
  refine wpCG_a (by decide) (fun h => by cases h) ?_
  refine wpCG_a (by decide) (fun h => by cases h) ?_
  refine wpCG_a (by decide) (fun _ => ⟨rfl, by simp⟩) ?_
  refine wpCG_nil ?_
  intro b1 b2 Wf hbf _ hg1 hg2 hne K1 K2
  clear k0 k1 k2 k3 k4 k5 k6 k7 k8 k9
  have hne2 : ¬ b2 = b1 := fun e => hne e.symm
  have hBF := hB0.trans (hbf.mono hB0.size)
  have hZF := hZ0.below hbf hZ0.lt
  have hZL := hZ0.lt
  have f2 := K2.frozen
  have l2 := K2.lt
  have t0 := K2.cell 0
  have t1 := K2.cell 1
  have t2 := K2.cell 2
  have t3 := K2.cell 3
  have t4 := K2.cell 4
  simp only [List.getElem?_toArray, List.getElem?_cons_zero, List.getElem?_cons_succ] at t0 t1 t2 t3 t4
  go_upto_region 2 with fail
  refine calls_nm (fun Wg hWg => ?_)
  have G1 : BK Wg b1 72 #[.int .i64 x.len, .int .i64 x.turn, .int .i64 x.rad, .int .i64 x.wid, .int .i64 x.sur] := by rw [hWg]; exact (((((K1.far (p := ⟨b2, 0, none⟩) hne _).far (p := ⟨b2, 1, none⟩) hne _).far (p := ⟨b2, 2, none⟩) hne _).far (p := ⟨b2, 3, none⟩) hne _).far (p := ⟨b2, 4, none⟩) hne _)
  have G2 : BK Wg b2 72 #[.int .i64 y.len, .int .i64 y.turn, .int .i64 y.rad, .int .i64 y.wid, .int .i64 y.sur] := by rw [hWg]; exact (((((K2.set_ 0 _).set_ 1 _).set_ 2 _).set_ 3 _).set_ 4 _)
  have hz2 : w.heap.size + 1 ≠ b2 := by omega
  have hZG : BK Wg (w.heap.size + 1) 72 #[.int .i64 0, .int .i64 0, .int .i64 0, .int .i64 0, .int .i64 0] := by rw [hWg]; exact (((((hZF.far (p := ⟨b2, 0, none⟩) hz2 _).far (p := ⟨b2, 1, none⟩) hz2 _).far (p := ⟨b2, 2, none⟩) hz2 _).far (p := ⟨b2, 3, none⟩) hz2 _).far (p := ⟨b2, 4, none⟩) hz2 _)
  have hg3 : w.heap.size ≤ b2 := by omega
  have hBG : Below w.heap.size w Wg := by rw [hWg]; exact (((((hBF.setCell hg3 _).setCell hg3 _).setCell hg3 _).setCell hg3 _).setCell hg3 _)
  clear hWg K1 K2 f2 l2 t0 t1 t2 t3 t4 hBF hZF hbf
  have s0 := G1.cell 0
  have s1 := G1.cell 1
  have s2 := G1.cell 2
  have s3 := G1.cell 3
  have s4 := G1.cell 4
  have t0 := G2.cell 0
  have t1 := G2.cell 1
  have t2 := G2.cell 2
  have t3 := G2.cell 3
  have t4 := G2.cell 4
  have z0 := hZG.cell 0
  have z1 := hZG.cell 1
  have z2 := hZG.cell 2
  have z3 := hZG.cell 3
  have z4 := hZG.cell 4
  have zf := hZG.frozen
  have ll1 := G1.lt
  have ll2 := G2.lt
  have llz := hZG.lt
  have hnz1 : w.heap.size + 1 < b1 := by omega
  have hnz2 : w.heap.size + 1 < b2 := by omega
  simp only [List.getElem?_toArray, List.getElem?_cons_zero, List.getElem?_cons_succ] at s0 t0 s1 t1 s2 t2 s3 t3 s4 t4 z0 z1 z2 z3 z4
  by_cases h1 : x.turn = 0
  · have b1' : (x.turn == 0) = true := by simpa using h1
    have H1 := Lib.hid h1
    clear h1
    go_wp2_with fail
    go_region
    go_wp2_with fail
    refine body_nm (fun WF hWF => ?_)
    have hZZ : BK WF (w.heap.size + 1) 72 #[.int .i64 0, .int .i64 y.turn, .int .i64 y.rad, .int .i64 MW, .int .i64 MS'] := by rw [hWF]; exact (((((hZG.set_ 0 _).set_ 1 _).set_ 2 _).set_ 3 _).set_ 4 _).alloc _
    have hBZ : Below w.heap.size w WF := by rw [hWF]; exact below_drewN (((((((hBG.setCell (by simp <;> omega) _).setCell (by simp <;> omega) _).setCell (by simp <;> omega) _).setCell (by simp <;> omega) _).setCell (by simp <;> omega) _).alloc (by simp; exact hBG.size) _)) 1
    clear hWF
    have y0 := hZZ.cell 0
    have y1 := hZZ.cell 1
    have y2 := hZZ.cell 2
    have y3 := hZZ.cell 3
    have y4 := hZZ.cell 4
    simp only [List.getElem?_toArray, List.getElem?_cons_zero, List.getElem?_cons_succ] at y0 y1 y2 y3 y4
    refine bodyPost_ret (v := .tuple #[.agg #[.int .i64 0, .int .i64 y.turn, .int .i64 y.rad, .int .i64 MW, .int .i64 MS'], .bool true]) (by simp [results, Tryz.results28, go_sem, y0, y1, y2, y3, y4]) rfl ⟨by rw [e0.out, if_pos H1.out]; exact rfl, hBZ⟩
  have b1' : (x.turn == 0) = false := by simpa using h1
  have H1 := Lib.hid h1
  clear h1
  by_cases h2 : y.turn = 0
  · have b2' : (y.turn == 0) = true := by simpa using h2
    have H2 := Lib.hid h2
    clear h2
    go_wp2_with fail
    go_region
    go_wp2_with fail
    refine body_nm (fun WF hWF => ?_)
    have hZZ : BK WF (w.heap.size + 1) 72 #[.int .i64 0, .int .i64 x.turn, .int .i64 x.rad, .int .i64 MW, .int .i64 MS'] := by rw [hWF]; exact (((((hZG.set_ 0 _).set_ 1 _).set_ 2 _).set_ 3 _).set_ 4 _).alloc _
    have hBZ : Below w.heap.size w WF := by rw [hWF]; exact below_drewN (((((((hBG.setCell (by simp <;> omega) _).setCell (by simp <;> omega) _).setCell (by simp <;> omega) _).setCell (by simp <;> omega) _).setCell (by simp <;> omega) _).alloc (by simp; exact hBG.size) _)) 1
    clear hWF
    have y0 := hZZ.cell 0
    have y1 := hZZ.cell 1
    have y2 := hZZ.cell 2
    have y3 := hZZ.cell 3
    have y4 := hZZ.cell 4
    simp only [List.getElem?_toArray, List.getElem?_cons_zero, List.getElem?_cons_succ] at y0 y1 y2 y3 y4
    refine bodyPost_ret (v := .tuple #[.agg #[.int .i64 0, .int .i64 x.turn, .int .i64 x.rad, .int .i64 MW, .int .i64 MS'], .bool true]) (by simp [results, Tryz.results28, go_sem, y0, y1, y2, y3, y4]) rfl ⟨by rw [e0.out, if_neg H1.out, if_pos H2.out]; exact rfl, hBZ⟩
  have b2' : (y.turn == 0) = false := by simpa using h2
  have H2 := Lib.hid h2
  clear h2
  by_cases h3 : x.turn = y.turn
  · have b3' : (x.turn == y.turn) = true := by simpa using h3
    have H3 := Lib.hid h3
    clear h3
    go_wp2_with fail
    go_region
    go_wp2_with fail
    refine body_nm (fun WF hWF => ?_)
    have hZZ : BK WF (w.heap.size + 1) 72 #[.int .i64 0, .int .i64 x.turn, .int .i64 MR, .int .i64 MW, .int .i64 MS'] := by rw [hWF]; exact (((((hZG.set_ 0 _).set_ 1 _).set_ 2 _).set_ 3 _).set_ 4 _).alloc _
    have hBZ : Below w.heap.size w WF := by rw [hWF]; exact below_drewN (((((((hBG.setCell (by simp <;> omega) _).setCell (by simp <;> omega) _).setCell (by simp <;> omega) _).setCell (by simp <;> omega) _).setCell (by simp <;> omega) _).alloc (by simp; exact hBG.size) _)) 1
    clear hWF
    have y0 := hZZ.cell 0
    have y1 := hZZ.cell 1
    have y2 := hZZ.cell 2
    have y3 := hZZ.cell 3
    have y4 := hZZ.cell 4
    simp only [List.getElem?_toArray, List.getElem?_cons_zero, List.getElem?_cons_succ] at y0 y1 y2 y3 y4
    refine bodyPost_ret (v := .tuple #[.agg #[.int .i64 0, .int .i64 x.turn, .int .i64 MR, .int .i64 MW, .int .i64 MS'], .bool true]) (by simp [results, Tryz.results28, go_sem, y0, y1, y2, y3, y4]) rfl ⟨by rw [e0.out, if_neg H1.out, if_neg H2.out, if_pos H3.out]; exact rfl, hBZ⟩
  have b3' : (x.turn == y.turn) = false := by simpa using h3
  have H3 := Lib.hid h3
  clear h3
  go_wp2_with fail
  refine body_nm (fun WF hWF => ?_)
  have hZZ : BK WF (w.heap.size + 1) 72 #[.int .i64 0, .int .i64 0, .int .i64 0, .int .i64 0, .int .i64 0] := by rw [hWF]; exact (((((hZG.set_ 0 _).set_ 1 _).set_ 2 _).set_ 3 _).set_ 4 _).alloc _
  have hBZ : Below w.heap.size w WF := by rw [hWF]; exact (((((((hBG.setCell (by simp <;> omega) _).setCell (by simp <;> omega) _).setCell (by simp <;> omega) _).setCell (by simp <;> omega) _).setCell (by simp <;> omega) _).alloc (by simp; exact hBG.size) _))
  clear hWF
  have y0 := hZZ.cell 0
  have y1 := hZZ.cell 1
  have y2 := hZZ.cell 2
  have y3 := hZZ.cell 3
  have y4 := hZZ.cell 4
  simp only [List.getElem?_toArray, List.getElem?_cons_zero, List.getElem?_cons_succ] at y0 y1 y2 y3 y4
  refine bodyPost_ret (v := .tuple #[.agg #[.int .i64 0, .int .i64 0, .int .i64 0, .int .i64 0, .int .i64 0], .bool false]) (by simp [results, Tryz.results28, go_sem, y0, y1, y2, y3, y4]) rfl ⟨by rw [e0.out, if_neg H1.out, if_neg H2.out, if_neg H3.out]; exact rfl, hBZ⟩
end Go.Proofs.YtijcbfhlhgjedaaGreatDoor

/- bounded: a road that is not too long, or the error. -/
namespace Go.Proofs.YtijcbfhlhgjedaaGreatDoor
open Go.RowKit Go.Shelf Go.Sort Go.Proofs

def fitsR (R : Road) : Bool := decide (R.ps.length ≤ 2000) && (decide (R.cs.length ≤ 1000) && (decide (R.js.length ≤ 200) && decide (sumL R.ps ≤ 100000)))
/-- What bounded gives. -/
def boundV (pa : Option Addr) (pn pc : Nat) (ca : Option Addr) (cn cc : Nat) (ja : Option Addr) (jn jc : Nat) (R : Road) : Value :=
  if fitsR R = true then .tuple #[.agg #[.slice pa pn pc, .slice ca cn cc, .slice ja jn jc], .int .i64 0] else .tuple #[.agg #[.slice none 0 0, .slice none 0 0, .slice none 0 0], .int .i64 4]
set_option maxRecDepth 100000 in
theorem bounded_any (pa : Option Addr) (pn pc : Nat) (ca : Option Addr) (cn cc : Nat) (ja : Option Addr) (jn jc : Nat) (R : Road) (w : World)
    (h : RD w w.heap.size pa pn ca cn ja jn R) (hk : ∀ p ∈ R.ps, pOk p = true) (hl : pn ≤ 20000) :
    Calls Tryz.prog 37 #[.agg #[.slice pa pn pc, .slice ca cn cc, .slice ja jn jc]] w fun e w' => e = .returned (boundV pa pn pc ca cn cc ja jn jc R) ∧ Below w.heap.size w w' := by
  have hR := Lib.hid h
  have hk' := Lib.hid hk
  have hS := sumL_bd R.ps hk
  have hfit : fitsR R = (decide (pn ≤ 2000) && (decide (cn ≤ 1000) && (decide (jn ≤ 200) && decide (sumL R.ps ≤ 100000)))) := by rw [fitsR, h.p.1, h.c.1, h.j.1]
  have hpe := h.p.1
  obtain ⟨S, hSe⟩ : ∃ S, S = sumL R.ps := ⟨_, rfl⟩
  have HS := Lib.hid hSe
  rw [← hSe] at hS hfit
  obtain ⟨s1, s2⟩ : 0 ≤ S ∧ S ≤ 100000000 := by omega
  clear h hk hSe hS hpe
  obtain ⟨w0, hw0⟩ : ∃ w0, w0 = (w.alloc (.cells #[.slice pa pn pc, .slice ca cn cc, .slice ja jn jc] 26)).alloc (.cells #[.slice none 0 0, .slice none 0 0, .slice none 0 0] 26) := ⟨_, rfl⟩
  have hB0 : Below w.heap.size w w0 := by rw [hw0]; exact ((Below.refl w.heap.size w).alloc (Nat.le_refl _) _).alloc (by simp) _
  have hX0 : BK w0 w.heap.size 26 #[.slice pa pn pc, .slice ca cn cc, .slice ja jn jc] := by rw [hw0]; exact (BK.new w _ _).alloc _
  have hY0 : BK w0 (w.heap.size + 1) 26 #[.slice none 0 0, .slice none 0 0, .slice none 0 0] := by rw [hw0]; have := BK.new (w.alloc (.cells #[.slice pa pn pc, .slice ca cn cc, .slice ja jn jc] 26)) 26 #[.slice none 0 0, .slice none 0 0, .slice none 0 0]; rw [World.size_alloc] at this; exact this
  have hB0' : Hid (Below w.heap.size w ((w.alloc (.cells #[.slice pa pn pc, .slice ca cn cc, .slice ja jn jc] 26)).alloc (.cells #[.slice none 0 0, .slice none 0 0, .slice none 0 0] 26))) := hw0 ▸ hB0
  by_cases g1 : pn ≤ 2000
  · by_cases g2 : cn ≤ 1000
    · by_cases g3 : jn ≤ 200
      · have hfit' : Hid (fitsR R = decide (S ≤ 100000)) := by show _ = _; simpa [g1, g2, g3] using hfit
        clear hfit
        go_enter Tryz.func37, Tryz.ntmps37
        go_wp2_with fail
        rw [← hw0]
        clear hw0 hB0'
        refine (measure_any _ _ _ _ _ _ _ _ _ R _ (hR.out.grow hB0 hB0.size) hk'.out (by omega)).mono ?_
        rintro e w2 ⟨g, ba, bq, rfl, hM, hg, hk1⟩
        have hB2 := hB0.trans (hk1.mono hB0.size)
        have hX2 := hX0.below hk1 hX0.lt
        have hY2 := hY0.below hk1 hY0.lt
        clear hB0 hX0 hY0
        go_wp2_with fail
        refine (mlength_any _ _ _ _ _ _ _ _ _ _ _ _ R _ _ hM (by omega)).mono ?_
        rintro e w3' ⟨rfl, nd, hw3⟩
        obtain ⟨w3, hw3e⟩ : ∃ w3, w3 = w3' := ⟨_, rfl⟩
        rw [← hw3e] at hw3 ⊢
        have hk2 : Below w2.heap.size w2 w3 := by rw [hw3]; exact below_drewN (Below.refl _ _) _
        clear hw3 hw3e hM
        rw [← HS.out]
        have hB3 := hB2.trans (hk2.mono hB2.size)
        have hX3 := hX2.below hk2 hX2.lt
        have hY3 := hY2.below hk2 hY2.lt
        have hz3 : w.heap.size + 1 < w3.heap.size := hY3.lt
        have x0 := hX3.cell 0
        have x1 := hX3.cell 1
        have x2 := hX3.cell 2
        have yf := hY3.frozen
        have y0 := hY3.cell 0
        have y1 := hY3.cell 1
        have y2 := hY3.cell 2
        simp only [List.getElem?_toArray, List.getElem?_cons_zero, List.getElem?_cons_succ] at x0 x1 x2 y0 y1 y2
        clear hk1 hk2 hB2 hX2 hY2
        by_cases hle : S ≤ 100000
        · have hV : Hid (boundV pa pn pc ca cn cc ja jn jc R = .tuple #[.agg #[.slice pa pn pc, .slice ca cn cc, .slice ja jn jc], .int .i64 0]) := by
            unfold boundV; rw [hfit'.out, if_pos (by simpa using hle)]; exact rfl
          go_wp2_with fail
          have hYF := ((hY3.set_ 0 (.slice pa pn pc)).set_ 1 (.slice ca cn cc)).set_ 2 (.slice ja jn jc)
          have hBF := ((hB3.setCell (p := ⟨w.heap.size + 1, 0, none⟩) (by simp) (.slice pa pn pc)).setCell (p := ⟨w.heap.size + 1, 1, none⟩) (by simp) (.slice ca cn cc)).setCell (p := ⟨w.heap.size + 1, 2, none⟩) (by simp) (.slice ja jn jc)
          obtain ⟨wF, hwF⟩ : ∃ wF, wF = ((w3.setCell ⟨w.heap.size + 1, 0, none⟩ (.slice pa pn pc)).setCell ⟨w.heap.size + 1, 1, none⟩ (.slice ca cn cc)).setCell ⟨w.heap.size + 1, 2, none⟩ (.slice ja jn jc) := ⟨_, rfl⟩
          rw [← hwF] at hYF hBF ⊢
          clear hwF
          have z0 := hYF.cell 0
          have z1 := hYF.cell 1
          have z2 := hYF.cell 2
          simp at z0 z1 z2
          refine bodyPost_ret (v := .tuple #[.agg #[.slice pa pn pc, .slice ca cn cc, .slice ja jn jc], .int .i64 0]) (by simp [results, Tryz.results37, go_sem, z0, z1, z2]) rfl ⟨by rw [hV.out], hBF⟩
        · have hV : Hid (boundV pa pn pc ca cn cc ja jn jc R = .tuple #[.agg #[.slice none 0 0, .slice none 0 0, .slice none 0 0], .int .i64 4]) := by
            unfold boundV; rw [hfit'.out, if_neg (by simpa using hle)]; exact rfl
          go_wp2_with fail
          have hYF := ((hY3.set_ 0 (.slice none 0 0)).set_ 1 (.slice none 0 0)).set_ 2 (.slice none 0 0)
          have hBF := ((hB3.setCell (p := ⟨w.heap.size + 1, 0, none⟩) (by simp) (.slice none 0 0)).setCell (p := ⟨w.heap.size + 1, 1, none⟩) (by simp) (.slice none 0 0)).setCell (p := ⟨w.heap.size + 1, 2, none⟩) (by simp) (.slice none 0 0)
          obtain ⟨wF, hwF⟩ : ∃ wF, wF = ((w3.setCell ⟨w.heap.size + 1, 0, none⟩ (.slice none 0 0)).setCell ⟨w.heap.size + 1, 1, none⟩ (.slice none 0 0)).setCell ⟨w.heap.size + 1, 2, none⟩ (.slice none 0 0) := ⟨_, rfl⟩
          rw [← hwF] at hYF hBF ⊢
          clear hwF
          have z0 := hYF.cell 0
          have z1 := hYF.cell 1
          have z2 := hYF.cell 2
          simp at z0 z1 z2
          refine bodyPost_ret (v := .tuple #[.agg #[.slice none 0 0, .slice none 0 0, .slice none 0 0], .int .i64 4]) (by simp [results, Tryz.results37, go_sem, z0, z1, z2]) rfl ⟨by rw [hV.out], hBF⟩
      · have hV : Hid (boundV pa pn pc ca cn cc ja jn jc R = .tuple #[.agg #[.slice none 0 0, .slice none 0 0, .slice none 0 0], .int .i64 4]) := by
          unfold boundV; rw [hfit, if_neg (by simp [g3])]; exact rfl
        clear hfit hw0 hB0 hX0 hY0
        go_enter Tryz.func37, Tryz.ntmps37
        have q0 : ¬ (2000 : Int) < pn := by omega
        have q1 : ¬ (1000 : Int) < cn := by omega
        have q2 : (200 : Int) < jn := by omega
        clear g1 g2 g3
        go_wp2_with fail
        refine bodyPost_ret (v := .tuple #[.agg #[.slice none 0 0, .slice none 0 0, .slice none 0 0], .int .i64 4]) (by simp [results, Tryz.results37, go_sem]) rfl ⟨by rw [hV.out], hB0'.out⟩
    · have hV : Hid (boundV pa pn pc ca cn cc ja jn jc R = .tuple #[.agg #[.slice none 0 0, .slice none 0 0, .slice none 0 0], .int .i64 4]) := by
        unfold boundV; rw [hfit, if_neg (by simp [g2])]; exact rfl
      clear hfit hw0 hB0 hX0 hY0
      go_enter Tryz.func37, Tryz.ntmps37
      have q0 : ¬ (2000 : Int) < pn := by omega
      have q1 : (1000 : Int) < cn := by omega
      clear g1 g2
      go_wp2_with fail
      refine bodyPost_ret (v := .tuple #[.agg #[.slice none 0 0, .slice none 0 0, .slice none 0 0], .int .i64 4]) (by simp [results, Tryz.results37, go_sem]) rfl ⟨by rw [hV.out], hB0'.out⟩
  · have hV : Hid (boundV pa pn pc ca cn cc ja jn jc R = .tuple #[.agg #[.slice none 0 0, .slice none 0 0, .slice none 0 0], .int .i64 4]) := by
      unfold boundV; rw [hfit, if_neg (by simp [g1])]; exact rfl
    clear hfit hw0 hB0 hX0 hY0
    go_enter Tryz.func37, Tryz.ntmps37
    have q0 : (2000 : Int) < pn := by omega
    clear g1
    go_wp2_with fail
    refine bodyPost_ret (v := .tuple #[.agg #[.slice none 0 0, .slice none 0 0, .slice none 0 0], .int .i64 4]) (by simp [results, Tryz.results37, go_sem]) rfl ⟨by rw [hV.out], hB0'.out⟩
end Go.Proofs.YtijcbfhlhgjedaaGreatDoor

/- The safer pieces of two surveys' stretches are pieces as defined. No program in sight. -/
namespace Go.Proofs.YtijcbfhlhgjedaaGreatDoor
open Go.RowKit Go.Shelf Go.Sort Go.Proofs

theorem strs_in {ps qs : List Piece} (hp : ∀ q ∈ ps, 1 ≤ q.len) (hq : ∀ q ∈ qs, 1 ≤ q.len) (he : sumL ps = sumL qs) : ∀ (f i j : Nat) (fr : Int), Lie ps i fr → Lie qs j fr → ∀ s ∈ strs ps qs f i j fr, s.p ∈ ps ∧ s.q ∈ qs ∧ 1 ≤ s.til - s.fr ∧ s.til - s.fr ≤ s.p.len
  | 0, _, _, _, _, _, s, hs => by cases hs
  | f + 1, i, j, fr, h1, h2, s, hs => by
    by_cases hi : i < ps.length
    · have hj := h1.both h2 he hp hi
      obtain ⟨t, ht⟩ : ∃ t, t = min (sumL (ps.take (i + 1))) (sumL (qs.take (j + 1))) := ⟨_, rfl⟩
      rw [strs_step hi hj ht] at hs
      have t1 := h1.hi hi
      have t2 := h2.hi hj
      have hlo := h1.lo
      have hst := sumL_take ps i hi
      rcases List.mem_cons.1 hs with rfl | hs
      · exact ⟨List.getElem_mem hi, List.getElem_mem hj, by show 1 ≤ t - fr; omega, by show t - fr ≤ ps[i].len; omega⟩
      · exact strs_in hp hq he f _ _ t (h1.next hp hi (by omega) (by omega)) (h2.next hq hj (by omega) (by omega)) s hs
    · rw [strs_end hi] at hs
      cases hs
theorem strL_in {ps qs : List Piece} (hp : ∀ q ∈ ps, 1 ≤ q.len) (hq : ∀ q ∈ qs, 1 ≤ q.len) (he : sumL ps = sumL qs) : ∀ s ∈ strL ps qs, s.p ∈ ps ∧ s.q ∈ qs ∧ 1 ≤ s.til - s.fr ∧ s.til - s.fr ≤ s.p.len :=
  strs_in hp hq he _ 0 0 0 (Lie.start hp) (Lie.start hq)
theorem sfr_ok {x y z : Piece} {l : Int} (hx : pOk x = true) (hy : pOk y = true) (hl1 : 1 ≤ l) (hl2 : l ≤ 5000) (h : sfr x y l = some z) : pOk z = true := by
  have hif : ∀ p : Piece, pOk p = true → (1 ≤ p.len ∧ p.len ≤ 5000) ∧ (-1 ≤ p.turn ∧ p.turn ≤ 1) ∧ (15 ≤ p.wid ∧ p.wid ≤ 300) ∧ (1 ≤ p.sur ∧ p.sur ≤ 9) ∧ ((p.turn = 0 → p.rad = 0) ∧ (¬ p.turn = 0 → 5 ≤ p.rad ∧ p.rad ≤ 2000)) := by
    intro p h
    simp only [pOk, inR, Bool.and_eq_true, decide_eq_true_eq] at h
    refine ⟨h.1, h.2.1, h.2.2.1, h.2.2.2.1, fun h0 => ?_, fun h0 => ?_⟩
    · have := h.2.2.2.2; rw [if_pos h0] at this; simpa using this
    · have := h.2.2.2.2; rw [if_neg h0] at this; simpa using this
  have hfi : ∀ p : Piece, (1 ≤ p.len ∧ p.len ≤ 5000) → (-1 ≤ p.turn ∧ p.turn ≤ 1) → (15 ≤ p.wid ∧ p.wid ≤ 300) → (1 ≤ p.sur ∧ p.sur ≤ 9) → ((p.turn = 0 → p.rad = 0) ∧ (¬ p.turn = 0 → 5 ≤ p.rad ∧ p.rad ≤ 2000)) → pOk p = true := by
    intro p h1 h2 h3 h4 h5
    simp only [pOk, inR, Bool.and_eq_true, decide_eq_true_eq]
    refine ⟨h1, h2, h3, h4, ?_⟩
    split
    · rename_i h0; simpa using h5.1 h0
    · rename_i h0; simpa using h5.2 h0
  obtain ⟨x1, x2, x3, x4, x5, x6⟩ := hif x hx
  obtain ⟨y1, y2, y3, y4, y5, y6⟩ := hif y hy
  have hw : 15 ≤ (if y.wid < x.wid then y.wid else x.wid) ∧ (if y.wid < x.wid then y.wid else x.wid) ≤ 300 := by split <;> omega
  have hs : 1 ≤ (if x.sur < y.sur then y.sur else x.sur) ∧ (if x.sur < y.sur then y.sur else x.sur) ≤ 9 := by split <;> omega
  unfold sfr at h
  split at h
  · cases h; exact hfi _ ⟨hl1, hl2⟩ y2 hw hs ⟨y5, y6⟩
  · rename_i h1
    split at h
    · cases h; exact hfi _ ⟨hl1, hl2⟩ x2 hw hs ⟨x5, x6⟩
    · rename_i h2
      split at h
      · cases h
        have hr : 5 ≤ (if y.rad < x.rad then y.rad else x.rad) ∧ (if y.rad < x.rad then y.rad else x.rad) ≤ 2000 := by
          have a1 := x6 h1
          have a2 := y6 h2
          split <;> omega
        exact hfi _ ⟨hl1, hl2⟩ x2 hw hs ⟨fun h0 => absurd h0 h1, fun _ => hr⟩
      · cases h
/-- The safer pieces of stretches; none, if there is none for one of them. -/
def sfM (l : List Str) : Option (List Piece) := l.foldl (fun acc s => acc.bind fun L => (sfr s.p s.q (s.til - s.fr)).map fun z => L ++ [z]) (some [])
theorem sfM_snoc (l : List Str) (s : Str) : sfM (l ++ [s]) = (sfM l).bind fun L => (sfr s.p s.q (s.til - s.fr)).map fun z => L ++ [z] := by simp [sfM, List.foldl_append]
theorem sfM_none : ∀ (r l : List Str), sfM l = none → sfM (l ++ r) = none
  | [], l, h => by rw [List.append_nil]; exact h
  | s :: r, l, h => by
    have := sfM_none r (l ++ [s]) (by rw [sfM_snoc, h]; rfl)
    rwa [List.append_assoc] at this
theorem sfM_len : ∀ (l : List Str) {L : List Piece}, sfM l = some L → L.length = l.length := fun l => by
  induction l using snoc_ind with
  | h0 => intro L h; cases h; rfl
  | h1 l s ih =>
    intro L h
    rw [sfM_snoc] at h
    cases hl : sfM l with
    | none => rw [hl] at h; cases h
    | some L' =>
      rw [hl] at h
      simp only [Option.bind_some] at h
      cases hs : sfr s.p s.q (s.til - s.fr) with
      | none => rw [hs] at h; cases h
      | some z => rw [hs] at h; cases h; rw [List.length_append, List.length_append, ih hl]; rfl
theorem sfM_mem : ∀ (l : List Str) {L : List Piece}, sfM l = some L → ∀ z ∈ L, ∃ s ∈ l, sfr s.p s.q (s.til - s.fr) = some z := fun l => by
  induction l using snoc_ind with
  | h0 => intro L h z hz; cases h; cases hz
  | h1 l s ih =>
    intro L h z hz
    rw [sfM_snoc] at h
    cases hl : sfM l with
    | none => rw [hl] at h; cases h
    | some L' =>
      rw [hl] at h
      simp only [Option.bind_some] at h
      cases hs : sfr s.p s.q (s.til - s.fr) with
      | none => rw [hs] at h; cases h
      | some z' =>
        rw [hs] at h
        cases h
        rcases List.mem_append.1 hz with hz | hz
        · obtain ⟨s', h1, h2⟩ := ih hl z hz
          exact ⟨s', List.mem_append.2 (.inl h1), h2⟩
        · rw [List.mem_singleton] at hz
          subst hz
          exact ⟨s, List.mem_append.2 (.inr (List.mem_cons_self ..)), hs⟩
theorem sfM_ok {ps qs : List Piece} (hp : ∀ q ∈ ps, pOk q = true) (hq : ∀ q ∈ qs, pOk q = true) (he : sumL ps = sumL qs) {L : List Piece} (h : sfM (strL ps qs) = some L) : ∀ z ∈ L, pOk z = true := by
  intro z hz
  obtain ⟨s, h1, h2⟩ := sfM_mem _ h z hz
  obtain ⟨a1, a2, a3, a4⟩ := strL_in (fun q hq' => (pOk_len (hp q hq')).1) (fun q hq' => (pOk_len (hq q hq')).1) he s h1
  have := pOk_len (hp _ a1)
  exact sfr_ok (hp _ a1) (hq _ a2) a3 (by omega) h2
theorem sfr_len {x y : Piece} {l : Int} {z : Piece} (h : sfr x y 0 = some z) : sfr x y l = some { z with len := l } := by
  unfold sfr at h ⊢
  split at h
  · rename_i h1; rw [if_pos h1]; cases h; rfl
  · rename_i h1
    rw [if_neg h1]
    split at h
    · rename_i h2; rw [if_pos h2]; cases h; rfl
    · rename_i h2
      rw [if_neg h2]
      split at h
      · rename_i h3; rw [if_pos h3]; cases h; rfl
      · cases h
theorem sfr_no {x y : Piece} {l : Int} (h : sfr x y 0 = none) : sfr x y l = none := by
  unfold sfr at h ⊢
  split at h
  · cases h
  · rename_i h1
    rw [if_neg h1]
    split at h
    · cases h
    · rename_i h2
      rw [if_neg h2]
      split at h
      · cases h
      · rename_i h3; rw [if_neg h3]
theorem normP_ok {ps : List Piece} (hp : ∀ q ∈ ps, pOk q = true) : ∀ z ∈ normP ps, pOk z = true := by
  intro z hz
  have h1 : ∀ q ∈ ps, 1 ≤ q.len := fun q hq => (pOk_len (hp q hq)).1
  obtain ⟨p, hpm, hpe⟩ := norm_of h1 hz
  exact pOk_one (hp p hpm) hpe (norm_ge h1 z hz)
end Go.Proofs.YtijcbfhlhgjedaaGreatDoor

/- The safer road's pieces, place by place, are those of the stretches. No program in sight. -/
namespace Go.Proofs.YtijcbfhlhgjedaaGreatDoor
open Go.RowKit Go.Shelf Go.Sort Go.Proofs

/-- The document's pieces of the first k places; none, if there is none for one of them. -/
def rfM (xs ys : List Piece) : Nat → Option (List Piece)
  | 0 => some []
  | k + 1 => (rfM xs ys k).bind fun L => match xs[k]?, ys[k]? with
    | some x, some y => (sfr x y 1).map fun z => L ++ [z]
    | _, _ => some L
theorem rfM_succ (xs ys : List Piece) (k : Nat) {x y : Piece} (hx : xs[k]? = some x) (hy : ys[k]? = some y) : rfM xs ys (k + 1) = (rfM xs ys k).bind fun L => (sfr x y 1).map fun z => L ++ [z] := by
  rw [rfM, hx, hy]
theorem rfM_run (xs ys : List Piece) {x y : Piece} (k : Nat) : ∀ m : Nat, (∀ i, i < m + 1 → xs[k + i]? = some x ∧ ys[k + i]? = some y) →
    rfM xs ys (k + (m + 1)) = (rfM xs ys k).bind fun L => (sfr x y 1).map fun z => L ++ List.replicate (m + 1) z
  | 0, h => by
    obtain ⟨h1, h2⟩ := h 0 (by omega)
    rw [rfM_succ xs ys k h1 h2]
    rfl
  | m + 1, h => by
    obtain ⟨h1, h2⟩ := h (m + 1) (by omega)
    have ih := rfM_run xs ys k m (fun i hi => h i (by omega))
    show rfM xs ys ((k + (m + 1)) + 1) = _
    rw [rfM_succ xs ys (k + (m + 1)) h1 h2, ih]
    cases rfM xs ys k with
    | none => rfl
    | some L =>
      cases sfr x y 1 with
      | none => rfl
      | some z =>
        simp only [Option.bind_some, Option.map_some]
        rw [List.append_assoc, ← List.replicate_succ']
theorem sfr_one (p q : Piece) (l : Int) : sfr (one p) (one q) l = sfr p q l := rfl
theorem sfr_units {p q : Piece} {l : Int} : (sfr p q 1).map (fun z => List.replicate l.toNat z) = (sfr p q l).map fun z => units [z] := by
  unfold sfr
  split
  · simp [units, one]
  · split
    · simp [units, one]
    · split
      · simp [units, one]
      · rfl
theorem fold_safer {ps qs : List Piece} (hp : ∀ q ∈ ps, 1 ≤ q.len) (hq : ∀ q ∈ qs, 1 ≤ q.len) (he : sumL ps = sumL qs) : ∀ (f i j : Nat) (fr : Int) (acc : Option (List Piece)), Lie ps i fr → Lie qs j fr → (ps.length - i) + (qs.length - j) ≤ f →
    rfM (units ps) (units qs) fr.toNat = acc.map units →
    rfM (units ps) (units qs) (sumL ps).toNat = ((strs ps qs f i j fr).foldl (fun acc s => acc.bind fun L => (sfr s.p s.q (s.til - s.fr)).map fun z => L ++ [z]) acc).map units
  | 0, i, j, fr, acc, h1, _, hf, ha => by
    rw [strs, List.foldl_nil, ← ha, h1.end_ (by omega)]
  | f + 1, i, j, fr, acc, h1, h2, hf, ha => by
    by_cases hi : i < ps.length
    · have hj := h1.both h2 he hp hi
      have hpi : ps[i]? = some ps[i] := List.getElem?_eq_getElem hi
      have hqj : qs[j]? = some qs[j] := List.getElem?_eq_getElem hj
      obtain ⟨t, ht⟩ : ∃ t, t = min (sumL (ps.take (i + 1))) (sumL (qs.take (j + 1))) := ⟨_, rfl⟩
      rw [strs_step hi hj ht, List.foldl_cons]
      have t1 := h1.hi hi
      have t2 := h2.hi hj
      have hn := h1.nn
      have hlo1 := h1.lo
      have hlo2 := h2.lo
      obtain ⟨m, hm⟩ : ∃ m : Nat, t = fr + (m + 1 : Nat) := ⟨(t - fr - 1).toNat, by omega⟩
      have hrun := rfM_run (units ps) (units qs) (x := one ps[i]) (y := one qs[j]) fr.toNat m (fun k hk => by
        have e : fr.toNat + k = (fr + k).toNat := by omega
        rw [e]
        exact ⟨at_units (fun q hq => by have := hp q hq; omega) (by omega) ⟨hi, by omega, by omega⟩ hpi, at_units (fun q hq' => by have := hq q hq'; omega) (by omega) ⟨hj, by omega, by omega⟩ hqj⟩)
      have hnew : rfM (units ps) (units qs) t.toNat = (acc.bind fun L => (sfr ps[i] qs[j] (t - fr)).map fun z => L ++ [z]).map units := by
        have e1 : t.toNat = fr.toNat + (m + 1) := by omega
        rw [e1, hrun, ha, sfr_one]
        have hu := sfr_units (p := ps[i]) (q := qs[j]) (l := t - fr)
        have hl : (t - fr).toNat = m + 1 := by omega
        rw [hl] at hu
        cases acc with
        | none => rfl
        | some L =>
          simp only [Option.map_some, Option.bind_some]
          cases h5 : sfr ps[i] qs[j] 1 with
          | none =>
            rw [h5] at hu
            cases h6 : sfr ps[i] qs[j] (t - fr) with
            | none => rfl
            | some z => rw [h6] at hu; cases hu
          | some z1 =>
            rw [h5] at hu
            cases h6 : sfr ps[i] qs[j] (t - fr) with
            | none => rw [h6] at hu; cases hu
            | some z =>
              rw [h6] at hu
              simp only [Option.map_some, Option.some.injEq] at hu ⊢
              rw [units_append, hu]
      refine fold_safer hp hq he f _ _ t _ (h1.next hp hi (by omega) (by omega)) (h2.next hq hj (by omega) (by omega)) ?_ hnew
      have a1 := nxI_le ps i t
      have a2 := nxI_le qs j t
      have a3 : nxI ps i t = i + 1 ∨ nxI qs j t = j + 1 := by
        unfold nxI
        rcases Int.le_total (sumL (ps.take (i + 1))) (sumL (qs.take (j + 1))) with h | h
        · exact .inl (if_pos (by omega))
        · exact .inr (if_pos (by omega))
      omega
    · rw [strs_end hi, List.foldl_nil, ← ha, h1.end_ hi]
/-- Place by place it is the same as by stretches. -/
theorem rfM_sfM {ps qs : List Piece} (hp : ∀ q ∈ ps, 1 ≤ q.len) (hq : ∀ q ∈ qs, 1 ≤ q.len) (he : sumL ps = sumL qs) : rfM (units ps) (units qs) (sumL ps).toNat = (sfM (strL ps qs)).map units :=
  fold_safer hp hq he _ 0 0 0 (some []) (Lie.start hp) (Lie.start hq) (by omega) rfl
end Go.Proofs.YtijcbfhlhgjedaaGreatDoor

/- Two strictly sorted lists, merged by steps: what sorting and joining neighbours makes of them. No program in sight. -/
namespace Go.Proofs.YtijcbfhlhgjedaaGreatDoor
open Go.RowKit Go.Shelf Go.Sort Go.Proofs

section
variable {α : Type} (key : α → Int) (both : α → α → α) (ok : α → α → Bool)
def mr2 : List α → List α → List α
  | [], R => R
  | l :: L, [] => l :: L
  | l :: L, r :: R => if key l < key r then l :: mr2 L (r :: R) else if key r < key l then r :: mr2 (l :: L) R else both l r :: mr2 L R
termination_by L R => L.length + R.length
def mr2g : List α → List α → Bool
  | [], _ => true
  | _ :: _, [] => true
  | l :: L, r :: R => if key l < key r then mr2g L (r :: R) else if key r < key l then mr2g (l :: L) R else ok l r && mr2g L R
termination_by L R => L.length + R.length
theorem mr2_nil (L : List α) : mr2 key both L [] = L := by cases L <;> simp [mr2]
theorem nil_mr2 (R : List α) : mr2 key both [] R = R := by simp [mr2]
theorem mr2_cons (l : α) (L : List α) (r : α) (R : List α) : mr2 key both (l :: L) (r :: R) = if key l < key r then l :: mr2 key both L (r :: R) else if key r < key l then r :: mr2 key both (l :: L) R else both l r :: mr2 key both L R := by rw [mr2]
theorem mr2g_nil (L : List α) : mr2g key ok L [] = true := by cases L <;> simp [mr2g]
theorem nil_mr2g (R : List α) : mr2g key ok [] R = true := by simp [mr2g]
theorem mr2g_cons (l : α) (L : List α) (r : α) (R : List α) : mr2g key ok (l :: L) (r :: R) = if key l < key r then mr2g key ok L (r :: R) else if key r < key l then mr2g key ok (l :: L) R else ok l r && mr2g key ok L R := by rw [mr2g]
theorem mrg_mem : ∀ {L R : List α} {z : α}, z ∈ mrg key L R → z ∈ L ∨ z ∈ R
  | [], R, z, h => .inr (by rwa [nil_mrg] at h)
  | l :: L, [], z, h => .inl (by rwa [mrg_nil] at h)
  | l :: L, r :: R, z, h => by
    rw [mrg_cons] at h
    split at h
    · rcases List.mem_cons.1 h with rfl | h
      · exact .inr (List.mem_cons_self ..)
      · rcases mrg_mem h with h | h
        · exact .inl h
        · exact .inr (List.mem_cons_of_mem _ h)
    · rcases List.mem_cons.1 h with rfl | h
      · exact .inl (List.mem_cons_self ..)
      · rcases mrg_mem h with h | h
        · exact .inl (List.mem_cons_of_mem _ h)
        · exact .inr h
termination_by L R => L.length + R.length
theorem ded_far {x : α} {l : List α} (h : ∀ z ∈ l, key x < key z) : ded key both x l = x :: mgd key both l := by
  cases l with
  | nil => rfl
  | cons y r =>
    have := h y (List.mem_cons_self ..)
    rw [ded, if_neg (by omega)]
    rfl
theorem good_far {x : α} {l : List α} (h : ∀ z ∈ l, key x < key z) : good key both ok x l = mgood key both ok l := by
  cases l with
  | nil => rfl
  | cons y r =>
    have := h y (List.mem_cons_self ..)
    rw [good, if_neg (by omega)]
    rfl
def Pw (l : List α) : Prop := l.Pairwise fun a b => key a < key b
theorem Pw.srt {l : List α} (h : Pw key l) : Srt key l := h.imp (fun h => Int.le_of_lt h)
theorem ssort_app {L R : List α} (hL : Pw key L) (hR : Pw key R) : ssort key (L ++ R) = mrg key L R := by
  rw [← mrg_ssort, ssort_of_srt key hL.srt, ssort_of_srt key hR.srt]
/-- Where the heads are equal, both stand ahead of all else. -/
theorem mrg_eq {l r : α} {L R : List α} (hL : Pw key (l :: L)) (hR : Pw key (r :: R)) (he : key l = key r) : mrg key (l :: L) (r :: R) = l :: r :: mrg key L R ∧ (∀ z ∈ mrg key L R, key l < key z) := by
  obtain ⟨h1, h2⟩ := List.pairwise_cons.1 hL
  obtain ⟨h3, h4⟩ := List.pairwise_cons.1 hR
  refine ⟨?_, fun z hz => ?_⟩
  · rw [mrg_cons, if_neg (by omega)]
    congr 1
    cases L with
    | nil => rw [nil_mrg, nil_mrg]
    | cons x L =>
      have := h1 x (List.mem_cons_self ..)
      rw [mrg_cons, if_pos (by omega)]
  · rcases mrg_mem key hz with hz | hz
    · exact h1 z hz
    · have := h3 z hz; omega
theorem mgd_mrg (hb : ∀ x y, key (both x y) = key x) : ∀ {L R : List α}, Pw key L → Pw key R → mgd key both (mrg key L R) = mr2 key both L R ∧ mgood key both ok (mrg key L R) = mr2g key ok L R
  | [], R, _, hR => by
    rw [nil_mrg, nil_mr2, nil_mr2g]
    induction R with
    | nil => exact ⟨rfl, rfl⟩
    | cons r R ih =>
      obtain ⟨h3, h4⟩ := List.pairwise_cons.1 hR
      obtain ⟨i1, i2⟩ := ih h4
      exact ⟨by rw [mgd, ded_far key both h3, i1], by rw [mgood, good_far key both ok h3, i2]⟩
  | l :: L, [], hL, _ => by
    rw [mrg_nil, mr2_nil, mr2g_nil]
    obtain ⟨h1, h2⟩ := List.pairwise_cons.1 hL
    have ih := mgd_mrg hb (L := L) (R := []) h2 List.Pairwise.nil
    rw [mrg_nil, mr2_nil, mr2g_nil] at ih
    exact ⟨by rw [mgd, ded_far key both h1, ih.1], by rw [mgood, good_far key both ok h1, ih.2]⟩
  | l :: L, r :: R, hL, hR => by
    obtain ⟨h1, h2⟩ := List.pairwise_cons.1 hL
    obtain ⟨h3, h4⟩ := List.pairwise_cons.1 hR
    rw [mr2_cons, mr2g_cons]
    by_cases c1 : key l < key r
    · have hfar : ∀ z ∈ mrg key L (r :: R), key l < key z := fun z hz => by
        rcases mrg_mem key hz with hz | hz
        · exact h1 z hz
        · rcases List.mem_cons.1 hz with rfl | hz
          · exact c1
          · have := h3 z hz; omega
      have ih := mgd_mrg hb (L := L) (R := r :: R) h2 hR
      rw [mrg_cons, if_neg (by omega), if_pos c1, if_pos c1]
      exact ⟨by rw [mgd, ded_far key both hfar, ih.1], by rw [mgood, good_far key both ok hfar, ih.2]⟩
    · rw [if_neg c1, if_neg c1]
      by_cases c2 : key r < key l
      · have hfar : ∀ z ∈ mrg key (l :: L) R, key r < key z := fun z hz => by
          rcases mrg_mem key hz with hz | hz
          · rcases List.mem_cons.1 hz with rfl | hz
            · exact c2
            · have := h1 z hz; omega
          · exact h3 z hz
        have ih := mgd_mrg hb (L := l :: L) (R := R) hL h4
        rw [mrg_cons, if_pos c2, if_pos c2, if_pos c2]
        exact ⟨by rw [mgd, ded_far key both hfar, ih.1], by rw [mgood, good_far key both ok hfar, ih.2]⟩
      · rw [if_neg c2, if_neg c2]
        obtain ⟨e1, e2⟩ := mrg_eq key hL hR (by omega)
        have ih := mgd_mrg hb (L := L) (R := R) h2 h4
        rw [e1]
        have e3 : ∀ z ∈ mrg key L R, key (both l r) < key z := fun z hz => by rw [hb]; exact e2 z hz
        exact ⟨by rw [mgd, ded, if_pos (by omega), ded_far key both e3, ih.1], by rw [mgood, good, if_pos (by omega), good_far key both ok e3, ih.2]⟩
termination_by L R => L.length + R.length
theorem mr2_symm (h1 : ∀ x y, key x = key y → ok x y = true → both x y = both y x) (h2 : ∀ x y, ok x y = ok y x) : ∀ L R : List α, mr2g key ok L R = mr2g key ok R L ∧ (mr2g key ok L R = true → mr2 key both L R = mr2 key both R L)
  | [], R => by rw [nil_mr2g, mr2g_nil, nil_mr2, mr2_nil]; exact ⟨rfl, fun _ => rfl⟩
  | l :: L, [] => by rw [nil_mr2g, mr2g_nil, nil_mr2, mr2_nil]; exact ⟨rfl, fun _ => rfl⟩
  | l :: L, r :: R => by
    rw [mr2g_cons, mr2g_cons, mr2_cons, mr2_cons]
    by_cases c1 : key l < key r
    · rw [if_pos c1, if_neg (by omega), if_pos c1, if_pos c1, if_neg (by omega), if_pos c1]
      obtain ⟨i1, i2⟩ := mr2_symm h1 h2 L (r :: R)
      exact ⟨i1, fun h => by rw [i2 h]⟩
    · by_cases c2 : key r < key l
      · rw [if_neg c1, if_pos c2, if_pos c2, if_neg c1, if_pos c2, if_pos c2]
        obtain ⟨i1, i2⟩ := mr2_symm h1 h2 (l :: L) R
        exact ⟨i1, fun h => by rw [i2 h]⟩
      · rw [if_neg c1, if_neg c2, if_neg c2, if_neg c1, if_neg c1, if_neg c2, if_neg c2, if_neg c1]
        obtain ⟨i1, i2⟩ := mr2_symm h1 h2 L R
        refine ⟨by rw [h2 l r, i1], fun h => ?_⟩
        obtain ⟨a1, a2⟩ := Bool.and_eq_true_iff.1 h
        rw [h1 l r (by omega) a1, i2 a2]
termination_by L R => L.length + R.length
end
theorem bothC_symm (x y : Crest) (h : x.pos = y.pos) : bothC x y = bothC y x := by
  unfold bothC
  rw [h]
  congr 1
  split <;> split <;> omega
theorem okJ_eq {x y : Junc} (h : okJ x y = true) : x = y := by
  simp only [okJ, Bool.and_eq_true, decide_eq_true_eq] at h
  cases x; cases y
  simp only at h
  obtain ⟨rfl, rfl, rfl⟩ := h
  rfl
theorem okJ_symm (x y : Junc) : okJ x y = okJ y x := by
  unfold okJ
  rw [show decide (x.pos = y.pos) = decide (y.pos = x.pos) by rw [decide_eq_decide]; exact eq_comm, show decide (x.arms = y.arms) = decide (y.arms = x.arms) by rw [decide_eq_decide]; exact eq_comm, show decide (x.way = y.way) = decide (y.way = x.way) by rw [decide_eq_decide]; exact eq_comm]
theorem bothJ_symm (x y : Junc) (h : okJ x y = true) : bothJ x y = bothJ y x := by
  obtain rfl := okJ_eq h
  rfl
theorem sfr_symm {x y : Piece} (hx : pOk x = true) (hy : pOk y = true) (l : Int) : sfr x y l = sfr y x l := by
  have hz : ∀ p : Piece, pOk p = true → p.turn = 0 → p.rad = 0 := by
    intro p h h0
    simp only [pOk, Bool.and_eq_true] at h
    have := h.2.2.2.2
    rw [if_pos h0] at this
    simpa using this
  have e1 : (if y.wid < x.wid then y.wid else x.wid) = (if x.wid < y.wid then x.wid else y.wid) := by split <;> split <;> omega
  have e2 : (if x.sur < y.sur then y.sur else x.sur) = (if y.sur < x.sur then x.sur else y.sur) := by split <;> split <;> omega
  have e3 : (if y.rad < x.rad then y.rad else x.rad) = (if x.rad < y.rad then x.rad else y.rad) := by split <;> split <;> omega
  unfold sfr
  rw [e1, e2, e3]
  by_cases h1 : x.turn = 0
  · by_cases h2 : y.turn = 0
    · rw [if_pos h1, if_pos h2, h1, h2, hz x hx h1, hz y hy h2]
    · rw [if_pos h1, if_neg h2, if_pos h1]
  · by_cases h2 : y.turn = 0
    · rw [if_neg h1, if_pos h2, if_pos h2]
    · rw [if_neg h1, if_neg h2, if_neg h2, if_neg h1]
      by_cases h3 : x.turn = y.turn
      · rw [if_pos h3, if_pos h3.symm, h3]
      · rw [if_neg h3, if_neg (fun h => h3 h.symm)]
end Go.Proofs.YtijcbfhlhgjedaaGreatDoor

/- The document's safer pieces, place by place, are pieces as defined, each of length one. No program in sight. -/
namespace Go.Proofs.YtijcbfhlhgjedaaGreatDoor
open Go.RowKit Go.Shelf Go.Sort Go.Proofs
theorem rfM_ok (xs ys : List Piece) (hx : ∀ q ∈ xs, pOk q = true) (hy : ∀ q ∈ ys, pOk q = true) : ∀ (k : Nat) {L : List Piece}, rfM xs ys k = some L → ∀ z ∈ L, pOk z = true
  | 0, L, h, z, hz => by cases h; cases hz
  | k + 1, L, h, z, hz => by
    rw [rfM] at h
    cases hk : rfM xs ys k with
    | none => rw [hk] at h; cases h
    | some L' =>
      rw [hk] at h
      have ih := rfM_ok xs ys hx hy k hk
      simp only [Option.bind_some] at h
      split at h
      · rename_i x y h1 h2
        cases hs : sfr x y 1 with
        | none => rw [hs] at h; cases h
        | some z' =>
          rw [hs] at h
          cases h
          rcases List.mem_append.1 hz with hz | hz
          · exact ih z hz
          · rw [List.mem_singleton] at hz
            subst hz
            exact sfr_ok (hx _ (List.mem_of_getElem? h1)) (hy _ (List.mem_of_getElem? h2)) (by decide) (by decide) hs
      · cases h
        exact ih z hz
theorem sfr_l {x y z : Piece} {l : Int} (h : sfr x y l = some z) : z.len = l := by
  unfold sfr at h
  split at h
  · cases h; rfl
  · split at h
    · cases h; rfl
    · split at h
      · cases h; rfl
      · cases h
theorem rfM_one (xs ys : List Piece) : ∀ (k : Nat) {L : List Piece}, rfM xs ys k = some L → ∀ z ∈ L, z.len = 1
  | 0, L, h, z, hz => by cases h; cases hz
  | k + 1, L, h, z, hz => by
    rw [rfM] at h
    cases hk : rfM xs ys k with
    | none => rw [hk] at h; cases h
    | some L' =>
      rw [hk] at h
      have ih := rfM_one xs ys k hk
      simp only [Option.bind_some] at h
      split at h
      · rename_i x y _ _
        cases hs : sfr x y 1 with
        | none => rw [hs] at h; cases h
        | some z' =>
          rw [hs] at h
          cases h
          rcases List.mem_append.1 hz with hz | hz
          · exact ih z hz
          · rw [List.mem_singleton] at hz
            subst hz
            exact sfr_l hs
      · cases h
        exact ih z hz
end Go.Proofs.YtijcbfhlhgjedaaGreatDoor

/- road.Part, walked. -/
namespace Go.Proofs.YtijcbfhlhgjedaaGreatDoor
open Go.RowKit Go.Shelf Go.Sort Go.Proofs

attribute [local go_sem] Oper.semAt_some

theorem DK.ne_row {α : Type} {f : α → List Value} {sz : Nat} {e : TypeId} {base : Nat} {w : World} {D : Nat} {A : Option Addr} {n c : Nat} {l : List α} (h : DK w D) (ho : OW f sz e base w A n c l) : ∀ g, A = some g → g.block ≠ D := fun g hg he => by
  subst hg
  rcases ho.1.2 with ⟨h3, _⟩ | ⟨g', cap, cur, h3, _, hg', _⟩
  · cases h3
  · injection h3 with h3
    injection h3 with h3
    subst h3
    unfold DK at h
    rw [show D = g' from he.symm, hg'] at h
    cases h
end Go.Proofs.YtijcbfhlhgjedaaGreatDoor
