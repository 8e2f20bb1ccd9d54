/- Package score: the cars of whose times a car is judged, what it costs at a control, the time of a car, its total. Printed by genscg.py. -/
import Derived.Test.YtafclpmnpamipaaGreatQScF
import Derived.Test.YtafclpmnpamipaaGreatQRegV
namespace Go.Proofs.YtafclpmnpamipaaGreat
open Go.RowKit Go.Shelf Go.Sort Go.Proofs

set_option maxRecDepth 100000 in
set_option maxHeartbeats 8000000 in
theorem scChosen {eb cn cc oc : Nat} {L : PlF} {ca oa : Option Addr} {xs : List CdV} (w : World) (h : EV w w.heap.size eb L ca cn cc oa oc xs) (k : Nat) (x : CdV) (hx : xs[k]? = some x) (hn : cn ≤ 200) :
    Calls Tryz.prog 94 #[.pointer (some ⟨eb, 0, none⟩), .int .i64 k, .int .i64 0] w fun e w' => ∃ A c, e = .returned (.slice A cn c) ∧ OW iC 1 3 w.heap.size w' A cn c (rng cn) ∧ Below w.heap.size w w' := by
  obtain ⟨x0, x1, x2, x3, x4, x5, x6, x7, x8, x9, x10, x11, x12, x13, x14, x15⟩ := bk16 h.b
  obtain ⟨b, off, hA, hbB, c0, c1, c2, hcd⟩ := h.c.atx hx
  have hk1 : (0 : Int) ≤ (k : Int) := by omega
  have hk2 : (k : Int) < (cn : Int) := h.klt hx
  have hc0 : 0 < cn := by omega
  have HR := Lib.hid (scReal w h 0 (.inr rfl) hn)
  clear h hcd
  subst hA
  go_enter Tryz.func94, Tryz.ntmps94
  go_wp2_with fail
  refine HR.out.mono ?_
  rintro e w' ⟨A, c, rfl, hO, hb⟩
  go_wp2_with fail
  go_ret
  exact ⟨A, c, rfl, hO, hb⟩
set_option maxRecDepth 100000 in
set_option maxHeartbeats 8000000 in
theorem scPenalty {eb cn cc oc : Nat} {L : PlF} {ca oa : Option Addr} {xs : List CdV} (w : World) (h : EV w w.heap.size eb L ca cn cc oa oc xs) (k : Nat) (x : CdV) (hx : xs[k]? = some x) :
    Calls Tryz.prog 92 #[.pointer (some ⟨eb, 0, none⟩), .int .i64 k, .int .i64 0] w fun e w' => e = .returned (.tuple #[.int .i64 0, .int .i64 0]) ∧ Below w.heap.size w w' := by
  have hmo : Tryz.prog.follows .mixedOrders = true := by kernel_rfl
  obtain ⟨x0, x1, x2, x3, x4, x5, x6, x7, x8, x9, x10, x11, x12, x13, x14, x15⟩ := bk16 h.b
  obtain ⟨b, off, hA, hbB, c0, c1, c2, hcd⟩ := h.c.atx hx
  obtain ⟨w0, hw0⟩ : ∃ w0, w0 = w := ⟨_, rfl⟩
  have HPw0 : Hid (PD w0 w0.heap.size L) := by rw [hw0]; exact h.p
  have hk1 : (0 : Int) ≤ (k : Int) := by omega
  have hk2 : (k : Int) < (cn : Int) := h.klt hx
  subst hw0
  clear h hcd
  subst hA
  go_enter Tryz.func92, Tryz.ntmps92
  go_wp2_with fail
  have x0 := fun d os => cell_regrown x0 d os
  have x1 := fun d os => cell_regrown x1 d os
  have x2 := fun d os => cell_regrown x2 d os
  have x3 := fun d os => cell_regrown x3 d os
  have x4 := fun d os => cell_regrown x4 d os
  have x5 := fun d os => cell_regrown x5 d os
  have x6 := fun d os => cell_regrown x6 d os
  have x7 := fun d os => cell_regrown x7 d os
  have x8 := fun d os => cell_regrown x8 d os
  have x9 := fun d os => cell_regrown x9 d os
  have x10 := fun d os => cell_regrown x10 d os
  have x11 := fun d os => cell_regrown x11 d os
  have x12 := fun d os => cell_regrown x12 d os
  have x13 := fun d os => cell_regrown x13 d os
  have x14 := fun d os => cell_regrown x14 d os
  have x15 := fun d os => cell_regrown x15 d os
  have c0 := fun d os => cell_regrown c0 d os
  have c1 := fun d os => cell_regrown c1 d os
  have c2 := fun d os => cell_regrown c2 d os
  have HPG := Lib.hid (fun d os => HPw0.out.grow (below_regrown w0 d os) (below_regrown w0 d os).size)
  refine wp_region_ch 17 [12, 16] hmo (by kernel_rfl) ?_
  simp only [List.take_succ_cons, List.take_zero, List.drop_succ_cons, List.drop_zero]
  repeat (with_reducible refine wpC_q (by decide) (by decide) (fun K hK => ?_); go_simp; (try rw [if_neg (by simp [undef])]); refine hK _ ?_; clear hK K)
  with_reducible refine wpC_cg (ι := Unit) 136 #[.agg #[.slice (some ⟨L.ib, 0, none⟩) 1 L.ic, .int .i64 1, .int .i64 0, .int .i64 0, .int .i64 L.ml, .int .i64 L.ll, .slice (some ⟨L.jb, 0, none⟩) 1 L.jc, .bool false, .int .i64 0, .int .i64 1, .int .i64 100, .int .i64 L.pow, .slice L.pa L.ps.length L.pc, .slice none 0 0], .agg #[.int .i64 0, .slice (some ⟨x.sb, 0, none⟩) 1 x.sc, .slice (some ⟨x.lb, 0, none⟩) 1 x.lc], .int .i64 0] (fun _ => .tuple #[.int .i64 0, .int .i64 0]) (fun _ _ => True) (by decide) (by decide) (by go_simp) (fun w => by go_simp) stable_true (fun _ => stable_true) (fun W hW _ => ?_) (fun i0 hs0 => ?_)
  · obtain ⟨pp, rfl⟩ := hW
    refine (scSide L x _ (HPG.out _ _)).mono ?_
    rintro e w' ⟨rfl, hbl⟩
    exact ⟨(), rfl, trivial, hbl⟩
  repeat (with_reducible refine wpC_q (by decide) (by decide) (fun K hK => ?_); go_simp; (try rw [if_neg (by simp [undef])]); refine hK _ ?_; clear hK K)
  with_reducible refine wpC_vg (ι := Unit) (fun _ => .int .i64 0) (fun _ _ => True) (by decide) (by decide) (by go_simp) hs0 (fun _ => stable_true) (fun W _ _ => ⟨(), W, by go_simp, trivial, Below.refl _ _⟩) (fun i1 hs1 => ?_)
  repeat (with_reducible refine wpC_q (by decide) (by decide) (fun K hK => ?_); go_simp; (try rw [if_neg (by simp [undef])]); refine hK _ ?_; clear hK K)
  refine wpC_nil ?_
  intro w1 hb1 _
  clear x0 x1 x2 x3 x4 x5 x6 x7 x8 x9 x10 x11 x12 x13 x14 x15 c0 c1 c2 HPG hs0 hs1
  go_wp2_with fail
  go_ret2
  exact ⟨rfl, hb1⟩
set_option maxRecDepth 100000 in
set_option maxHeartbeats 8000000 in
theorem scTime {eb cn cc oc : Nat} {L : PlF} {ca oa : Option Addr} {xs : List CdV} (w : World) (h : EV w w.heap.size eb L ca cn cc oa oc xs) (k : Nat) (x : CdV) (hx : xs[k]? = some x) (hn : cn ≤ 200) :
    Calls Tryz.prog 40 #[.pointer (some ⟨eb, 0, none⟩), .int .i64 k, .int .i64 0] w fun e w' => e = .returned (.int .i64 x.t) ∧ Below w.heap.size w w' := by
  have HC := Lib.hid (scChosen w h k x hx hn)
  have HE := Lib.hid h
  have HT := Lib.hid (fun w' (hb : Below w.heap.size w w') => scTook w' (HE.out.grow hb hb.size) k x hx)
  have hk1 : (0 : Int) ≤ (k : Int) := by omega
  have hk2 : (k : Int) < (cn : Int) := h.klt hx
  clear h
  go_enter Tryz.func40, Tryz.ntmps40
  go_wp2_with fail
  refine HC.out.mono ?_
  rintro e w1 ⟨A, c, rfl, hO, hb1⟩
  have HB1 := Lib.hid hb1
  have hE1 := HE.out.grow hb1 hb1.size
  obtain ⟨x0, x1, x2, x3, x4, x5, x6, x7, x8, x9, x10, x11, x12, x13, x14, x15⟩ := bk16 hE1.b
  obtain ⟨b, off, hA, hbB, c0, c1, c2, hcd⟩ := hE1.c.atx hx
  have HT1 := Lib.hid (HT.out w1 hb1)
  obtain ⟨l0, l1, l2, l3⟩ := hcd.ln
  clear hE1 hcd hb1 HC HT HE hO
  subst hA
  go_wp2_with fail
  refine HT1.out.mono ?_
  rintro e w' ⟨rfl, rfl⟩
  go_wp2_with fail
  go_ret
  exact ⟨rfl, HB1.out⟩
set_option maxRecDepth 100000 in
set_option maxHeartbeats 8000000 in
theorem scTotal {eb cn cc oc : Nat} {L : PlF} {ca oa : Option Addr} {xs : List CdV} (w : World) (h : EV w w.heap.size eb L ca cn cc oa oc xs) (k : Nat) (x : CdV) (hx : xs[k]? = some x) (hn : cn ≤ 200) :
    Calls Tryz.prog 38 #[.pointer (some ⟨eb, 0, none⟩), .int .i64 k] w fun e w' => e = .returned (.int .i64 x.t) ∧ Below w.heap.size w w' := by
  have HE := Lib.hid h
  have hk1 : (0 : Int) ≤ (k : Int) := by omega
  have hk2 : (k : Int) < (cn : Int) := h.klt hx
  have hkc : k < cn := by omega
  obtain ⟨x0, x1, x2, x3, x4, x5, x6, x7, x8, x9, x10, x11, x12, x13, x14, x15⟩ := bk16 h.b
  have HT := Lib.hid (scTime w h k x hx hn)
  have HRU := Lib.hid (scRuns w h k hkc)
  have HST := Lib.hid (scStage w h)
  have HPE := Lib.hid (fun w' (hb : Below w.heap.size w w') => scPenalty w' (HE.out.grow hb hb.size) k x hx)
  have htb := (h.c.k x (List.mem_of_getElem? hx)).t
  have hwz : IntKind.i64.wrap 0 = 0 := by decide
  have hw1 : IntKind.i64.wrap x.t = x.t := IntWalk.i64_in _ (by omega)
  clear h htb
  go_enter Tryz.func38, Tryz.ntmps38
  go_wp2_with fail
  refine wp_loop_rounds 2 ?_
  rw [rounds_succ]
  go_wp2_with (first
    | (go_at_call 91; refine HRU.out.mono ?_; rintro e w' ⟨rfl, rfl⟩)
    | (go_at_call 39; refine HST.out.mono ?_; rintro e w' ⟨rfl, rfl⟩)
    | fail)
  refine HT.out.mono ?_
  rintro e w1 ⟨rfl, hb1⟩
  have HB1 := Lib.hid hb1
  clear hb1
  go_wp2_with fail
  refine (HPE.out w1 HB1.out).mono ?_
  rintro e w2 ⟨rfl, hb2⟩
  have HB2 := Lib.hid (HB1.out.trans (hb2.mono HB1.out.size))
  have hE2 := HE.out.grow HB2.out HB2.out.size
  clear x0 x1 x2 x3 x4 x5 x6 x7 x8 x9 x10 x11 x12 x13 x14 x15 hb2
  obtain ⟨x0, x1, x2, x3, x4, x5, x6, x7, x8, x9, x10, x11, x12, x13, x14, x15⟩ := bk16 hE2.b
  obtain ⟨b, off, hA, hbB, c0, c1, c2, hcd⟩ := hE2.c.atx hx
  obtain ⟨i0, i1, i2, i3⟩ := hE2.p.it
  obtain ⟨l0, l1, l2, l3⟩ := hcd.ln
  clear hE2 hcd HT HRU HST HPE HB1
  subst hA
  go_wp2_with fail
  rw [rounds_succ]
  go_wp2_with fail
  go_ret
  exact ⟨rfl, HB2.out⟩
end Go.Proofs.YtafclpmnpamipaaGreat
