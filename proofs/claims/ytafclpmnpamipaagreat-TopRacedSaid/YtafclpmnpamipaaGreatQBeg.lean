/- pace.begin: a track: the sums of the times of a road's meters; or nothing, where an argument is not as defined. -/
import Derived.Test.YtafclpmnpamipaaGreatQMtr
import Derived.Test.YtafclpmnpamipaaGreatQReg8
import Derived.Test.YtafclpmnpamipaaGreatQLast
namespace Go.Proofs.YtafclpmnpamipaaGreat
open Go.RowKit Go.Shelf Go.Sort Go.Proofs

attribute [local go_sem] Oper.semAt_some

theorem infoTi : (Tryz.prog.info? 157).map (fun i => (i.zero, i.size, i.bytes)) = some (some (.agg #[.int .i64 0, .int .i64 0]), 2, 16) := by kernel_rfl
theorem made_take2 (x y : Value) (m : Nat) : (madeCells #[x, y] (m + 2)).toList.take 2 = [x, y] := by
  unfold madeCells
  rw [Array.toList_map, ← List.map_take, Array.toList_range, List.take_range, Nat.min_eq_left (by omega)]
  rfl
theorem make_times (N : Nat) (hN : N ≤ 100000) (w : World) : (Instr.makeSlice 104 (.int .i64 1) (.int .i64 ((N : Int) + 1))).run Tryz.prog w =
    .ok (.slice (some ⟨w.heap.size, 0, none⟩) 1 (N + 1)) (w.alloc (.cells (madeCells #[.int .i64 0, .int .i64 0] (2 * N + 2)) 157)) := by
  obtain ⟨ie, hie, hiz, his, hib⟩ := info_parts infoTi
  have hr := run_makeSlice (P := Tryz.prog) w 104 157 ie (.agg #[.int .i64 0, .int .i64 0]) Tryz.underlying104 hie hiz .i64 .i64 1 ((N : Int) + 1) (by omega) (by omega) (by rw [his]; omega) (by rw [hib]; omega) (by omega)
  rw [hr, his]
  have e1 : ((N : Int) + 1).toNat = N + 1 := by omega
  have e2 : (N + 1) * 2 = 2 * N + 2 := by omega
  rw [e1, e2]
  rfl
theorem made_ow (S : Spd) (ps : List Piece) (N : Nat) (hN : N ≤ 100000) (w : World) (base : Nat) (hb : base ≤ w.heap.size) :
    OW tiC 2 157 base (w.alloc (.cells (madeCells #[.int .i64 0, .int .i64 0] (2 * N + 2)) 157)) (some ⟨w.heap.size, 0, none⟩) 1 (N + 1) (tms S ps 1) := by
  refine ⟨⟨?_, .inr ⟨w.heap.size, N + 1, _, rfl, hb, BK.new w _ _, by omega, by unfold maxLen; omega, by rw [size_madeCells]; omega, ?_⟩⟩, ?_⟩
  · simp [tms, tiC]
  · rw [Nat.one_mul, made_take2]
    simp [tms, tiC, tQ_zero, tSl_zero]
  · simp [tms]
/-- What may stand in the first cell, and how the world has grown. -/
structure RegZ where
  z : Value
  d : Nat
  os : Array Obj
instance : Inhabited RegZ := ⟨⟨undef, 0, #[]⟩⟩
structure RegO where
  o : Obj
  d : Nat
  os : Array Obj
instance : Inhabited RegO := ⟨⟨.cells #[] 0, 0, #[]⟩⟩
theorem ow_obj {α : Type} {f : α → List Value} {sz : Nat} {e : TypeId} {base : Nat} {w : World} {M n c : Nat} {xs : List α} (h : OW f sz e base w (some ⟨M, 0, none⟩) n c xs) : ∃ cur, w.heap[M]? = some (.cells cur e (0, 0)) := by
  rcases h.1.2 with ⟨h3, _⟩ | ⟨g', cap, cur, h3, _, hg', _⟩
  · cases h3
  · injection h3 with h3
    injection h3 with h3
    injection h3 with h3
    subst h3
    exact ⟨cur, hg'⟩
theorem owb_own {α β : Type} (B base : Nat) (e : TypeId) (cf : α → List Value) (sz : Nat) (A : Option Addr) (n c : β → Nat) (f : β → List α) : OwnFrom B (fun s W => OW cf sz e base W A (n s) (c s) (f s)) := by
  intro s W W' row h2 hg hr
  refine h2.keep (fun b hb => hg.block b.block (h2.lt hb).2 (fun e => ?_))
  obtain ⟨_, o, ho, hc⟩ := hr _ e.symm
  subst hb
  rcases h2.1.2 with ⟨h3, _⟩ | ⟨g', cap, cur, h3, _, hg', _⟩
  · cases h3
  · injection h3 with h3
    injection h3 with h3
    subst h3
    rw [hg'] at ho
    cases ho
    cases hc
set_option maxRecDepth 100000 in
set_option maxHeartbeats 4000000 in
theorem begin_in (pa : Option Addr) (pn pc : Nat) (ca : Option Addr) (cn cc : Nat) (ja : Option Addr) (jn jc : Nat) (R : Road) (ra : Option Addr) (rn rc : Nat) (sa : Option Addr) (sn sc : Nat) (S : Spd) (w : World)
    (h : RD w w.heap.size pa pn ca cn ja jn R) (hD : SD w w.heap.size ra rn sa sn S) (hv : OK R) (hS : SOK S) :
    CallsIn Fence.wide 5 Tryz.prog 27 #[.agg #[.slice pa pn pc, .slice ca cn cc, .slice ja jn jc], .agg #[.int .i64 S.least, .int .i64 S.most, .slice ra rn rc, .slice sa sn sc]] w fun e w' =>
      ∃ g ta tc N, e = .returned (.tuple #[.pointer (some ⟨g, 0, none⟩), .bool true]) ∧ TS w' w'.heap.size g ta tc N S R ∧ Below w.heap.size w w' := by
  have HR := Lib.hid h
  have HD := Lib.hid hD
  have HV := Lib.hid hv
  have HS := Lib.hid hS
  clear h hD hv hS
  obtain ⟨w0, hw0⟩ : ∃ w0, w0 = (w.alloc (.cells #[.slice pa pn pc, .slice ca cn cc, .slice ja jn jc] 26)).alloc (.cells #[.int .i64 S.least, .int .i64 S.most, .slice ra rn rc, .slice sa sn sc] 30) := ⟨_, rfl⟩
  have hB0 : Below w.heap.size w w0 := by rw [hw0]; exact ((Below.refl w.heap.size w).alloc (Nat.le_refl _) _).alloc (by simp) _
  have hX0 : BK w0 w.heap.size 26 #[.slice pa pn pc, .slice ca cn cc, .slice ja jn jc] := by rw [hw0]; exact (BK.new w _ _).alloc _
  have hY0 : BK w0 (w.heap.size + 1) 30 #[.int .i64 S.least, .int .i64 S.most, .slice ra rn rc, .slice sa sn sc] := by
    rw [hw0]; have := BK.new (w.alloc (.cells #[.slice pa pn pc, .slice ca cn cc, .slice ja jn jc] 26)) 30 #[.int .i64 S.least, .int .i64 S.most, .slice ra rn rc, .slice sa sn sc]; rw [World.size_alloc] at this; exact this
  have hpn : pn ≤ 100000 := by have := HR.out.p.1; have := HV.out.p2; omega
  obtain ⟨N, hN⟩ : ∃ N : Nat, sumL R.ps = (N : Int) := ⟨(sumL R.ps).toNat, by have := (sumL_bd R.ps HV.out.pk).1; omega⟩
  have hN1 : N ≤ 100000 := by have := HV.out.n1; omega
  have HN := Lib.hid hN
  clear hN
  refine callsIn_of_wp_marks Tryz.func27 rfl trivial ?_ rfl
  simp only [Tryz.ntmps27, List.size_toArray, List.length_cons, List.length_nil, Nat.reduceAdd, Nat.reduceSub, Array.replicate_succ, Array.replicate_zero, List.push_toArray, List.append_toArray, List.nil_append, List.cons_append]
  gi_wp2_with fail
  rw [← hw0]
  clear hw0
  have x0 := hX0.cell 0
  have x1 := hX0.cell 1
  have x2 := hX0.cell 2
  simp only [List.getElem?_toArray, List.getElem?_cons_zero, List.getElem?_cons_succ] at x0 x1 x2
  gi_wp2_with fail
  clear x0 x1 x2
  refine cin ((Length_in pa pn pc ca cn cc ja jn jc R w0 (HR.out.grow hB0 hB0.size) HV.out).mono ?_)
  rintro e w1 ⟨rfl, hk0⟩
  rw [HN.out]
  have hB1 := hB0.trans (hk0.mono hB0.size)
  have hX1 := hX0.below hk0 hX0.lt
  have hY1 := hY0.below hk0 hY0.lt
  clear hX0 hY0 hk0 hB0
  have y0 := hY1.cell 0
  have y1 := hY1.cell 1
  have y2 := hY1.cell 2
  have y3 := hY1.cell 3
  simp only [List.getElem?_toArray, List.getElem?_cons_zero, List.getElem?_cons_succ] at y0 y1 y2 y3
  gi_wp2_with fail
  clear y0 y1 y2 y3
  refine cin ((SpCheck_any ra rn rc sa sn sc S w1 (HD.out.grow hB1 hB1.size)).mono ?_)
  rintro e w2 ⟨rfl, hk0⟩
  rw [spE_ok HS.out]
  have hB2 := hB1.trans (hk0.mono hB1.size)
  have hX2 := hX1.below hk0 hX1.lt
  have hY2 := hY1.below hk0 hY1.lt
  clear hX1 hY1 hk0 hB1
  gi_wp2_with fail
  have hmo : Tryz.prog.follows .mixedOrders = true := by kernel_rfl
  have x0 := fun d os => cell_regrown (hX2.cell 0) d os
  have x1 := fun d os => cell_regrown (hX2.cell 1) d os
  have x2 := fun d os => cell_regrown (hX2.cell 2) d os
  have hw1 : IntKind.i64.wrap ((N : Int) + 1) = (N : Int) + 1 := IntWalk.i64_in _ (by omega)
  refine wpIn_wide.2 ?_
  refine wp_region_cha 7 6 [3, 4, 5] 98 #[.pointer none] 8 _ hmo (by decide) rfl rfl rfl (fun a w => rfl) (by kernel_rfl) ?_
  simp only [List.take_succ_cons, List.take_zero, List.drop_succ_cons, List.drop_zero]
  repeat (refine wpC_q (by decide) (by decide) (fun K hK => ?_); go_simp; refine hK _ ?_; clear hK K)
  refine wpC_v (ι := Nat) (fun M => .slice (some ⟨M, 0, none⟩) 1 (N + 1)) (fun M x => OW tiC 2 157 w2.heap.size x (some ⟨M, 0, none⟩) 1 (N + 1) (tms S R.ps 1)) (by decide) (by decide) rfl stable_true (fun M => stable_ow _ _ _ _ _ _ _ _)
    (fun W hW _ => ?_) (fun M hsM => ?_)
  · obtain ⟨p, rfl⟩ := hW
    have hb := below_regrown w2 p.d p.os
    refine ⟨(grow (redrawn w2 p.d) p.os).heap.size, (grow (redrawn w2 p.d) p.os).alloc (.cells (madeCells #[.int .i64 0, .int .i64 0] (2 * N + 2)) 157), ?_, made_ow S R.ps N hN1 _ _ hb.size, (Below.refl _ _).alloc (Nat.le_refl _) _⟩
    have hr := make_times N hN1 (grow (redrawn w2 p.d) p.os)
    go_simp
  refine wpC_v (ι := Unit) (fun _ => .agg #[.slice pa pn pc, .slice ca cn cc, .slice ja jn jc, .slice (some ⟨M, 0, none⟩) 1 (N + 1)]) (fun _ _ => True) (by decide) (by decide) rfl hsM (fun _ => stable_true)
    (fun W _ _ => ⟨(), W, by go_simp, trivial, Below.refl _ _⟩) (fun _ hs2 => ?_)
  refine wpC_v (ι := Nat) (fun g => .pointer (some ⟨g, 0, none⟩)) (fun g x => w2.heap.size ≤ g ∧ M < g ∧ BK x g 106 #[.slice pa pn pc, .slice ca cn cc, .slice ja jn jc, .slice (some ⟨M, 0, none⟩) 1 (N + 1)]) (by decide) (by decide) rfl hs2
    (fun g x y ⟨q1, q2, q3⟩ hb => ⟨q1, q2, q3.below hb q3.lt⟩) (fun W hW hΦ => ?_) (fun g hs3 => ?_)
  · obtain ⟨p, rfl⟩ := hW
    have hb := below_regrown w2 p.d p.os
    obtain ⟨⟨-, q2⟩, -⟩ := hΦ
    refine ⟨(grow (redrawn w2 p.d) p.os).heap.size, (grow (redrawn w2 p.d) p.os).alloc (.cells #[.slice pa pn pc, .slice ca cn cc, .slice ja jn jc, .slice (some ⟨M, 0, none⟩) 1 (N + 1)] 106), by go_simp, ⟨hb.size, (q2.lt rfl).2, BK.new _ _ _⟩, (Below.refl _ _).alloc (Nat.le_refl _) _⟩
  refine wpC_a (by decide) ?_
  refine wpC_nil ?_
  intro tb w3 hk0 hΦ htb hTB
  obtain ⟨⟨⟨-, hO3⟩, -⟩, hg1, hMg, hG3⟩ := hΦ
  have hM1 := (hO3.lt rfl).1
  simp only at hO3 hg1 hMg hG3 hM1 ⊢
  clear x0 x1 x2 hsM hs2 hs3
  have t0 := hTB.cell 0
  have f0 := hTB.frozen 0
  simp only [List.getElem?_toArray, List.getElem?_cons_zero] at t0
  have hzt := hTB.lt
  go_wp2_with fail
  obtain ⟨w4, hw4⟩ : ∃ w4, w4 = w3.setCell ⟨tb, 0, none⟩ (.pointer (some ⟨g, 0, none⟩)) := ⟨_, rfl⟩
  have htg : tb ≠ g := fun e => by rw [e] at hTB; have := hTB.symm.trans hG3; simp at this
  have htM : M ≠ tb := fun e => by
    rcases hO3.1.2 with ⟨h3, _⟩ | ⟨g', cap, cur, h3, _, hg', _⟩
    · cases h3
    · injection h3 with h3
      injection h3 with h3
      injection h3 with h3
      rw [← h3, e] at hg'
      have := hTB.symm.trans hg'
      simp at this
  have hbX := hB2.trans (hk0.mono hB2.size)
  have hzw := hX2.lt
  have hzw2 := hY2.lt
  have hX4 : BK w4 w.heap.size 26 #[.slice pa pn pc, .slice ca cn cc, .slice ja jn jc] := by rw [hw4]; exact (hX2.below hk0 hX2.lt).far (p := ⟨tb, 0, none⟩) (by simp; omega) _
  have hY4 : BK w4 (w.heap.size + 1) 30 #[.int .i64 S.least, .int .i64 S.most, .slice ra rn rc, .slice sa sn sc] := by rw [hw4]; exact (hY2.below hk0 hY2.lt).far (p := ⟨tb, 0, none⟩) (by simp; omega) _
  have hT4 : BK w4 tb 98 #[.pointer (some ⟨g, 0, none⟩)] := by rw [hw4]; exact hTB.set_ 0 _
  have hG4 : BK w4 g 106 #[.slice pa pn pc, .slice ca cn cc, .slice ja jn jc, .slice (some ⟨M, 0, none⟩) 1 (N + 1)] := by rw [hw4]; exact hG3.far (p := ⟨tb, 0, none⟩) (by simp; omega) _
  have hO4 : OW tiC 2 157 w2.heap.size w4 (some ⟨M, 0, none⟩) 1 (N + 1) (tms S R.ps 1) := by rw [hw4]; exact hO3.setCell (p := ⟨tb, 0, none⟩) (fun q hq => by cases hq; exact htM) _
  have hb4 : Below w.heap.size w w4 := by rw [hw4]; exact hbX.setCell (p := ⟨tb, 0, none⟩) (by simp; omega) _
  rw [← hw4]
  clear hw4 t0 f0 hTB hG3 hO3 hX2 hY2 hk0 hbX hzt
  have hzt := hT4.lt
  have hzg := hG4.lt
  have y0 := hY4.cell 0
  have y1 := hY4.cell 1
  have y2 := hY4.cell 2
  have y3 := hY4.cell 3
  have x0 := hX4.cell 0
  have x1 := hX4.cell 1
  have x2 := hX4.cell 2
  simp only [List.getElem?_toArray, List.getElem?_cons_zero, List.getElem?_cons_succ] at x0 x1 x2 y0 y1 y2 y3
  have hzX := hX4.lt
  have hzY := hY4.lt
  gi_wp2_with fail
  refine cin ((meters_any ra rn rc sa sn sc S pa pn pc ca cn cc ja jn jc _).mono ?_)
  rintro e w5 ⟨rfl, rfl⟩
  clear x0 x1 x2 y0 y1 y2 y3
  gi_wp2_with fail
  obtain ⟨W0, hW0⟩ : ∃ W0, W0 = ((w4.alloc (.cells #[.int .i64 0, .int .i64 0] 157)).alloc (.cells #[.int .i64 S.least, .int .i64 S.most, .slice ra rn rc, .slice sa sn sc] 161)).alloc (.cells #[.slice pa pn pc, .slice ca cn cc, .slice ja jn jc] 26) := ⟨_, rfl⟩
  have hsz : W0.heap.size = w4.heap.size + 3 := by rw [hW0]; simp
  have hb40 : Below w4.heap.size w4 W0 := by rw [hW0]; exact (((Below.refl w4.heap.size w4).alloc (Nat.le_refl _) _).alloc (by simp) _).alloc (by simp; omega) _
  have hB0 := hb4.trans (hb40.mono hb4.size)
  have hN0 : BK W0 w4.heap.size 157 #[.int .i64 0, .int .i64 0] := by rw [hW0]; exact ((BK.new w4 _ _).alloc _).alloc _
  have hA0 : BK W0 (w4.heap.size + 1) 161 #[.int .i64 S.least, .int .i64 S.most, .slice ra rn rc, .slice sa sn sc] := by
    rw [hW0]; have := (BK.new (w4.alloc (.cells #[.int .i64 0, .int .i64 0] 157)) 161 #[.int .i64 S.least, .int .i64 S.most, .slice ra rn rc, .slice sa sn sc]); rw [World.size_alloc] at this; exact this.alloc _
  have hC0 : BK W0 (w4.heap.size + 2) 26 #[.slice pa pn pc, .slice ca cn cc, .slice ja jn jc] := by
    rw [hW0]; have := (BK.new ((w4.alloc (.cells #[.int .i64 0, .int .i64 0] 157)).alloc (.cells #[.int .i64 S.least, .int .i64 S.most, .slice ra rn rc, .slice sa sn sc] 161)) 26 #[.slice pa pn pc, .slice ca cn cc, .slice ja jn jc]); rw [World.size_alloc, World.size_alloc] at this; exact this
  have hT0 := hT4.below hb40 hzt
  have hG0 := hG4.below hb40 hzg
  have hO0 := hO4.call hb40
  have hM0 := (hO4.lt rfl).2
  rw [← hW0]
  have HSZ := Lib.hid hsz
  clear hW0 hsz hX4 hY4 hT4 hG4 hO4
  have hp0 : tms S R.ps 1 = pss [] := by simp [tms, pss, pF, pS, tQ_zero, tSl_zero]
  rw [hp0] at hO0
  clear hp0
  refine wpIn_named (fun a0 ha0 => ?_)
  refine wpIn_rangeFunc_ownH (α := BT) rfl (by omega) (gf := 129) (lb := #[.pointer (some ⟨w4.heap.size + 1, 0, none⟩), .pointer (some ⟨w4.heap.size + 2, 0, none⟩)]) (by rw [ha0]; simp [Act.eval]) trivial (enters_of Tryz.func129 (by kernel_rfl) rfl)
    (mtr_stops 4 (by omega) (w4.heap.size + 1) (w4.heap.size + 2) w.heap.size ra rn rc sa sn sc S pa pn pc ca cn cc ja jn jc R N hpn HV.out.pk HS.out HN.out W0 hA0 hC0 (HD.out.grow hB0 (Nat.le_refl _)) (HR.out.p.grow hB0 (Nat.le_refl _)) hB0.size)
    KM.t (KM.b hB0.size) (Below.refl _ _) (fun _ => rfl)
    (fun pre W => ((BK W w4.heap.size 157 #[.int .i64 (pF (pre.map (·.1))), .int .i64 (pS (pre.map (·.1)))] ∧ BK W tb 98 #[.pointer (some ⟨g, 0, none⟩)]) ∧
      (BK W g 106 #[.slice pa pn pc, .slice ca cn cc, .slice ja jn jc, .slice (some ⟨M, 0, none⟩) (pre.length + 1) (N + 1)] ∧ OW tiC 2 157 w2.heap.size W (some ⟨M, 0, none⟩) (pre.length + 1) (N + 1) (pss (pre.map (·.1))))) ∧ Since w W0.heap.size W)
    (fun _ _ _ => False)
    (OwnFrom.and (OwnFrom.and (OwnFrom.and (bk_own _ _ _ (fun pre : List BT => #[.int .i64 (pF (pre.map (·.1))), .int .i64 (pS (pre.map (·.1)))])) (bk_own _ _ _ (fun _ : List BT => #[.pointer (some ⟨g, 0, none⟩)])))
      (OwnFrom.and (bk_own _ _ _ (fun pre : List BT => #[.slice pa pn pc, .slice ca cn cc, .slice ja jn jc, .slice (some ⟨M, 0, none⟩) (pre.length + 1) (N + 1)])) (owb_own _ _ _ tiC 2 _ (fun pre : List BT => pre.length + 1) (fun _ => N + 1) (fun pre : List BT => pss (pre.map (·.1)))))) (ownFrom_since hB0.size))
    (fun _ => ownFrom_pure _ _)
    ⟨⟨⟨hN0, hT0⟩, hG0, hO0⟩, hB0, Nat.le_refl _⟩
    (fun e a' W => ∃ Bx, W0.heap.size ≤ Bx ∧ BK W Bx 157 #[.int .i64 e.1.1, .int .i64 e.1.2] ∧ a' = { tmps := (a0.tmps.setIfInBounds 33 (.agg #[.int .i64 e.1.1, .int .i64 e.1.2])).setIfInBounds 10 (.pointer (some ⟨Bx, 0, none⟩)), defers := [] })
    (fun e a' s A B row hs hg hr => by
      obtain ⟨Bx, h1, h2, h3⟩ := hs
      exact ⟨Bx, h1, bk_own W0.heap.size _ _ (fun _ : Unit => _) () A B row h2 hg hr, h3⟩) ?assign ?body ?done ?stop
  case assign =>
    intro l pre e W K hI hK
    rw [ha0] at hK ⊢
    simp only [btV, List.setIfInBounds_toArray, List.set_cons_succ, List.set_cons_zero] at hK ⊢
    gi_wp2
    obtain ⟨⟨⟨i1, i2⟩, i3, i4⟩, hB⟩ := hI
    have hz2 := hB.2
    have hbA := (Below.refl W.heap.size W).alloc (Nat.le_refl _) (.cells #[.int .i64 e.1.1, .int .i64 e.1.2] 157)
    exact hK _ _ ((KeepsOthers.alloc _ _).from _) (KM.of_below hbA hB.1.size) ⟨⟨⟨i1.alloc _, i2.alloc _⟩, i3.alloc _, i4.alloc _⟩, hB.onto hbA⟩ ⟨W.heap.size, by omega, BK.new W _ _, rfl⟩
  case body =>
    rintro l pre e a' W hlW ⟨r, hr⟩ ⟨⟨⟨i1, i2⟩, i3, i4⟩, hB⟩ ⟨Bx, hBx, bX, rfl⟩ hlt
    obtain ⟨⟨mx, my⟩, ⟨e1, e2⟩, e3, e4⟩ := e
    dsimp only at bX e1 e2 e3 e4 ⊢
    obtain ⟨⟨q1, q2⟩, q3, q4⟩ := pF_bd pre
    have hnx : Hid (pF ((pre ++ [(⟨(mx, my), ⟨e1, e2⟩, e3, e4⟩ : BT)]).map (·.1)) = pF (pre.map (·.1)) + mx) := by show _ = _; rw [List.map_append]; exact pF_snoc _ _
    have hny : Hid (pS ((pre ++ [(⟨(mx, my), ⟨e1, e2⟩, e3, e4⟩ : BT)]).map (·.1)) = pS (pre.map (·.1)) + my) := by show _ = _; rw [List.map_append]; exact pS_snoc _ _
    have hnp : Hid (pss ((pre ++ [(⟨(mx, my), ⟨e1, e2⟩, e3, e4⟩ : BT)]).map (·.1)) = pss (pre.map (·.1)) ++ [(pF (pre.map (·.1)) + mx, pS (pre.map (·.1)) + my)]) := by show _ = _; rw [List.map_append]; exact pss_snoc _ _
    generalize pF (pre.map (·.1)) = x0 at *
    generalize pS (pre.map (·.1)) = y0 at *
    have hwx : IntKind.i64.wrap (x0 + mx) = x0 + mx := IntWalk.i64_in _ (by omega)
    have hwy : IntKind.i64.wrap (y0 + my) = y0 + my := IntWalk.i64_in _ (by omega)
    have hzW := hB.2
    have hnb : w4.heap.size < W.heap.size := i1.lt
    have hsz := HSZ.out
    rw [ha0]
    simp only [List.setIfInBounds_toArray, List.set_cons_succ, List.set_cons_zero]
    gi_wp2_with fail
    have g1 : ∀ z, BK (W.putObj w4.heap.size (.cells #[z, .int .i64 y0] 157 (0, 0))) w4.heap.size 157 #[z, .int .i64 y0] := fun z => World.putObj_heap_same hnb
    have g2 : ∀ z, BK (W.putObj w4.heap.size (.cells #[z, .int .i64 y0] 157 (0, 0))) Bx 157 #[.int .i64 mx, .int .i64 my] := fun z => (World.putObj_heap_other (by omega)).trans bX
    have k1 := fun z d os => cell_regrown ((g1 z).cell 1) d os
    have k2 := fun z d os => cell_regrown ((g2 z).cell 0) d os
    have k3 := fun z d os => cell_regrown ((g2 z).cell 1) d os
    have hC0 : ∃ q : RegZ, W.drew = grow (redrawn (W.putObj w4.heap.size (.cells #[q.z, .int .i64 y0] 157 (0, 0))) q.d) q.os := by
      obtain ⟨p, hp⟩ := putq (W := W) (W' := W.drew) (But.of_below (Below.refl _ _).drew) hnb i1.drew
      exact ⟨⟨.int .i64 x0, p.d, p.os⟩, hp⟩
    refine wpIn_region_chF (fun W' => ∃ q : RegZ, W' = grow (redrawn (W.putObj w4.heap.size (.cells #[q.z, .int .i64 y0] 157 (0, 0))) q.d) q.os) 12 [1, 11] (fun W' => BK W' w4.heap.size 157 #[.int .i64 x0, .int .i64 y0]) hC0 i1.drew hmo (by kernel_rfl) ?_
    simp only [List.take_succ_cons, List.take_zero, List.drop_succ_cons, List.drop_zero]
    refine wpCF_q (by decide) (by decide) (fun K hK => ?_)
    go_simp
    refine hK _ ?_
    clear hK K
    refine wpCF_v (ι := Unit) (fun _ => .int .i64 x0) (fun _ W' => BK W' w4.heap.size 157 #[.int .i64 x0, .int .i64 y0]) (by decide) (by decide) rfl (fun W' hW' hΦ => ⟨(), W', by have c0 := hΦ.cell 0; go_simp, hΦ, hW'⟩) (fun _ => ?_)
    repeat (refine wpCF_q (by decide) (by decide) (fun K hK => ?_); go_simp; refine hK _ ?_; clear hK K)
    refine wpCF_s (ι := Unit) (fun _ W' => BK W' w4.heap.size 157 #[.int .i64 (x0 + mx), .int .i64 y0]) (by decide) (by decide) rfl (fun W' hW' hΦ => ⟨(), W'.setCell ⟨w4.heap.size, 0, none⟩ (.int .i64 (x0 + mx)), ?_, hΦ.set_ 0 _, ?_⟩) (fun _ => ?_)
    · have c0 := hΦ.cell 0
      have f0 := hΦ.frozen 0
      clear k1 k2 k3 g1 g2 hC0 hW'
      simp only [List.getElem?_toArray, List.getElem?_cons_zero] at c0
      go_simp
    · obtain ⟨q, hq⟩ := hW'
      have h1 : But w4.heap.size W W' := by rw [hq]; exact but_put _ _ _ _ _
      obtain ⟨p, hp⟩ := putq (h1.setCell 0 (.int .i64 (x0 + mx))) hnb (hΦ.set_ 0 (.int .i64 (x0 + mx)))
      exact ⟨⟨.int .i64 (x0 + mx), p.d, p.os⟩, hp⟩
    refine wpCF_nil ?_
    intro W8 hC8 hN8
    have hb8 : But w4.heap.size W W8 := by obtain ⟨q, hq⟩ := hC8; rw [hq]; exact but_put _ _ _ _ _
    clear hC8 hC0 k1 k2 k3 g1 g2
    have c1 := hN8.cell 1
    have f1 := hN8.frozen 1
    have hl8 := hN8.lt
    simp only [List.getElem?_toArray, List.getElem?_cons_zero, List.getElem?_cons_succ] at c1
    gi_wp2_with fail
    clear c1 f1
    obtain ⟨W9, hW9⟩ : ∃ W9, W9 = W8.setCell ⟨w4.heap.size, 1, none⟩ (.int .i64 (y0 + my)) := ⟨_, rfl⟩
    have hN9 : BK W9 w4.heap.size 157 #[.int .i64 (x0 + mx), .int .i64 (y0 + my)] := by rw [hW9]; exact hN8.set_ 1 _
    have hb9 : But w4.heap.size W W9 := by rw [hW9]; exact hb8.setCell 1 _
    rw [← hW9]
    clear hW9
    have hT9 := hb9.bk i2 (by omega)
    have hG9 := hb9.bk i3 (by omega)
    have hO9 := hb9.ow i4 (fun q hq => by cases hq; show M ≠ _; omega)
    have hK9 := hb9.km (n0 := w.heap.size) (s0 := W0.heap.size) (by omega) (by omega) hB.1.size
    have hF9 := hb9.keeps i1 W0.heap.size
    have hlM := (hO9.lt rfl).2
    simp only at hlM
    obtain ⟨L0, hL0⟩ : ∃ L0, L0 = pss (pre.map (·.1)) := ⟨_, rfl⟩
    rw [← hL0] at hO9 hnp
    clear hL0
    have hnb9 := hN9.lt
    have htb9 := hT9.lt
    have hg9 := hG9.lt
    have g1 : ∀ o, BK (W9.putObj M o) w4.heap.size 157 #[.int .i64 (x0 + mx), .int .i64 (y0 + my)] := fun o => (World.putObj_heap_other (by omega)).trans hN9
    have g2 : ∀ o, BK (W9.putObj M o) tb 98 #[.pointer (some ⟨g, 0, none⟩)] := fun o => (World.putObj_heap_other (fun e => htM e.symm)).trans hT9
    have g3 : ∀ o, BK (W9.putObj M o) g 106 #[.slice pa pn pc, .slice ca cn cc, .slice ja jn jc, .slice (some ⟨M, 0, none⟩) (pre.length + 1) (N + 1)] := fun o => (World.putObj_heap_other (by omega)).trans hG9
    have k1 := fun o d os => cell_regrown ((g1 o).cell 0) d os
    have k2 := fun o d os => cell_regrown ((g1 o).cell 1) d os
    have k3 := fun o d os => cell_regrown ((g2 o).cell 0) d os
    have k4 := fun o d os => cell_regrown ((g3 o).cell 3) d os
    have hCc : ∀ W', But M W9 W' → (∃ o, W'.heap[M]? = some o) → ∃ q : RegO, W' = grow (redrawn (W9.putObj M q.o) q.d) q.os := fun W' h1 ⟨o, ho⟩ => by
      obtain ⟨p, hp⟩ := putq h1 hlM ho
      exact ⟨⟨o, p.d, p.os⟩, hp⟩
    have hCb : ∀ W', (∃ q : RegO, W' = grow (redrawn (W9.putObj M q.o) q.d) q.os) → But M W9 W' := fun W' ⟨q, hq⟩ => by rw [hq]; exact but_put _ _ _ _ _
    have HCC := Lib.hid hCc
    have HCB := Lib.hid hCb
    clear hCc hCb
    refine wpIn_region_chF (fun W' => ∃ q : RegO, W' = grow (redrawn (W9.putObj M q.o) q.d) q.os) 8 [6, 7] (fun W' => OW tiC 2 157 w2.heap.size W' (some ⟨M, 0, none⟩) (pre.length + 1) (N + 1) L0) (HCC.out _ (But.of_below (Below.refl _ _).drew) (by obtain ⟨c, hc⟩ := ow_obj hO9; exact ⟨_, hc⟩)) hO9.drew hmo (by kernel_rfl) ?_
    simp only [List.take_succ_cons, List.take_zero, List.drop_succ_cons, List.drop_zero]
    repeat (refine wpCF_q (by decide) (by decide) (fun K hK => ?_); go_simp; refine hK _ ?_; clear hK K)
    refine wpCF_v (ι := Nat) (fun X => .slice (some ⟨X, 0, none⟩) 1 1) (fun X W' => (W9.heap.size ≤ X ∧ BK W' X 157 #[.int .i64 (x0 + mx), .int .i64 (y0 + my)]) ∧ OW tiC 2 157 w2.heap.size W' (some ⟨M, 0, none⟩) (pre.length + 1) (N + 1) L0) (by decide) (by decide) rfl
      (fun W' hW' hΦ => ⟨W'.heap.size, W'.alloc (.cells #[.int .i64 (x0 + mx), .int .i64 (y0 + my)] 157), ?_, ⟨⟨(HCB.out _ hW').size, BK.new _ _ _⟩, hΦ.alloc _⟩, ?_⟩) (fun X => ?_)
    · clear k1 k2 k3 k4 g1 g2 g3 hW'
      go_simp
    · refine HCC.out _ ((HCB.out _ hW').trans (But.of_below ((Below.refl _ _).alloc (Nat.le_refl _) _))) ?_
      obtain ⟨c, hc⟩ := ow_obj (hΦ.alloc (.cells #[.int .i64 (x0 + mx), .int .i64 (y0 + my)] 157))
      exact ⟨_, hc⟩
    obtain ⟨ie, hie, hiz, his, hib⟩ := info_parts infoTi
    refine wpCF_v (ι := Unit) (fun _ => .slice (some ⟨M, 0, none⟩) (pre.length + 1 + 1) (N + 1)) (fun _ W' => OW tiC 2 157 w2.heap.size W' (some ⟨M, 0, none⟩) (pre.length + 1 + 1) (N + 1) (L0 ++ [(x0 + mx, y0 + my)])) (by decide) (by decide) rfl
      (fun W' hW' hΦ => ?_) (fun _ => ?_)
    · obtain ⟨⟨hX1, hX2⟩, hX3⟩ := hΦ
      obtain ⟨W'', hr1, hr2, hr3⟩ := run_append_fits (P := Tryz.prog) W' w2.heap.size 104 104 157 ie 2 Tryz.underlying104 hie his M (pre.length + 1) (N + 1) _ hX3.1 ⟨X, 0, none⟩ 1 1 (tiC (x0 + mx, y0 + my)) rfl (news1 hX2 rfl) (by simp [tiC, Value.oneCell']) (by omega)
      have hO' : OW tiC 2 157 w2.heap.size W'' (some ⟨M, 0, none⟩) (pre.length + 1 + 1) (N + 1) (L0 ++ [(x0 + mx, y0 + my)]) := ⟨by rw [List.flatMap_append]; exact hr2, by rw [List.length_append, ← hX3.2]; rfl⟩
      refine ⟨(), W'', ?_, hO', HCC.out _ ((HCB.out _ hW').grown hr3) (by obtain ⟨c, hc⟩ := ow_obj hO'; exact ⟨_, hc⟩)⟩
      clear k1 k2 k3 k4 g1 g2 g3 hW' hr2 hr3 hO' HCC HCB
      simp [execOp, resolve, invoke, builtin, Act.eval, Act.put, hr1, Result.andThen]
    refine wpCF_nil ?_
    intro W10 hC10 hO10
    have hb10 := HCB.out _ hC10
    clear hC10 HCC HCB k1 k2 k3 k4 g1 g2 g3
    have hT10 := hb10.bk hT9 (fun e => htM e.symm)
    have hG10 := hb10.bk hG9 (by omega)
    have hN10 := hb10.bk hN9 (by omega)
    have hK10 := hK9.t (hb10.km (n0 := w.heap.size) (s0 := W0.heap.size) (by omega) (by omega) (by have := hK9.1.size; have := hB.1.size; omega))
    have c3 := hG10.cell 3
    have f3 := hG10.frozen 3
    have hgl := hG10.lt
    simp only [List.getElem?_toArray, List.getElem?_cons_zero, List.getElem?_cons_succ] at c3
    gi_wp2_with fail
    obtain ⟨cur, hcur⟩ := ow_obj hO9
    have hK11 := hK10.setCell (p := ⟨g, 3, none⟩) (by simp; omega) (.inl (by simp; omega)) (.slice (some ⟨M, 0, none⟩) (pre.length + 1 + 1) (N + 1))
    refine ⟨(hF9.trans (hb10.keeps hcur _)).trans ((KeepsOthers.setCell _ _ _).from _), hK11, ⟨⟨?_, hT10.far (p := ⟨g, 3, none⟩) htg _⟩, ?_, ?_⟩, ⟨hB.1.trans hK11.1, Nat.le_trans hB.2 hK11.1.size⟩⟩
    · rw [hnx.out, hny.out]
      exact hN10.far (p := ⟨g, 3, none⟩) (by simp; omega) _
    · rw [List.length_append, List.length_singleton]
      exact hG10.set_ 3 _
    · rw [List.length_append, List.length_singleton, hnp.out]
      exact hO10.setCell (p := ⟨g, 3, none⟩) (fun q hq => by cases hq; show M ≠ g; omega) _
  case done =>
    rintro D ys W hD hys ⟨⟨⟨i1, i2⟩, i3, i4⟩, hB⟩ hK
    have hyl : ys.length = N := by
      have h1 := congrArg List.length hys
      have h2 := mtrs_len (S := S) HV.out.pk
      have h3 := HN.out
      rw [List.length_map] at h1
      omega
    have hyp : pss (ys.map (·.1)) = tms S R.ps (N + 1) := by
      have h1 := congrArg List.length hys
      rw [List.length_map] at h1
      rw [hys, pss_mtrs, ← h1, hyl]
    rw [hyl] at i3 i4
    rw [hyp] at i4
    clear hyp hys
    have t0 := i2.cell 0
    have g3 := i3.cell 3
    have f3 := i3.frozen 3
    have hz1 := i2.lt
    have hz2 := i3.lt
    simp only [List.getElem?_toArray, List.getElem?_cons_zero, List.getElem?_cons_succ] at t0 g3
    have hi1 : (0 : Int) ≤ (N : Int) + 1 := by omega
    have hi2 : ((N : Int) + 1).toNat = N + 1 := by omega
    rw [ha0]
    gi_wp2_with fail
    refine wpIn_wide.2 ?_
    refine wp_region_qt 10 hmo (by kernel_rfl) ?_
    simp only [List.take_succ_cons, List.take_zero, List.drop_succ_cons, List.drop_zero]
    have k0 := fun d os => cell_regrown t0 d os
    have k3 := fun d os => cell_regrown g3 d os
    repeat (quiet_step (fail))
    refine wpQuiet_nil ?_
    intro W' hbw
    have hT := i2.below hbw hz1
    have hG := i3.below hbw hz2
    have hO := i4.call hbw
    have hKD : W'.heap[D]? = some (.deferred (some [])) := (hbw.block D (Array.getElem?_eq_some_iff.1 hK).1).trans hK
    have hB' := hB.onto hbw
    clear t0 g3 f3 k0 k3 i1 i2 i3 i4 hK hB hbw
    have g3 := hG.cell 3
    have f3 := hG.frozen 3
    have t0 := hT.cell 0
    have hz1 := hT.lt
    have hz2 := hG.lt
    simp only [List.getElem?_toArray, List.getElem?_cons_zero, List.getElem?_cons_succ] at g3 t0
    have hgt : g ≠ tb := fun e => htg e.symm
    have hsz := HSZ.out
    have hzD : D < W'.heap.size := (Array.getElem?_eq_some_iff.1 hKD).1
    have HKD := Lib.hid hKD
    clear hKD
    go_wp2_with fail
    gi_wp2_with fail
    have hKD : (W'.setCell ⟨g, 3, none⟩ (.slice (some ⟨M, 0, none⟩) (N + 1) (N + 1))).heap[D]? = some (.deferred (some [])) := (Below.heap_setCell _ _ _ D (by simp; omega)).trans HKD.out
    refine ⟨by simp, .inl ⟨_, _, rfl, run_takeDeferred hKD, ?_⟩⟩
    refine ⟨_, results_tmp2 (t := 4) (u := 5) rfl _ _ _, g, some ⟨M, 0, none⟩, N + 1, N, rfl, ⟨?_, ?_, ?_, HN.out⟩, ?_⟩
    · simp only [World.putObj, Array.size_setIfInBounds, World.size_setCell]; exact hz2
    · exact (World.cell?_of_block (World.putObj_heap_other (by show g ≠ D; omega))).trans ((hG.set_ 3 (.slice (some ⟨M, 0, none⟩) (N + 1) (N + 1))).cell 3)
    · have h1 := hO.setCell (p := ⟨g, 3, none⟩) (fun q hq => by cases hq; show M ≠ g; omega) (.slice (some ⟨M, 0, none⟩) (N + 1) (N + 1))
      have h2 := h1.keep (w' := (W'.setCell ⟨g, 3, none⟩ (.slice (some ⟨M, 0, none⟩) (N + 1) (N + 1))).putObj D (.deferred none)) (fun q hq => by cases hq; exact World.putObj_heap_other (by show M ≠ D; omega))
      exact h2.sl tiC_len
    · exact (hB'.1.setCell (p := ⟨g, 3, none⟩) (by simp; omega) _).trans (belowK_b (w := w) (Nat.le_refl _) _ D _ _ (by omega) hKD rfl rfl)
  case stop => exact fun D c pre W hD hk hs hK => hs.elim
theorem begin_any (pa : Option Addr) (pn pc : Nat) (ca : Option Addr) (cn cc : Nat) (ja : Option Addr) (jn jc : Nat) (R : Road) (ra : Option Addr) (rn rc : Nat) (sa : Option Addr) (sn sc : Nat) (S : Spd) (w : World)
    (h : RD w w.heap.size pa pn ca cn ja jn R) (hD : SD w w.heap.size ra rn sa sn S) (hv : OK R) (hS : SOK S) :
    Calls Tryz.prog 27 #[.agg #[.slice pa pn pc, .slice ca cn cc, .slice ja jn jc], .agg #[.int .i64 S.least, .int .i64 S.most, .slice ra rn rc, .slice sa sn sc]] w fun e w' =>
      ∃ g ta tc N, e = .returned (.tuple #[.pointer (some ⟨g, 0, none⟩), .bool true]) ∧ TS w' w'.heap.size g ta tc N S R ∧ Below w.heap.size w w' :=
  callsIn_wide.1 (begin_in pa pn pc ca cn cc ja jn jc R ra rn rc sa sn sc S w h hD hv hS)
end Go.Proofs.YtafclpmnpamipaaGreat
