/- road.Join, walked. -/
import Derived.Test.YtijcbfhlhgjedaaDoorCAll
import Derived.Test.YtijcbfhlhgjedaaDoorDJoinM
import Derived.Test.YtijcbfhlhgjedaaDoorDIter
import Derived.Test.YtijcbfhlhgjedaaDoorDBound
namespace Go.Proofs.YtijcbfhlhgjedaaDoor
open Go.RowKit Go.Shelf Go.Sort Go.Proofs

/-- A world gets a name. -/
theorem wp_wnamed {P : Program} {c : Code} {Q : Exit → Act → World → Prop} {a : Act} {w : World} (h : ∀ W, W = w → c.wp P Q a W) : c.wp P Q a w := h w rfl
theorem cbd {R : Road} (h : OK R) : ∀ c ∈ R.cs, (0 ≤ c.pos ∧ c.pos ≤ sumL R.ps) ∧ 1 ≤ c.siz ∧ c.siz ≤ 3 := by
  intro c hc
  obtain ⟨i, hi, rfl⟩ := List.getElem_of_mem hc
  have := h.ck i hi _ (List.getElem?_eq_getElem hi)
  simp only [inR, Bool.and_eq_true, decide_eq_true_eq] at this
  exact ⟨this.1, this.2.1⟩
set_option maxRecDepth 100000 in
set_option maxHeartbeats 8000000 in
theorem Join_in (pa : Option Addr) (pn pc : Nat) (ca : Option Addr) (cn cc : Nat) (ja : Option Addr) (jn jc : Nat) (R : Road) (pa2 : Option Addr) (pn2 pc2 : Nat) (ca2 : Option Addr) (cn2 cc2 : Nat) (ja2 : Option Addr) (jn2 jc2 : Nat) (R2 : Road) (w : World)
    (h : RD w w.heap.size pa pn ca cn ja jn R) (h2 : RD w w.heap.size pa2 pn2 ca2 cn2 ja2 jn2 R2) (hv : OK R) (hv2 : OK R2) :
    Calls Tryd.prog 56 #[.agg #[.slice pa pn pc, .slice ca cn cc, .slice ja jn jc], .agg #[.slice pa2 pn2 pc2, .slice ca2 cn2 cc2, .slice ja2 jn2 jc2]] w fun e w' => ∃ A1 c1 A2 n2' c2' A3 n3' c3', e = .returned (boundV A1 (pn + pn2) c1 A2 n2' c2' A3 n3' c3' (joinR R R2)) ∧
      (OW pC 5 105 w.heap.size w' A1 (pn + pn2) c1 (joinR R R2).ps ∧ OW cC 2 134 w.heap.size w' A2 n2' c2' (joinR R R2).cs ∧ OW jC 3 136 w.heap.size w' A3 n3' c3' (joinR R R2).js) ∧ Below w.heap.size w w' := by
  have hR := Lib.hid h
  have hR2 := Lib.hid h2
  have hv' := Lib.hid hv
  have hv2' := Lib.hid hv2
  have hmo : Tryd.prog.follows .mixedOrders = true := by kernel_rfl
  have hpn : pn ≤ 2000 := by rw [h.p.1]; exact hv.p2
  have hpn2 : pn2 ≤ 2000 := by rw [h2.p.1]; exact hv2.p2
  have hcn : cn ≤ 1000 := by rw [h.c.1]; exact hv.c1
  have hcn2 : cn2 ≤ 1000 := by rw [h2.c.1]; exact hv2.c1
  have hjn : jn ≤ 200 := by rw [h.j.1]; exact hv.j1
  have hjn2 : jn2 ≤ 200 := by rw [h2.j.1]; exact hv2.j1
  have HC1 : Hid (R.cs.length ≤ 1000) := hv.c1
  have HJ1 : Hid (R.js.length ≤ 200) := hv.j1
  have HC2 := Lib.hid h2.c.1
  have HJ2 := Lib.hid h2.j.1
  have HPK : Hid (∀ p ∈ (joinR R R2).ps, pOk p = true) := fun p hp => by
    rcases List.mem_append.1 hp with h | h
    · exact hv.pk p h
    · exact hv2.pk p h
  have hc := Lib.hid (chk_ok hv)
  have hc2 := Lib.hid (chk_ok hv2)
  have hs1 := hv.n1
  have hs2 := hv2.n1
  have hs0 := sumL_bd R.ps hv.pk
  have hs3 : 0 ≤ sumL R.ps := by omega
  clear h h2 hv hv2 hs0
  obtain ⟨W0, hW0⟩ : ∃ W0, W0 = ((w.alloc (.cells #[.slice pa pn pc, .slice ca cn cc, .slice ja jn jc] 26)).alloc (.cells #[.slice pa2 pn2 pc2, .slice ca2 cn2 cc2, .slice ja2 jn2 jc2] 26)).alloc (.cells #[.slice none 0 0, .slice none 0 0, .slice none 0 0] 26) := ⟨_, rfl⟩
  have hB0 : Below w.heap.size w W0 := by rw [hW0]; exact (((Below.refl w.heap.size w).alloc (Nat.le_refl _) _).alloc (by simp) _).alloc (by simp <;> omega) _
  have hX0 : BK W0 w.heap.size 26 #[.slice pa pn pc, .slice ca cn cc, .slice ja jn jc] := by rw [hW0]; exact ((BK.new w _ _).alloc _).alloc _
  have hY0 : BK W0 (w.heap.size + 1) 26 #[.slice pa2 pn2 pc2, .slice ca2 cn2 cc2, .slice ja2 jn2 jc2] := by rw [hW0]; have := BK.new (w.alloc (.cells #[.slice pa pn pc, .slice ca cn cc, .slice ja jn jc] 26)) 26 #[.slice pa2 pn2 pc2, .slice ca2 cn2 cc2, .slice ja2 jn2 jc2]; rw [World.size_alloc] at this; exact this.alloc _
  have hZ0 : BK W0 (w.heap.size + 2) 26 #[.slice none 0 0, .slice none 0 0, .slice none 0 0] := by rw [hW0]; have := BK.new ((w.alloc (.cells #[.slice pa pn pc, .slice ca cn cc, .slice ja jn jc] 26)).alloc (.cells #[.slice pa2 pn2 pc2, .slice ca2 cn2 cc2, .slice ja2 jn2 jc2] 26)) 26 #[.slice none 0 0, .slice none 0 0, .slice none 0 0]; rw [World.size_alloc, World.size_alloc] at this; exact this
  go_enter Tryd.func56, Tryd.ntmps56
  go_wp2_with fail
  rw [← hW0]
  clear hW0
  refine (Check_any _ _ _ _ _ _ _ _ _ R _ (hR.out.grow hB0 hB0.size)).mono ?_
  rintro e W1 ⟨rfl, hk0⟩
  rw [hc.out]
  have hB1 := hB0.trans (hk0.mono hB0.size)
  have hX1 := hX0.below hk0 hX0.lt
  have hY1 := hY0.below hk0 hY0.lt
  have hZ1 := hZ0.below hk0 hZ0.lt
  have y0 := hY1.cell 0
  have y1 := hY1.cell 1
  have y2 := hY1.cell 2
  simp only [List.getElem?_toArray, List.getElem?_cons_zero, List.getElem?_cons_succ] at y0 y1 y2
  go_wp2_with fail
  clear y0 y1 y2
  refine (Check_any _ _ _ _ _ _ _ _ _ R2 _ (hR2.out.grow hB1 hB1.size)).mono ?_
  rintro e W2 ⟨rfl, hk1⟩
  rw [hc2.out]
  have hB2 := hB1.trans (hk1.mono hB1.size)
  have hX2 := hX1.below hk1 hX1.lt
  have hY2 := hY1.below hk1 hY1.lt
  have hZ2 := hZ1.below hk1 hZ1.lt
  have x0 := hX2.cell 0
  have x1 := hX2.cell 1
  have x2 := hX2.cell 2
  simp only [List.getElem?_toArray, List.getElem?_cons_zero, List.getElem?_cons_succ] at x0 x1 x2
  go_wp2_with fail
  clear x0 x1 x2
  refine (measure_any pa pn pc ca cn cc ja jn jc R _ (hR.out.grow hB2 hB2.size) hv'.out.pk (by omega)).mono ?_
  rintro e W3 ⟨g, ba, bq, rfl, hM, -, hk2⟩
  have hB3 := hB2.trans (hk2.mono hB2.size)
  have hX3 := hX2.below hk2 hX2.lt
  have hY3 := hY2.below hk2 hY2.lt
  have hZ3 := hZ2.below hk2 hZ2.lt
  go_wp2_with fail
  refine (mlength_any _ _ _ _ _ _ _ _ _ _ _ _ R _ _ hM (by omega)).mono ?_
  rintro e W4' ⟨rfl, nd, hw4⟩
  obtain ⟨W4, hw4e⟩ : ∃ W4, W4 = W4' := ⟨_, rfl⟩
  rw [← hw4e] at hw4 ⊢
  have hk3 : Below W3.heap.size W3 W4 := by rw [hw4]; exact below_drewN (Below.refl _ _) _
  clear hw4 hw4e hM
  have hB4 := hB3.trans (hk3.mono hB3.size)
  have hX4 := hX3.below hk3 hX3.lt
  have hY4 := hY3.below hk3 hY3.lt
  have hZ4 := hZ3.below hk3 hZ3.lt
  clear hk0 hk1 hk2 hk3 hB0 hB1 hB2 hB3 hX0 hX1 hX2 hX3 hY0 hY1 hY2 hY3 hZ0 hZ1 hZ2 hZ3
  obtain ⟨N, hN⟩ : ∃ N, N = sumL R.ps := ⟨_, rfl⟩
  have HN := Lib.hid hN
  rw [← hN] at hs1 hs3 ⊢
  clear hN
  have HR4 := Lib.hid (hR.out.grow hB4 hB4.size)
  have HR42 := Lib.hid (hR2.out.grow hB4 hB4.size)
  have x0 := fun d os => cell_regrown (hX4.cell 0) d os
  have x1 := fun d os => cell_regrown (hX4.cell 1) d os
  have x2 := fun d os => cell_regrown (hX4.cell 2) d os
  have y0 := fun d os => cell_regrown (hY4.cell 0) d os
  go_wp2_with fail
  refine wp_region_cha 14 13 [4, 5, 8, 11] 26 #[.slice none 0 0, .slice none 0 0, .slice none 0 0] 7 _ hmo (by decide) rfl rfl rfl (fun a w => rfl) (by kernel_rfl) ?_
  simp only [List.take_succ_cons, List.take_zero, List.drop_succ_cons, List.drop_zero]
  repeat (refine wpC_q (by decide) (by decide) (fun K hK => ?_); go_simp; refine hK _ ?_; clear hK K)
  refine wpC_v (ι := Nat) (fun M => .slice (some ⟨M, 0, none⟩) 2 2) (fun M x => M < x.heap.size ∧ x.cell? ⟨M, 0, none⟩ = some (.slice pa pn pc) ∧ x.cell? ⟨M, 1, none⟩ = some (.slice pa2 pn2 pc2)) (by decide) (by decide) rfl stable_true (fun M x y ⟨q1, q2, q3⟩ hb => ⟨Nat.lt_of_lt_of_le q1 hb.size, (bc hb q1).trans q2, (bc hb q1).trans q3⟩)
    (fun W _ _ => ⟨W.heap.size, W.alloc (.cells #[.slice pa pn pc, .slice pa2 pn2 pc2] 22), by go_simp, ⟨by simp, by simp, by simp⟩, (Below.refl _ _).alloc (Nat.le_refl _) _⟩) (fun M hsM => ?_)
  refine wpC_c (ι := Option Addr × Nat) 101 #[.slice (some ⟨M, 0, none⟩) 2 2] (fun i => .slice i.1 (pn + pn2) i.2) (fun i x => OW pC 5 105 W4.heap.size x i.1 (pn + pn2) i.2 (R.ps ++ R2.ps)) (by decide) (by decide) rfl (fun w => by go_simp) hsM (fun i => stable_ow _ _ _ _ _ _ _ _) (fun W hW hΦ => ?_) (fun i1 hs1' => ?_)
  · obtain ⟨p, rfl⟩ := hW
    have hb := below_regrown W4 p.d p.os
    obtain ⟨-, q1, q2, q3⟩ := hΦ
    refine (ConcatP_any M 0 2 pa pn pc R.ps pa2 pn2 pc2 R2.ps _ q1 q2 q3 (HR4.out.p.grow hb hb.size) (HR42.out.p.grow hb hb.size) (by omega) (by omega)).mono ?_
    rintro e w' ⟨A', c', rfl, ho, hbl⟩
    exact ⟨(A', c'), rfl, ho.drop0 hb.size, hbl⟩
  repeat (refine wpC_q (by decide) (by decide) (fun K hK => ?_); go_simp; refine hK _ ?_; clear hK K)
  refine wpC_c (ι := Option Addr × Nat) 94 #[.slice ca cn cc] (fun i => .slice i.1 cn i.2) (fun i x => OW cC 2 134 W4.heap.size x i.1 cn i.2 R.cs) (by decide) (by decide) rfl (fun w => by go_simp) hs1' (fun i => stable_ow _ _ _ _ _ _ _ _) (fun W hW _ => ?_) (fun i2 hs2' => ?_)
  · obtain ⟨p, rfl⟩ := hW
    have hb := below_regrown W4 p.d p.os
    refine (CloneC_any _ _ _ R.cs _ (HR4.out.c.grow hb hb.size) (by omega)).mono ?_
    rintro e w' ⟨A', c', rfl, ho, hbl⟩
    exact ⟨(A', c'), rfl, ho.drop0 hb.size, hbl⟩
  repeat (refine wpC_q (by decide) (by decide) (fun K hK => ?_); go_simp; refine hK _ ?_; clear hK K)
  refine wpC_c (ι := Option Addr × Nat) 95 #[.slice ja jn jc] (fun i => .slice i.1 jn i.2) (fun i x => OW jC 3 136 W4.heap.size x i.1 jn i.2 R.js) (by decide) (by decide) rfl (fun w => by go_simp) hs2' (fun i => stable_ow _ _ _ _ _ _ _ _) (fun W hW _ => ?_) (fun i3 hs3' => ?_)
  · obtain ⟨p, rfl⟩ := hW
    have hb := below_regrown W4 p.d p.os
    refine (CloneJ_any _ _ _ R.js _ (HR4.out.j.grow hb hb.size) (by omega)).mono ?_
    rintro e w' ⟨A', c', rfl, ho, hbl⟩
    exact ⟨(A', c'), rfl, ho.drop0 hb.size, hbl⟩
  obtain ⟨A1, c1⟩ := i1
  obtain ⟨A2, c2⟩ := i2
  obtain ⟨A3, c3⟩ := i3
  repeat (refine wpC_q (by decide) (by decide) (fun K hK => ?_); go_simp; refine hK _ ?_; clear hK K)
  refine wpC_a (by decide) ?_
  refine wpC_nil ?_
  intro tb W5 hk4 hΦ htb hTB
  obtain ⟨⟨⟨-, o1⟩, o2⟩, o3⟩ := hΦ
  simp only at o1 o2 o3 ⊢
  clear x0 x1 x2 y0 hsM hs1' hs2' hs3' HR4 hX4
  have t0 := hTB.cell 0
  have t1 := hTB.cell 1
  have t2 := hTB.cell 2
  have tf := hTB.frozen
  have tl := hTB.lt
  simp only [List.getElem?_toArray, List.getElem?_cons_zero, List.getElem?_cons_succ] at t0 t1 t2
  have HTB : Hid (W4.heap.size ≤ tb) := htb
  go_upto_region 5 with fail
  refine wp_wnamed (fun W6 hW6 => ?_)
  have hJ6 : JB 26 105 134 136 W4.heap.size W6 tb A1 (pn + pn2) c1 (R.ps ++ R2.ps) A2 cn c2 R.cs A3 jn c3 R.js := by
    have f1 : ∀ a, A1 = some a → a.block ≠ tb := fun a ha => BK.ne_row (.inr ⟨_, hTB⟩) o1 (by decide) ha
    have f2 : ∀ a, A2 = some a → a.block ≠ tb := fun a ha => BK.ne_row (.inr ⟨_, hTB⟩) o2 (by decide) ha
    have f3 : ∀ a, A3 = some a → a.block ≠ tb := fun a ha => BK.ne_row (.inr ⟨_, hTB⟩) o3 (by decide) ha
    rw [hW6]
    exact ⟨((hTB.set_ 0 _).set_ 1 _).set_ 2 _, ((o1.setCell f1 _).setCell f1 _).setCell f1 _, ((o2.setCell f2 _).setCell f2 _).setCell f2 _, ((o3.setCell f3 _).setCell f3 _).setCell f3 _⟩
  have hb6 : Below W4.heap.size W4 W6 := by rw [hW6]; exact ((hk4.setCell htb _).setCell htb _).setCell htb _
  clear hW6 t0 t1 t2 tf tl hTB o1 o2 o3 hk4 htb
  have hY6 := hY4.below hb6 hY4.lt
  have y1 := hY6.cell 1
  simp only [List.getElem?_toArray, List.getElem?_cons_zero, List.getElem?_cons_succ] at y1
  go_wp2_with fail
  clear y1 hY6
  go_loopw [42] (fun i wr => ∃ (k : Nat) (A2 : Option Addr) (n2' c2' : Nat), k ≤ cn2 ∧ i = .int .i64 k ∧ JB 26 105 134 136 W4.heap.size wr tb A1 (pn + pn2) c1 (R.ps ++ R2.ps) A2 n2' c2' ((R2.cs.take k).foldl (joinC N) R.cs) A3 jn c3 R.js ∧ Below W4.heap.size W4 wr)
    (fun i _ => cn2 - (intOf i).toNat)
  case atStart => exact ⟨0, A2, cn, c2, Nat.zero_le _, rfl, hJ6, hb6⟩
  case round =>
    obtain ⟨k, A2, n2', c2', hk, rfl, hJ, hb⟩ := hrel
    have hsz := hb.size
    by_cases hlt : k < cn2
    · have hkl : k < R2.cs.length := by rw [← HC2.out]; exact hlt
      obtain ⟨bb, off, hA, hbB, k0, k1⟩ := CS.at_ (HR42.out.c.grow hb hsz) (k := k) hkl
      obtain ⟨L, hL0⟩ : ∃ L, L = (R2.cs.take k).foldl (joinC N) R.cs := ⟨_, rfl⟩
      rw [← hL0] at hJ
      have hnew : Hid ((R2.cs.take (k + 1)).foldl (joinC N) R.cs = joinC N L R2.cs[k]) := by
        show _ = _
        rw [List.take_succ_eq_append_getElem hkl, List.foldl_append, ← hL0]
        rfl
      have hcb := cbd hv2'.out _ (List.getElem_mem hkl)
      have hLs : Hid (∀ d ∈ L, 1 ≤ d.siz ∧ d.siz ≤ 3) := by
        rw [hL0]
        exact foldC_siz N _ _ (fun d hd => (cbd hv2'.out d (List.mem_of_mem_take hd)).2) (fun d hd => (cbd hv'.out d hd).2)
      have hnl : n2' ≤ 2000 := by
        have q1 := hJ.c.len
        have q2 := foldC_len N (R2.cs.take k) R.cs
        have q3 : (R2.cs.take k).length ≤ k := List.length_take_le ..
        have q4 := HC1.out
        rw [← hL0] at q2
        omega
      clear hL0
      generalize R2.cs[k]'hkl = c at k0 k1 hnew hcb
      obtain ⟨⟨hc1, hc2⟩, hc3, hc4⟩ := hcb
      have hwp : IntKind.i64.wrap (c.pos + N) = c.pos + N := IntWalk.i64_in _ (by omega)
      have bl := hJ.b.lt
      have b1 := hJ.b.cell 1
      simp only [List.getElem?_toArray, List.getElem?_cons_zero, List.getElem?_cons_succ] at b1
      have hi1 : (0 : Int) ≤ (k : Int) := by omega
      have hi2 : (k : Int) < (cn2 : Int) := by omega
      subst hA
      go_upto_region 10 with fail
      refine wp_wnamed (fun Wg hWg => ?_)
      have G9 : BK Wg wr.heap.size 134 #[.int .i64 (c.pos + N), .int .i64 c.siz] := by rw [hWg]; exact BK.new wr _ _
      have hbg : Below wr.heap.size wr Wg := by rw [hWg]; exact (Below.refl _ wr).alloc (Nat.le_refl _) _
      have hJg := hJ.call hbg
      clear hWg k0 k1 b1 hJ bl
      have b1 := hJg.b.cell 1
      have g0 := G9.cell 0
      have g1 := G9.cell 1
      simp only [List.getElem?_toArray, List.getElem?_cons_zero, List.getElem?_cons_succ] at b1 g0 g1
      have q0 := fun d os => cell_regrown b1 d os
      have q1 := fun d os => cell_regrown g0 d os
      rcases nil_or_snoc L with hL | ⟨ds, d0, hL⟩
      · have hn0 : n2' = 0 := by have := hJg.c.len; rw [hL] at this; simpa using this
        subst hn0
        have hcase : Hid (joinC N L c = L ++ [⟨c.pos + N, c.siz⟩]) := by rw [hL]; exact rfl
        clear hL hnl
        go_wp2_with fail
        refine wp_region_qt 13 hmo (by kernel_rfl) ?_
        simp only [List.take_succ_cons, List.take_zero, List.drop_succ_cons, List.drop_zero]
        iterate 2 (quiet_step (fail))
        refine wpQuiet_off (.tmp 55) 56 2 10 true rfl rfl rfl rfl (by simp) rfl (by kernel_rfl) ?_
        simp only [List.take_succ_cons, List.take_zero, List.drop_succ_cons, List.drop_zero, offs, List.foldl_cons, List.foldl_nil, Act.put, List.setIfInBounds_toArray, List.set_cons_succ, List.set_cons_zero, Bool.not_true]
        intro a1 ha1
        refine wpQuiet_nil ?_
        intro Wh hbh
        rw [ha1]
        clear ha1
        have hJh := hJg.call hbh
        have G9h := G9.below hbh G9.lt
        have hbg2 := hbg.trans (hbh.mono hbg.size)
        clear hJg G9 hbg g0 q0 q1
        clear b1 g1
        have b1 := hJh.b.cell 1
        have bl := hJh.b.lt
        have g0 := G9h.cell 0
        have g1 := G9h.cell 1
        have gl := G9h.lt
        simp only [List.getElem?_toArray, List.getElem?_cons_zero, List.getElem?_cons_succ] at b1 g0 g1
        have hN1 := BK.new Wh 134 #[.int .i64 (c.pos + N), .int .i64 c.siz]
        have hJa := hJh.alloc (.cells #[.int .i64 (c.pos + N), .int .i64 c.siz] 134)
        have HFZ : Hid (∀ w3 g c'', App1 cC 2 134 W4.heap.size (Wh.alloc (.cells #[.int .i64 (c.pos + N), .int .i64 c.siz] 134)) A2 0 c2' L ⟨c.pos + N, c.siz⟩ g c'' w3 → w3.heap[tb]? = (Wh.alloc (.cells #[.int .i64 (c.pos + N), .int .i64 c.siz] 134)).heap[tb]?) := by
          intro w3 g c'' hap
          exact hap.far _ hJa.b.lt (fun b hb => BK.ne_row (.inr ⟨_, hJa.b⟩) hJa.c (by decide) hb)
        have hzw := hbg2.size
        go_wp2_with (at_builtin; refine wpList_app rfl _ _ 23 rfl W4.heap.size 134 _ 2 16 Tryd.underlying23 infoC rfl (by decide) cC A2 0 c2' L rfl hJa.c ⟨c.pos + N, c.siz⟩ #[.int .i64 (c.pos + N), .int .i64 c.siz] rfl rfl 134 Wh.heap.size rfl hN1 (by simp [cC, Value.oneCell']) (by omega) (by omega) (by simp; omega) ?_; intro g' c'' w1 hap; have hw1 := HFZ.out _ _ _ hap; have hm1 := hJa.b.same hw1; have mf := hm1.frozen 1; have m1 := hm1.cell 1; have HAP := Lib.hid hap; clear hap)
        have hap := HAP.out
        have hJn := hJa.appC (by decide) (by decide) (by decide) (by decide) (by decide) hap
        have hba := (Below.refl Wh.heap.size Wh).alloc (Nat.le_refl _) (.cells #[.int .i64 (c.pos + N), .int .i64 c.siz] 134)
        go_roundw
        case rel => exact ⟨k + 1, _, _, _, by omega, by go_num, by rw [hnew.out, hcase.out]; exact hJn, ((hb.trans (hbg2.mono hb.size)).trans ((hba.mono (by omega)).trans hap.bel)).setCell HTB.out _⟩
        case measure => simp [intOf]; omega
      · have hnD : n2' = ds.length + 1 := by have := hJg.c.len; rw [hL] at this; simpa using this
        obtain ⟨a1, hA0⟩ : ∃ a1, A2 = some a1 := by
          cases A2 with
          | none => have := hJg.c.none_.1; omega
          | some a1 => exact ⟨a1, rfl⟩
        obtain ⟨bo, rfl, hbo, hbbo, hfz, hrow⟩ := hJg.c.at_ cC_len a1 hA0
        have hat : L[n2' - 1]? = some d0 := by rw [hL, hnD]; simp
        have dt : Wg.cell? ⟨bo, (n2' - 1) * 2, none⟩ = some (.int .i64 d0.pos) := by have := hrow _ d0 hat 0 _ rfl; rw [show 0 + (n2' - 1) * 2 + 0 = (n2' - 1) * 2 by omega] at this; exact this
        have du : Wg.cell? ⟨bo, (n2' - 1) * 2 + 1, none⟩ = some (.int .i64 d0.siz) := by have := hrow _ d0 hat 1 _ rfl; rw [show 0 + (n2' - 1) * 2 + 1 = (n2' - 1) * 2 + 1 by omega] at this; exact this
        have df := hfz ((n2' - 1) * 2 + 1)
        have hds := hLs.out d0 (List.mem_of_getElem? hat)
        have hwn : IntKind.i64.wrap ((n2' : Int) - 1) = (n2' : Int) - 1 := IntWalk.i64_in _ (by omega)
        have hi3 : ((n2' : Int) - 1).toNat = n2' - 1 := by omega
        have hi4 : (0 : Int) ≤ (n2' : Int) - 1 := by omega
        have hi5 : (n2' : Int) - 1 < (n2' : Int) := by omega
        have hi6 : (1 : Int) ≤ (n2' : Int) := by omega
        have hn7 : 0 < n2' := by omega
        have HADD := Lib.hid (joinC_at N ds d0 c)
        have HL := Lib.hid hL
        have HND := Lib.hid hnD
        have HAT := Lib.hid hat
        subst hA0
        clear hfz hrow hL hnD hat
        have q2 := fun d os => cell_regrown dt d os
        go_wp2_with fail
        refine wp_region_qt 13 hmo (by kernel_rfl) ?_
        simp only [List.take_succ_cons, List.take_zero, List.drop_succ_cons, List.drop_zero]
        repeat (quiet_step (fail))
        refine wpQuiet_nil ?_
        intro Wh hbh
        clear q0 q1 q2
        have hJh := hJg.call hbh
        have G9h := G9.below hbh G9.lt
        have hbg2 := hbg.trans (hbh.mono hbg.size)
        have dt' := (bc hbh hbo).trans dt
        have du' := (bc hbh hbo).trans du
        have df' := (bf hbh hbo).trans df
        have hbo' := Nat.lt_of_lt_of_le hbo hbh.size
        clear hJg G9 hbg dt du df b1 g0 g1 hbo
        by_cases het : d0.pos = c.pos + N
        · obtain ⟨M, hM⟩ : ∃ M, M = max d0.siz c.siz := ⟨_, rfl⟩
          have hite : (if d0.siz < c.siz then c.siz else d0.siz) = M := by rw [hM]; split <;> omega
          have hcase : Hid (joinC N L c = L.set (n2' - 1) ⟨d0.pos, M⟩) := by
            show _ = _
            rw [HL.out, HADD.out, if_pos het, HND.out, hM]
            simp
          have et : (d0.pos == c.pos + N) = true := by simpa using het
          clear het hM
          have b1 := hJh.b.cell 1
          have g0 := G9h.cell 0
          have g1 := G9h.cell 1
          simp only [List.getElem?_toArray, List.getElem?_cons_zero, List.getElem?_cons_succ] at b1 g0 g1
          have q0 := fun d os => cell_regrown b1 d os
          have q2 := fun d os => cell_regrown du' d os
          have q3 := fun d os => cell_regrown g1 d os
          go_wp2_with fail
          refine wp_region_qt 14 hmo (by kernel_rfl) ?_
          simp only [List.take_succ_cons, List.take_zero, List.drop_succ_cons, List.drop_zero]
          repeat (quiet_step (fail))
          refine wpQuiet_nil ?_
          intro Wi hbi
          clear q0 q2 q3 b1 g0 g1
          have hJi := hJh.call hbi
          have hbg3 := hbg2.trans (hbi.mono hbg2.size)
          have dfi := (bf hbi hbo').trans df'
          have dui := (bc hbi hbo').trans du'
          have hboi := Nat.lt_of_lt_of_le hbo' hbi.size
          clear hJh G9h hbg2 dt' du' df' hbo'
          go_wp2_with fail
          go_roundw
          case rel =>
            have h1 := hJi.setC (by decide) (by decide) (by decide) rfl (n2' - 1) 1 (x := d0) (y := ⟨d0.pos, M⟩) (v := .int .i64 M) HAT.out (by omega) rfl
            exact ⟨k + 1, _, _, _, by omega, by go_num, by rw [hnew.out, hcase.out]; exact h1, (hb.trans (hbg3.mono hb.size)).setCell hbbo _⟩
          case measure => simp [intOf]; omega
        · have hcase : Hid (joinC N L c = L ++ [⟨c.pos + N, c.siz⟩]) := by
            show _ = _
            rw [HL.out, HADD.out, if_neg het]
          have et : (d0.pos == c.pos + N) = false := by simpa using het
          clear het dt' du' df'
          have b1 := hJh.b.cell 1
          have bl := hJh.b.lt
          have g0 := G9h.cell 0
          have g1 := G9h.cell 1
          have gl := G9h.lt
          simp only [List.getElem?_toArray, List.getElem?_cons_zero, List.getElem?_cons_succ] at b1 g0 g1
          have hN1 := BK.new Wh 134 #[.int .i64 (c.pos + N), .int .i64 c.siz]
          have hJa := hJh.alloc (.cells #[.int .i64 (c.pos + N), .int .i64 c.siz] 134)
          have HFZ : Hid (∀ w3 g c'', App1 cC 2 134 W4.heap.size (Wh.alloc (.cells #[.int .i64 (c.pos + N), .int .i64 c.siz] 134)) (some ⟨bo, 0, none⟩) n2' c2' L ⟨c.pos + N, c.siz⟩ g c'' w3 → w3.heap[tb]? = (Wh.alloc (.cells #[.int .i64 (c.pos + N), .int .i64 c.siz] 134)).heap[tb]?) := by
            intro w3 g c'' hap
            exact hap.far _ hJa.b.lt (fun b hb => BK.ne_row (.inr ⟨_, hJa.b⟩) hJa.c (by decide) hb)
          have hzw := hbg2.size
          go_wp2_with (at_builtin; refine wpList_app rfl _ _ 23 rfl W4.heap.size 134 _ 2 16 Tryd.underlying23 infoC rfl (by decide) cC (some ⟨bo, 0, none⟩) n2' c2' L rfl hJa.c ⟨c.pos + N, c.siz⟩ #[.int .i64 (c.pos + N), .int .i64 c.siz] rfl rfl 134 Wh.heap.size rfl hN1 (by simp [cC, Value.oneCell']) (by omega) (by omega) (by simp; omega) ?_; intro g' c'' w1 hap; have hw1 := HFZ.out _ _ _ hap; have hm1 := hJa.b.same hw1; have mf := hm1.frozen 1; have m1 := hm1.cell 1; have HAP := Lib.hid hap; clear hap)
          have hap := HAP.out
          have hJn := hJa.appC (by decide) (by decide) (by decide) (by decide) (by decide) hap
          have hba := (Below.refl Wh.heap.size Wh).alloc (Nat.le_refl _) (.cells #[.int .i64 (c.pos + N), .int .i64 c.siz] 134)
          go_roundw
          case rel => exact ⟨k + 1, _, _, _, by omega, by go_num, by rw [hnew.out, hcase.out]; exact hJn, ((hb.trans (hbg2.mono hb.size)).trans ((hba.mono (by omega)).trans hap.bel)).setCell HTB.out _⟩
          case measure => simp [intOf]; omega
    · obtain rfl : k = cn2 := by omega
      have hall : Hid ((R2.cs.take k).foldl (joinC N) R.cs = (joinR R R2).cs) := by
        show _ = _
        rw [HC2.out, List.take_length, HN.out]
        rfl
      rw [hall.out] at hJ
      have hYr := hY4.below hb hY4.lt
      have y2 := hYr.cell 2
      simp only [List.getElem?_toArray, List.getElem?_cons_zero, List.getElem?_cons_succ] at y2
      obtain ⟨W8, rfl⟩ : ∃ W8 : World, W8 = wr := ⟨_, rfl⟩
      have hb8 := hb
      go_wp2_with fail
      go_loopw [94] (fun i wr => ∃ (k : Nat) (A3 : Option Addr) (n3' c3' : Nat), k ≤ jn2 ∧ i = .int .i64 k ∧ JB 26 105 134 136 W4.heap.size wr tb A1 (pn + pn2) c1 (R.ps ++ R2.ps) A2 n2' c2' (joinR R R2).cs A3 n3' c3' ((R2.js.take k).foldl (joinJ N) R.js) ∧ Below W4.heap.size W4 wr)
        (fun i _ => jn2 - (intOf i).toNat)
      case atStart => exact ⟨0, A3, jn, c3, Nat.zero_le _, rfl, hJ, hb8⟩
      case round =>
        obtain ⟨k, A3, n3', c3', hk, rfl, hJ, hb⟩ := hrel
        have hsz := hb.size
        by_cases hlt : k < jn2
        · have hkl : k < R2.js.length := by rw [← HJ2.out]; exact hlt
          obtain ⟨bb, off, hA, hbB, k0, k1, k2⟩ := JS.at_ (HR42.out.j.grow hb hsz) (k := k) hkl
          obtain ⟨L, hL0⟩ : ∃ L, L = (R2.js.take k).foldl (joinJ N) R.js := ⟨_, rfl⟩
          rw [← hL0] at hJ
          have hnew : Hid ((R2.js.take (k + 1)).foldl (joinJ N) R.js = joinJ N L R2.js[k]) := by
            show _ = _
            rw [List.take_succ_eq_append_getElem hkl, List.foldl_append, ← hL0]
            rfl
          have hcb := jbd hv2'.out _ (List.getElem_mem hkl)
          have hnl : n3' ≤ 400 := by
            have q1 := hJ.j.len
            have q2 := foldJ_len N (R2.js.take k) R.js
            have q3 : (R2.js.take k).length ≤ k := List.length_take_le ..
            have q4 := HJ1.out
            rw [← hL0] at q2
            omega
          clear hL0
          generalize R2.js[k]'hkl = c at k0 k1 k2 hnew hcb
          obtain ⟨⟨hc1, hc2⟩, -, -, -⟩ := hcb
          have hwp : IntKind.i64.wrap (c.pos + N) = c.pos + N := IntWalk.i64_in _ (by omega)
          have bl := hJ.b.lt
          have b2 := hJ.b.cell 2
          simp only [List.getElem?_toArray, List.getElem?_cons_zero, List.getElem?_cons_succ] at b2
          have hi1 : (0 : Int) ≤ (k : Int) := by omega
          have hi2 : (k : Int) < (jn2 : Int) := by omega
          subst hA
          go_upto_region 19 with fail
          refine wp_wnamed (fun Wg hWg => ?_)
          have G9 : BK Wg wr.heap.size 136 #[.int .i64 (c.pos + N), .int .i64 c.arms, .int .i64 c.way] := by rw [hWg]; exact BK.new wr _ _
          have hbg : Below wr.heap.size wr Wg := by rw [hWg]; exact (Below.refl _ wr).alloc (Nat.le_refl _) _
          have hJg := hJ.call hbg
          clear hWg k0 k1 k2 b2 hJ bl
          have b2 := hJg.b.cell 2
          have g0 := G9.cell 0
          simp only [List.getElem?_toArray, List.getElem?_cons_zero, List.getElem?_cons_succ] at b2 g0
          have q0 := fun d os => cell_regrown b2 d os
          have q1 := fun d os => cell_regrown g0 d os
          rcases nil_or_snoc L with hL | ⟨ds, d0, hL⟩
          · have hn0 : n3' = 0 := by have := hJg.j.len; rw [hL] at this; simpa using this
            subst hn0
            have hcase : Hid (joinJ N L c = L ++ [⟨c.pos + N, c.arms, c.way⟩]) := by rw [hL]; exact rfl
            clear hL hnl
            go_wp2_with fail
            refine wp_region_qt 13 hmo (by kernel_rfl) ?_
            simp only [List.take_succ_cons, List.take_zero, List.drop_succ_cons, List.drop_zero]
            iterate 2 (quiet_step (fail))
            refine wpQuiet_off (.tmp 107) 108 2 10 true rfl rfl rfl rfl (by simp) rfl (by kernel_rfl) ?_
            simp only [List.take_succ_cons, List.take_zero, List.drop_succ_cons, List.drop_zero, offs, List.foldl_cons, List.foldl_nil, Act.put, List.setIfInBounds_toArray, List.set_cons_succ, List.set_cons_zero, Bool.not_true]
            intro a1 ha1
            refine wpQuiet_nil ?_
            intro Wh hbh
            rw [ha1]
            clear ha1
            have hJh := hJg.call hbh
            have G9h := G9.below hbh G9.lt
            have hbg2 := hbg.trans (hbh.mono hbg.size)
            clear hJg G9 hbg g0 q0 q1
            clear b2
            have b2 := hJh.b.cell 2
            have bl := hJh.b.lt
            have g0 := G9h.cell 0
            have g1 := G9h.cell 1
            have g2 := G9h.cell 2
            have gl := G9h.lt
            simp only [List.getElem?_toArray, List.getElem?_cons_zero, List.getElem?_cons_succ] at b2 g0 g1 g2
            have hN1 := BK.new Wh 136 #[.int .i64 (c.pos + N), .int .i64 c.arms, .int .i64 c.way]
            have hJa := hJh.alloc (.cells #[.int .i64 (c.pos + N), .int .i64 c.arms, .int .i64 c.way] 136)
            have HFZ : Hid (∀ w3 g c'', App1 jC 3 136 W4.heap.size (Wh.alloc (.cells #[.int .i64 (c.pos + N), .int .i64 c.arms, .int .i64 c.way] 136)) A3 0 c3' L ⟨c.pos + N, c.arms, c.way⟩ g c'' w3 → w3.heap[tb]? = (Wh.alloc (.cells #[.int .i64 (c.pos + N), .int .i64 c.arms, .int .i64 c.way] 136)).heap[tb]?) := by
              intro w3 g c'' hap
              exact hap.far _ hJa.b.lt (fun b hb => BK.ne_row (.inr ⟨_, hJa.b⟩) hJa.j (by decide) hb)
            have hzw := hbg2.size
            go_wp2_with (at_builtin; refine wpList_app rfl _ _ 24 rfl W4.heap.size 136 _ 3 24 Tryd.underlying24 infoJ rfl (by decide) jC A3 0 c3' L rfl hJa.j ⟨c.pos + N, c.arms, c.way⟩ #[.int .i64 (c.pos + N), .int .i64 c.arms, .int .i64 c.way] rfl rfl 136 Wh.heap.size rfl hN1 (by simp [jC, Value.oneCell']) (by omega) (by omega) (by simp; omega) ?_; intro g' c'' w1 hap; have hw1 := HFZ.out _ _ _ hap; have hm1 := hJa.b.same hw1; have mf := hm1.frozen 2; have m2 := hm1.cell 2; have HAP := Lib.hid hap; clear hap)
            have hap := HAP.out
            have hJn := hJa.appJ (by decide) (by decide) (by decide) (by decide) (by decide) hap
            have hba := (Below.refl Wh.heap.size Wh).alloc (Nat.le_refl _) (.cells #[.int .i64 (c.pos + N), .int .i64 c.arms, .int .i64 c.way] 136)
            go_roundw
            case rel => exact ⟨k + 1, _, _, _, by omega, by go_num, by rw [hnew.out, hcase.out]; exact hJn, ((hb.trans (hbg2.mono hb.size)).trans ((hba.mono (by omega)).trans hap.bel)).setCell HTB.out _⟩
            case measure => simp [intOf]; omega
          · have hnD : n3' = ds.length + 1 := by have := hJg.j.len; rw [hL] at this; simpa using this
            obtain ⟨a1, hA0⟩ : ∃ a1, A3 = some a1 := by
              cases A3 with
              | none => have := hJg.j.none_.1; omega
              | some a1 => exact ⟨a1, rfl⟩
            obtain ⟨bo, rfl, hbo, hbbo, hfz, hrow⟩ := hJg.j.at_ jC_len a1 hA0
            have hat : L[n3' - 1]? = some d0 := by rw [hL, hnD]; simp
            have dt : Wg.cell? ⟨bo, (n3' - 1) * 3, none⟩ = some (.int .i64 d0.pos) := by have := hrow _ d0 hat 0 _ rfl; rw [show 0 + (n3' - 1) * 3 + 0 = (n3' - 1) * 3 by omega] at this; exact this
            have hwn : IntKind.i64.wrap ((n3' : Int) - 1) = (n3' : Int) - 1 := IntWalk.i64_in _ (by omega)
            have hi3 : ((n3' : Int) - 1).toNat = n3' - 1 := by omega
            have hi4 : (0 : Int) ≤ (n3' : Int) - 1 := by omega
            have hi5 : (n3' : Int) - 1 < (n3' : Int) := by omega
            have hi6 : (1 : Int) ≤ (n3' : Int) := by omega
            have hn7 : 0 < n3' := by omega
            have HADD := Lib.hid (joinJ_at N ds d0 c)
            have HL := Lib.hid hL
            subst hA0
            clear hfz hrow hL hnD hat
            have q2 := fun d os => cell_regrown dt d os
            go_wp2_with fail
            refine wp_region_qt 13 hmo (by kernel_rfl) ?_
            simp only [List.take_succ_cons, List.take_zero, List.drop_succ_cons, List.drop_zero]
            repeat (quiet_step (fail))
            refine wpQuiet_nil ?_
            intro Wh hbh
            clear q0 q1 q2
            have hJh := hJg.call hbh
            have G9h := G9.below hbh G9.lt
            have hbg2 := hbg.trans (hbh.mono hbg.size)
            clear hJg G9 hbg dt b2 g0 hbo
            by_cases het : d0.pos = c.pos + N
            · have hcase : Hid (joinJ N L c = L) := by
                show _ = _
                rw [HL.out, HADD.out, if_pos het]
              have et : (d0.pos == c.pos + N) = true := by simpa using het
              clear het
              go_wp2_with fail
              go_roundw
              case rel => exact ⟨k + 1, some ⟨bo, 0, none⟩, n3', c3', by omega, by go_num, by rw [hnew.out.trans hcase.out]; exact hJh, hb.trans (hbg2.mono hb.size)⟩
              case measure => simp [intOf]; omega
            · have hcase : Hid (joinJ N L c = L ++ [⟨c.pos + N, c.arms, c.way⟩]) := by
                show _ = _
                rw [HL.out, HADD.out, if_neg het]
              have et : (d0.pos == c.pos + N) = false := by simpa using het
              clear het
              have b2 := hJh.b.cell 2
              have bl := hJh.b.lt
              have g0 := G9h.cell 0
              have g1 := G9h.cell 1
              have g2 := G9h.cell 2
              have gl := G9h.lt
              simp only [List.getElem?_toArray, List.getElem?_cons_zero, List.getElem?_cons_succ] at b2 g0 g1 g2
              have hN1 := BK.new Wh 136 #[.int .i64 (c.pos + N), .int .i64 c.arms, .int .i64 c.way]
              have hJa := hJh.alloc (.cells #[.int .i64 (c.pos + N), .int .i64 c.arms, .int .i64 c.way] 136)
              have HFZ : Hid (∀ w3 g c'', App1 jC 3 136 W4.heap.size (Wh.alloc (.cells #[.int .i64 (c.pos + N), .int .i64 c.arms, .int .i64 c.way] 136)) (some ⟨bo, 0, none⟩) n3' c3' L ⟨c.pos + N, c.arms, c.way⟩ g c'' w3 → w3.heap[tb]? = (Wh.alloc (.cells #[.int .i64 (c.pos + N), .int .i64 c.arms, .int .i64 c.way] 136)).heap[tb]?) := by
                intro w3 g c'' hap
                exact hap.far _ hJa.b.lt (fun b hb => BK.ne_row (.inr ⟨_, hJa.b⟩) hJa.j (by decide) hb)
              have hzw := hbg2.size
              go_wp2_with (at_builtin; refine wpList_app rfl _ _ 24 rfl W4.heap.size 136 _ 3 24 Tryd.underlying24 infoJ rfl (by decide) jC (some ⟨bo, 0, none⟩) n3' c3' L rfl hJa.j ⟨c.pos + N, c.arms, c.way⟩ #[.int .i64 (c.pos + N), .int .i64 c.arms, .int .i64 c.way] rfl rfl 136 Wh.heap.size rfl hN1 (by simp [jC, Value.oneCell']) (by omega) (by omega) (by simp; omega) ?_; intro g' c'' w1 hap; have hw1 := HFZ.out _ _ _ hap; have hm1 := hJa.b.same hw1; have mf := hm1.frozen 2; have m2 := hm1.cell 2; have HAP := Lib.hid hap; clear hap)
              have hap := HAP.out
              have hJn := hJa.appJ (by decide) (by decide) (by decide) (by decide) (by decide) hap
              have hba := (Below.refl Wh.heap.size Wh).alloc (Nat.le_refl _) (.cells #[.int .i64 (c.pos + N), .int .i64 c.arms, .int .i64 c.way] 136)
              go_roundw
              case rel => exact ⟨k + 1, _, _, _, by omega, by go_num, by rw [hnew.out, hcase.out]; exact hJn, ((hb.trans (hbg2.mono hb.size)).trans ((hba.mono (by omega)).trans hap.bel)).setCell HTB.out _⟩
              case measure => simp [intOf]; omega
        · obtain rfl : k = jn2 := by omega
          have hall : Hid ((R2.js.take k).foldl (joinJ N) R.js = (joinR R R2).js) := by
            show _ = _
            rw [HJ2.out, List.take_length, HN.out]
            rfl
          rw [hall.out] at hJ
          have hbW : Below w.heap.size w wr := hB4.trans (hb.mono hB4.size)
          have hZr := hZ4.below hb hZ4.lt
          have b0 := hJ.b.cell 0
          have b1 := hJ.b.cell 1
          have b2 := hJ.b.cell 2
          simp only [List.getElem?_toArray, List.getElem?_cons_zero, List.getElem?_cons_succ] at b0 b1 b2
          go_wp2_with fail
          refine (bounded_any A1 (pn + pn2) c1 A2 n2' c2' A3 n3' c3' (joinR R R2) wr ⟨hJ.p.sl pC_len, hJ.c.sl cC_len, hJ.j.sl jC_len⟩ HPK.out (by omega)).mono ?_
          rintro e W9 ⟨rfl, hb9⟩
          have hJ9 := hJ.call hb9
          have hZ9 := hZr.below hb9 hZr.lt
          have hB9 := hbW.trans (hb9.mono hbW.size)
          have hz9 : w.heap.size + 2 < W4.heap.size := hZ4.lt
          have zf := hZ9.frozen
          have zl := hZ9.lt
          have z0 := hZ9.cell 0
          have z1 := hZ9.cell 1
          have z2 := hZ9.cell 2
          simp only [List.getElem?_toArray, List.getElem?_cons_zero, List.getElem?_cons_succ] at z0 z1 z2
          have hP := hJ9.p
          have hC := hJ9.c
          have hQ := hJ9.j
          have fP : ∀ a, A1 = some a → a.block ≠ w.heap.size + 2 := fun a ha => by have := (hP.lt ha).1; omega
          have fC : ∀ a, A2 = some a → a.block ≠ w.heap.size + 2 := fun a ha => by have := (hC.lt ha).1; omega
          have fQ : ∀ a, A3 = some a → a.block ≠ w.heap.size + 2 := fun a ha => by have := (hQ.lt ha).1; omega
          clear b0 b1 b2 hJ hJ9 hZr
          have FIN : Hid (∀ v0 v1 v2 : Value, (OW pC 5 105 w.heap.size (((W9.setCell ⟨w.heap.size + 2, 0, none⟩ v0).setCell ⟨w.heap.size + 2, 1, none⟩ v1).setCell ⟨w.heap.size + 2, 2, none⟩ v2) A1 (pn + pn2) c1 (joinR R R2).ps ∧ OW cC 2 134 w.heap.size (((W9.setCell ⟨w.heap.size + 2, 0, none⟩ v0).setCell ⟨w.heap.size + 2, 1, none⟩ v1).setCell ⟨w.heap.size + 2, 2, none⟩ v2) A2 n2' c2' (joinR R R2).cs ∧ OW jC 3 136 w.heap.size (((W9.setCell ⟨w.heap.size + 2, 0, none⟩ v0).setCell ⟨w.heap.size + 2, 1, none⟩ v1).setCell ⟨w.heap.size + 2, 2, none⟩ v2) A3 n3' c3' (joinR R R2).js) ∧ Below w.heap.size w (((W9.setCell ⟨w.heap.size + 2, 0, none⟩ v0).setCell ⟨w.heap.size + 2, 1, none⟩ v1).setCell ⟨w.heap.size + 2, 2, none⟩ v2)) := fun v0 v1 v2 =>
            ⟨⟨(((hP.setCell fP v0).setCell fP v1).setCell fP v2).drop0 hB4.size, (((hC.setCell fC v0).setCell fC v1).setCell fC v2).drop0 hB4.size, (((hQ.setCell fQ v0).setCell fQ v1).setCell fQ v2).drop0 hB4.size⟩, ((hB9.setCell (by simp) v0).setCell (by simp) v1).setCell (by simp) v2⟩
          clear hP hC hQ fP fC fQ
          cases hfit : fitsR (joinR R R2)
          · have hbv : boundV A1 (pn + pn2) c1 A2 n2' c2' A3 n3' c3' (joinR R R2) = .tuple #[.agg #[.slice none 0 0, .slice none 0 0, .slice none 0 0], .int .i64 4] := by rw [boundV, hfit]; rfl
            rw [hbv]
            have HBV := Lib.hid hbv
            clear hfit hbv
            go_wp2_with fail
            rw [show w.heap.size + 1 + 1 = w.heap.size + 2 from rfl]
            obtain ⟨WF, hWF⟩ : ∃ WF, WF = ((W9.setCell ⟨w.heap.size + 2, 0, none⟩ (.slice none 0 0)).setCell ⟨w.heap.size + 2, 1, none⟩ (.slice none 0 0)).setCell ⟨w.heap.size + 2, 2, none⟩ (.slice none 0 0) := ⟨_, rfl⟩
            rw [← hWF]
            have hZF : BK WF (w.heap.size + 2) 26 #[.slice none 0 0, .slice none 0 0, .slice none 0 0] := by rw [hWF]; exact ((hZ9.set_ 0 _).set_ 1 _).set_ 2 _
            have FF := FIN.out (.slice none 0 0) (.slice none 0 0) (.slice none 0 0)
            rw [← hWF] at FF
            have z0 := hZF.cell 0
            have z1 := hZF.cell 1
            have z2 := hZF.cell 2
            simp only [List.getElem?_toArray, List.getElem?_cons_zero, List.getElem?_cons_succ] at z0 z1 z2
            have HFF := Lib.hid FF
            clear FF hWF
            refine bodyPost_ret (v := .tuple #[.agg #[.slice none 0 0, .slice none 0 0, .slice none 0 0], .int .i64 4]) (by simp [results, Tryd.results56, go_sem, z0, z1, z2]) rfl ⟨A1, c1, A2, n2', c2', A3, n3', c3', by rw [HBV.out], HFF.out⟩
          · have hbv : boundV A1 (pn + pn2) c1 A2 n2' c2' A3 n3' c3' (joinR R R2) = .tuple #[.agg #[.slice A1 (pn + pn2) c1, .slice A2 n2' c2', .slice A3 n3' c3'], .int .i64 0] := by rw [boundV, hfit]; rfl
            rw [hbv]
            have HBV := Lib.hid hbv
            clear hfit hbv
            go_wp2_with fail
            rw [show w.heap.size + 1 + 1 = w.heap.size + 2 from rfl]
            obtain ⟨WF, hWF⟩ : ∃ WF, WF = ((W9.setCell ⟨w.heap.size + 2, 0, none⟩ (.slice A1 (pn + pn2) c1)).setCell ⟨w.heap.size + 2, 1, none⟩ (.slice A2 n2' c2')).setCell ⟨w.heap.size + 2, 2, none⟩ (.slice A3 n3' c3') := ⟨_, rfl⟩
            rw [← hWF]
            have hZF : BK WF (w.heap.size + 2) 26 #[.slice A1 (pn + pn2) c1, .slice A2 n2' c2', .slice A3 n3' c3'] := by rw [hWF]; exact ((hZ9.set_ 0 _).set_ 1 _).set_ 2 _
            have FF := FIN.out (.slice A1 (pn + pn2) c1) (.slice A2 n2' c2') (.slice A3 n3' c3')
            rw [← hWF] at FF
            have z0 := hZF.cell 0
            have z1 := hZF.cell 1
            have z2 := hZF.cell 2
            simp only [List.getElem?_toArray, List.getElem?_cons_zero, List.getElem?_cons_succ] at z0 z1 z2
            have HFF := Lib.hid FF
            clear FF hWF
            refine bodyPost_ret (v := .tuple #[.agg #[.slice A1 (pn + pn2) c1, .slice A2 n2' c2', .slice A3 n3' c3'], .int .i64 0]) (by simp [results, Tryd.results56, go_sem, z0, z1, z2]) rfl ⟨A1, c1, A2, n2', c2', A3, n3', c3', by rw [HBV.out], HFF.out⟩
end Go.Proofs.YtijcbfhlhgjedaaDoor

/- hairpinref01.Part, walked. -/
namespace Go.Proofs.YtijcbfhlhgjedaaDoor
open Go.RowKit Go.Shelf Go.Sort Go.Proofs

/-- What of a piece lies between two places. -/
def prt (f t : Int) (e : Int × Piece) : Option Piece := if max f e.1 < min t (e.1 + e.2.len) then some { e.2 with len := min t (e.1 + e.2.len) - max f e.1 } else none
def prtC (f t : Int) (c : Crest) : Option Crest := if inR c.pos f t = true then some ⟨c.pos - f, c.siz⟩ else none
def prtJ (f t : Int) (c : Junc) : Option Junc := if inR c.pos f t = true then some ⟨c.pos - f, c.arms, c.way⟩ else none
def partR (f t : Int) (R : Road) : Road := ⟨(its 0 R.ps).filterMap (prt f t), R.cs.filterMap (prtC f t), R.js.filterMap (prtJ f t)⟩
theorem fm_snoc {α β : Type} (g : α → Option β) (l : List α) (x : α) : (l ++ [x]).filterMap g = l.filterMap g ++ (g x).toList := by
  rw [List.filterMap_append]
  congr 1
theorem wpCalls_wnamed {P : Program} {f : FuncId} {args : Array Value} {w : World} {Φ : Ending → World → Prop} (h : ∀ W, W = w → Calls P f args W Φ) : Calls P f args w Φ := h w rfl
end Go.Proofs.YtijcbfhlhgjedaaDoor

/- hairpinref01.fits, hairpinref01.Join, walked. -/
namespace Go.Proofs.YtijcbfhlhgjedaaDoor
open Go.RowKit Go.Shelf Go.Sort Go.Proofs

theorem sum_nn : ∀ {ps : List Piece}, (∀ q ∈ ps, 1 ≤ q.len) → 0 ≤ sumL ps
  | [], _ => Int.le_refl 0
  | p :: ps, h => by
    have h1 := h p (List.mem_cons_self ..)
    have h2 := sum_nn (ps := ps) (fun q hq => h q (List.mem_cons_of_mem _ hq))
    rw [sumL_cons]; omega
end Go.Proofs.YtijcbfhlhgjedaaDoor
