/- The document's test of calls: which calls are as defined. -/
import Derived.Test.YtijcbfhlhgjedaaDoorPCCallsB
import Derived.Test.YtijcbfhlhgjedaaDoorPCRef3
namespace Go.Proofs.YtijcbfhlhgjedaaDoor
open Go.RowKit Go.Shelf Go.Sort Go.Proofs

section
variable {P : Program} {ops : Array Oper} {C : World → Prop} {k : Nat} {ns ks : List Nat} {Lq : Act → Fact → Prop} {o : Oper} {rest : List Oper} {a : Act} {Φ : Fact}
/-- An operation of the chain that is no call of a function, with a guard that holds. -/
theorem wpC_vg {ι : Type} (v : ι → Value) (G : ι → Fact) (h1 : k ∉ ns) (h2 : k ∈ ks) (hg : Region.wanted o (yielded ops a.tmps) = true) (hst : stable Φ) (hG : ∀ i, stable (G i))
    (hc : ∀ w, C w → Φ w → ∃ i w', (execOp a.eval o).run P w = .ok (.value (v i)) w' ∧ G i w' ∧ Below w.heap.size w w') (h : ∀ i, stable (fun x => Φ x ∧ G i x) → wpC P ops C ns ks Lq (k + 1) rest (a.put o.dst (v i)) (fun x => Φ x ∧ G i x)) :
    wpC P ops C ns ks Lq k (o :: rest) a Φ := by
  unfold wpC
  rw [if_neg h1, if_pos hg, if_pos h2]
  intro w hw hp
  unfold callAt
  obtain ⟨i, w', hx, h3, h4⟩ := hc w hw hp
  rw [hx]
  have hs : stable (fun x => Φ x ∧ G i x) := fun x y hxy hb => ⟨hst x y hxy.1 hb, hG i x y hxy.2 hb⟩
  exact ⟨h4, _, hs, fun x hx => hx.1, ⟨hst w w' hp h4, h3⟩, h i hs⟩
end
theorem in3_bel (x lo hi : Int) (w : World) :
    Calls Tryd.prog 65 #[.int .i64 x, .int .i64 lo, .int .i64 hi] w fun e w' => e = .returned (.bool (inR x lo hi)) ∧ Below w.heap.size w w' :=
  (in3_any x lo hi w).mono fun _ _ ⟨a, b⟩ => ⟨a, b ▸ Below.refl _ _⟩
set_option maxRecDepth 100000 in
set_option maxHeartbeats 8000000 in
theorem RCalls_any (ka : Option Addr) (kn kc : Nat) (cs : List CallR) (pa : Option Addr) (pn pc : Nat) (ca : Option Addr) (cn cc : Nat) (ja : Option Addr) (jn jc : Nat) (R : Road) (w : World) (h : RD w w.heap.size pa pn ca cn ja jn R) (hv : OK R)
    (hk : SL caC 5 w w.heap.size ka kn cs) (hkn : kn ≤ 100000) :
    Calls Tryd.prog 32 #[.agg #[.slice pa pn pc, .slice ca cn cc, .slice ja jn jc], .slice ka kn kc] w fun e w' => e = .returned (.bool (cB (sumL R.ps) cs)) ∧ Below w.heap.size w w' := by
  have HR := Lib.hid h
  have HK := Lib.hid hk
  have HL := Lib.hid hk.1
  have HV := Lib.hid hv
  have hmo : Tryd.prog.follows .mixedOrders = true := by kernel_rfl
  clear h hk hv
  obtain ⟨w0, hw0⟩ : ∃ w0, w0 = w.alloc (.cells #[.slice pa pn pc, .slice ca cn cc, .slice ja jn jc] 26) := ⟨_, rfl⟩
  have hB0 : Below w.heap.size w w0 := by rw [hw0]; exact (Below.refl w.heap.size w).alloc (Nat.le_refl _) _
  have HX0 : Hid (BK w0 w.heap.size 26 #[.slice pa pn pc, .slice ca cn cc, .slice ja jn jc]) := by show BK _ _ _ _; rw [hw0]; exact BK.new w _ _
  have hz0 := hB0.size
  go_enter Tryd.func32, Tryd.ntmps32
  go_wp2_with fail
  rw [← hw0]
  clear hw0
  go_loopw [5] (fun i wr => ∃ k : Nat, k ≤ kn ∧ i = .int .i64 k ∧ Below w0.heap.size w0 wr ∧ Hid (∀ i, i < k → kAt (sumL R.ps) cs i))
    (fun i _ => kn - (intOf i).toNat)
  case atStart => exact ⟨0, Nat.zero_le _, rfl, Below.refl _ _, by simp [Hid]⟩
  case round =>
    obtain ⟨m, hm, rfl, hbr, hall⟩ := hrel
    have hBr := hB0.trans (hbr.mono hz0)
    have hXr := HX0.out.below hbr HX0.out.lt
    have hzr := hbr.size
    by_cases hlt : m < kn
    case neg =>
      obtain rfl : m = kn := by omega
      have hend : Hid (cB (sumL R.ps) cs = decide ((m : Int) ≤ 300)) := by
        show _ = _
        by_cases h3 : (m : Int) ≤ 300
        · rw [cB_ok ⟨by rw [← HL.out]; omega, fun i hi => hall.out i (by rw [HL.out]; exact hi)⟩]; simp; omega
        · rw [cB_bad (fun q => h3 (by have := q.l1; rw [← HL.out] at this; omega))]; simp; omega
      go_wp2_with fail
      go_ret
      exact ⟨ret_bool hend.out.symm, hBr⟩
    have hkl : m < cs.length := by rw [← HL.out]; exact hlt
    have hw := HK.out.grow hBr hBr.size
    obtain ⟨b, off, hA, hbB, c0, c1, c2, c3, c4⟩ := KS5.at_ hw (k := m) hkl
    have hstep : Hid (∀ (hh : inR cs[m].place 0 (sumL R.ps) = true ∧ inR cs[m].lasts 0 maxM = true ∧ inR cs[m].lead 0 maxM = true ∧ inR cs[m].ahead 0 maxM = true ∧ inR cs[m].value 0 100 = true ∧ ∀ d, 0 < m → cs[m-1]? = some d → d.place ≤ cs[m].place), ∀ i, i < m + 1 → kAt (sumL R.ps) cs i) := by
      intro hh i hi
      rcases Nat.lt_or_ge i m with h | h
      · exact hall.out i h
      · obtain rfl : i = m := by omega
        intro c hc
        rw [List.getElem?_eq_getElem hkl] at hc
        cases hc
        exact hh
    have hno : Hid (∀ (hh : ¬ (inR cs[m].place 0 (sumL R.ps) = true ∧ inR cs[m].lasts 0 maxM = true ∧ inR cs[m].lead 0 maxM = true ∧ inR cs[m].ahead 0 maxM = true ∧ inR cs[m].value 0 100 = true ∧ ∀ d, 0 < m → cs[m-1]? = some d → d.place ≤ cs[m].place)), cB (sumL R.ps) cs = false) := by
      intro hh
      exact cB_bad (fun q => hh (q.k m hkl _ (List.getElem?_eq_getElem hkl)))
    have hprev : ∃ d : CallR, Hid (0 < m → cs[m-1]? = some d) ∧ (0 < m → wr.cell? ⟨b, off + (m-1) * 5, none⟩ = some (.int .i64 d.place)) := by
      rcases Nat.eq_zero_or_pos m with h0 | h0
      · exact ⟨⟨0, 0, 0, 0, 0⟩, fun h => by omega, fun h => by omega⟩
      · obtain ⟨b2, off2, hA2, _, c02, _⟩ := KS5.at_ hw (k := m - 1) (by omega)
        rw [hA] at hA2
        cases hA2
        exact ⟨cs[m-1], fun _ => List.getElem?_eq_getElem (by omega), fun _ => c02⟩
    obtain ⟨d, hd, cd⟩ := hprev
    generalize cs[m]'hkl = c at c0 c1 c2 c3 c4 hstep hno
    clear hw hkl hall
    have hm1 : (0 : Int) ≤ (m : Int) := by omega
    have hm2 : (m : Int) < (kn : Int) := by omega
    subst hA
    obtain ⟨Wb, hWb⟩ : ∃ Wb, Wb = wr.alloc (.cells #[.int .i64 c.place, .int .i64 c.lasts, .int .i64 c.lead, .int .i64 c.ahead, .int .i64 c.value] 75) := ⟨_, rfl⟩
    have hbb : Below wr.heap.size wr Wb := by rw [hWb]; exact (Below.refl _ _).alloc (Nat.le_refl _) _
    have hCb : BK Wb wr.heap.size 75 #[.int .i64 c.place, .int .i64 c.lasts, .int .i64 c.lead, .int .i64 c.ahead, .int .i64 c.value] := by rw [hWb]; exact BK.new _ _ _
    have hXb := hXr.below hbb hXr.lt
    have cdb : 0 < m → Wb.cell? ⟨b, off + (m-1) * 5, none⟩ = some (.int .i64 d.place) := fun h0 => (hbb.cell (p := ⟨b, off + (m-1) * 5, none⟩) hbB).trans (cd h0)
    have hBb := hBr.trans (hbb.mono hBr.size)
    have hbw := hbr.trans (hbb.mono hzr)
    clear hXr cd
    go_wp2_with fail
    rw [← hWb]
    clear hWb c0 c1 c2 c3 c4
    have x0 := fun d os => cell_regrown (hXb.cell 0) d os
    have x1 := fun d os => cell_regrown (hXb.cell 1) d os
    have x2 := fun d os => cell_regrown (hXb.cell 2) d os
    have y0 := fun d os => cell_regrown (hCb.cell 0) d os
    have y1 := fun d os => cell_regrown (hCb.cell 1) d os
    have y2 := fun d os => cell_regrown (hCb.cell 2) d os
    have y3 := fun d os => cell_regrown (hCb.cell 3) d os
    have y4 := fun d os => cell_regrown (hCb.cell 4) d os
    have HLn := Lib.hid (fun (W : World) (hW : RD W W.heap.size pa pn ca cn ja jn R) => R3Length_any pa pn pc ca cn cc ja jn jc R W hW HV.out)
    have HG := Lib.hid (fun d os => HR.out.grow (hBb.trans ((below_regrown Wb d os).mono hBb.size)) (Nat.le_trans hBb.size (below_regrown Wb d os).size))
    have HN := Lib.hid (fun (x lo hi : Int) (W : World) => in3_bel x lo hi W)
    cases e1 : inR c.place 0 (sumL R.ps)
    case false =>
      have hc := Lib.hid (hno.out (by simp [e1]))
      have E1 := Lib.hid e1
      clear e1
      clear hno hstep
      refine wp_region_ch 44 [3, 4, 6, 9, 21, 24, 27, 30, 33, 36, 39, 42] hmo (by kernel_rfl) ?_
      simp only [List.take_succ_cons, List.take_zero, List.drop_succ_cons, List.drop_zero]
      repeat (with_reducible refine wpC_q (by decide) (by decide) (fun K hK => ?_); go_simp; (try rw [if_neg (by simp [undef])]); refine hK _ ?_; clear hK K)
      with_reducible refine wpC_cg (ι := Unit) 23 #[.agg #[.slice pa pn pc, .slice ca cn cc, .slice ja jn jc]] (fun _ => .int .i64 (sumL R.ps)) (fun _ _ => True) (by decide) (by decide) (by go_simp) (fun w => by go_simp) stable_true (fun _ => stable_true) (fun W hW _ => ?_) (fun i0 hs0 => ?_)
      · obtain ⟨pp, rfl⟩ := hW
        refine (HLn.out _ (HG.out _ _)).mono ?_
        rintro e w' ⟨rfl, hbl⟩
        exact ⟨(), rfl, trivial, hbl⟩
      repeat (with_reducible refine wpC_q (by decide) (by decide) (fun K hK => ?_); go_simp; (try rw [if_neg (by simp [undef])]); refine hK _ ?_; clear hK K)
      with_reducible refine wpC_cg (ι := Unit) 65 #[.int .i64 c.place, .int .i64 0, .int .i64 (sumL R.ps)] (fun _ => .bool false) (fun _ _ => True) (by decide) (by decide) (by go_simp) (fun w => by go_simp) hs0 (fun _ => stable_true) (fun W hW _ => ?_) (fun i1 hs1 => ?_)
      · obtain ⟨pp, rfl⟩ := hW
        refine (HN.out _ _ _ _).mono ?_
        rintro e w' ⟨rfl, hbl⟩
        exact ⟨(), by rw [E1.out], trivial, hbl⟩
      repeat (with_reducible refine wpC_q (by decide) (by decide) (fun K hK => ?_); go_simp; (try rw [if_neg (by simp [undef])]); refine hK _ ?_; clear hK K)
      with_reducible refine wpC_vg (ι := Unit) (fun _ => .bool true) (fun _ _ => True) (by decide) (by decide) (by go_simp) hs1 (fun _ => stable_true) (fun W _ _ => ⟨(), W, by go_simp, trivial, Below.refl _ _⟩) (fun i2 hs2 => ?_)
      repeat (with_reducible refine wpC_q (by decide) (by decide) (fun K hK => ?_); go_simp; (try rw [if_neg (by simp [undef])]); refine hK _ ?_; clear hK K)
      with_reducible refine wpC_off (by decide) (by go_simp) ?_
      repeat (with_reducible refine wpC_q (by decide) (by decide) (fun K hK => ?_); go_simp; (try rw [if_neg (by simp [undef])]); refine hK _ ?_; clear hK K)
      with_reducible refine wpC_vg (ι := Unit) (fun _ => .bool true) (fun _ _ => True) (by decide) (by decide) (by go_simp) hs2 (fun _ => stable_true) (fun W _ _ => ⟨(), W, by go_simp, trivial, Below.refl _ _⟩) (fun i3 hs3 => ?_)
      repeat (with_reducible refine wpC_q (by decide) (by decide) (fun K hK => ?_); go_simp; (try rw [if_neg (by simp [undef])]); refine hK _ ?_; clear hK K)
      with_reducible refine wpC_off (by decide) (by go_simp) ?_
      repeat (with_reducible refine wpC_q (by decide) (by decide) (fun K hK => ?_); go_simp; (try rw [if_neg (by simp [undef])]); refine hK _ ?_; clear hK K)
      with_reducible refine wpC_vg (ι := Unit) (fun _ => .bool true) (fun _ _ => True) (by decide) (by decide) (by go_simp) hs3 (fun _ => stable_true) (fun W _ _ => ⟨(), W, by go_simp, trivial, Below.refl _ _⟩) (fun i4 hs4 => ?_)
      repeat (with_reducible refine wpC_q (by decide) (by decide) (fun K hK => ?_); go_simp; (try rw [if_neg (by simp [undef])]); refine hK _ ?_; clear hK K)
      with_reducible refine wpC_off (by decide) (by go_simp) ?_
      repeat (with_reducible refine wpC_q (by decide) (by decide) (fun K hK => ?_); go_simp; (try rw [if_neg (by simp [undef])]); refine hK _ ?_; clear hK K)
      with_reducible refine wpC_vg (ι := Unit) (fun _ => .bool true) (fun _ _ => True) (by decide) (by decide) (by go_simp) hs4 (fun _ => stable_true) (fun W _ _ => ⟨(), W, by go_simp, trivial, Below.refl _ _⟩) (fun i5 hs5 => ?_)
      repeat (with_reducible refine wpC_q (by decide) (by decide) (fun K hK => ?_); go_simp; (try rw [if_neg (by simp [undef])]); refine hK _ ?_; clear hK K)
      with_reducible refine wpC_off (by decide) (by go_simp) ?_
      repeat (with_reducible refine wpC_q (by decide) (by decide) (fun K hK => ?_); go_simp; (try rw [if_neg (by simp [undef])]); refine hK _ ?_; clear hK K)
      with_reducible refine wpC_vg (ι := Unit) (fun _ => .bool true) (fun _ _ => True) (by decide) (by decide) (by go_simp) hs5 (fun _ => stable_true) (fun W _ _ => ⟨(), W, by go_simp, trivial, Below.refl _ _⟩) (fun i6 hs6 => ?_)
      repeat (with_reducible refine wpC_q (by decide) (by decide) (fun K hK => ?_); go_simp; (try rw [if_neg (by simp [undef])]); refine hK _ ?_; clear hK K)
      with_reducible refine wpC_off (by decide) (by go_simp) ?_
      repeat (with_reducible refine wpC_q (by decide) (by decide) (fun K hK => ?_); go_simp; (try rw [if_neg (by simp [undef])]); refine hK _ ?_; clear hK K)
      refine wpC_nil ?_
      intro w2 hb2 _
      clear x0 x1 x2 y0 y1 y2 y3 y4 HLn HG HN hs0 hs1 hs2 hs3 hs4 hs5 hs6
      go_wp2_with fail
      go_ret
      exact ⟨ret_bool hc.out.symm, hBb.trans (hb2.mono hBb.size)⟩
    have E1 := Lib.hid e1
    by_cases hm0 : 0 < m
    case pos =>
      have hg : decide ((0 : Int) < (m : Int)) = true := by simp; omega
      have z0 := fun d os => cell_regrown (cdb hm0) d os
      have hwm : IntKind.i64.wrap ((m : Int) - 1) = ((m - 1 : Nat) : Int) := (IntWalk.i64_in _ (by omega)).trans (by omega)
      have hm3 : ((m - 1 : Nat) : Int) < (kn : Int) := by omega
      by_cases hlt2 : c.place < d.place
      case pos =>
        have g3 : decide (c.place < d.place) = true := by simpa using hlt2
        have hc := Lib.hid (hno.out (by rintro ⟨-, -, -, -, -, h⟩; have := h d hm0 (hd.out hm0); omega))
        clear hlt2 e1
        clear hno hstep
        refine wp_region_ch 44 [3, 4, 6, 9, 21, 24, 27, 30, 33, 36, 39, 42] hmo (by kernel_rfl) ?_
        simp only [List.take_succ_cons, List.take_zero, List.drop_succ_cons, List.drop_zero]
        repeat (with_reducible refine wpC_q (by decide) (by decide) (fun K hK => ?_); go_simp; (try rw [if_neg (by simp [undef])]); refine hK _ ?_; clear hK K)
        with_reducible refine wpC_cg (ι := Unit) 23 #[.agg #[.slice pa pn pc, .slice ca cn cc, .slice ja jn jc]] (fun _ => .int .i64 (sumL R.ps)) (fun _ _ => True) (by decide) (by decide) (by go_simp) (fun w => by go_simp) stable_true (fun _ => stable_true) (fun W hW _ => ?_) (fun i0 hs0 => ?_)
        · obtain ⟨pp, rfl⟩ := hW
          refine (HLn.out _ (HG.out _ _)).mono ?_
          rintro e w' ⟨rfl, hbl⟩
          exact ⟨(), rfl, trivial, hbl⟩
        repeat (with_reducible refine wpC_q (by decide) (by decide) (fun K hK => ?_); go_simp; (try rw [if_neg (by simp [undef])]); refine hK _ ?_; clear hK K)
        with_reducible refine wpC_cg (ι := Unit) 65 #[.int .i64 c.place, .int .i64 0, .int .i64 (sumL R.ps)] (fun _ => .bool true) (fun _ _ => True) (by decide) (by decide) (by go_simp) (fun w => by go_simp) hs0 (fun _ => stable_true) (fun W hW _ => ?_) (fun i1 hs1 => ?_)
        · obtain ⟨pp, rfl⟩ := hW
          refine (HN.out _ _ _ _).mono ?_
          rintro e w' ⟨rfl, hbl⟩
          exact ⟨(), by rw [E1.out], trivial, hbl⟩
        repeat (with_reducible refine wpC_q (by decide) (by decide) (fun K hK => ?_); go_simp; (try rw [if_neg (by simp [undef])]); refine hK _ ?_; clear hK K)
        with_reducible refine wpC_vg (ι := Unit) (fun _ => .bool false) (fun _ _ => True) (by decide) (by decide) (by go_simp) hs1 (fun _ => stable_true) (fun W _ _ => ⟨(), W, by go_simp, trivial, Below.refl _ _⟩) (fun i2 hs2 => ?_)
        repeat (with_reducible refine wpC_q (by decide) (by decide) (fun K hK => ?_); go_simp; (try rw [if_neg (by simp [undef])]); refine hK _ ?_; clear hK K)
        with_reducible refine wpC_vg (ι := Unit) (fun _ => .bool true) (fun _ _ => True) (by decide) (by decide) (by go_simp) hs2 (fun _ => stable_true) (fun W _ _ => ⟨(), W, by go_simp, trivial, Below.refl _ _⟩) (fun i3 hs3 => ?_)
        repeat (with_reducible refine wpC_q (by decide) (by decide) (fun K hK => ?_); go_simp; (try rw [if_neg (by simp [undef])]); refine hK _ ?_; clear hK K)
        with_reducible refine wpC_vg (ι := Unit) (fun _ => .bool true) (fun _ _ => True) (by decide) (by decide) (by go_simp) hs3 (fun _ => stable_true) (fun W _ _ => ⟨(), W, by go_simp, trivial, Below.refl _ _⟩) (fun i4 hs4 => ?_)
        repeat (with_reducible refine wpC_q (by decide) (by decide) (fun K hK => ?_); go_simp; (try rw [if_neg (by simp [undef])]); refine hK _ ?_; clear hK K)
        with_reducible refine wpC_off (by decide) (by go_simp) ?_
        repeat (with_reducible refine wpC_q (by decide) (by decide) (fun K hK => ?_); go_simp; (try rw [if_neg (by simp [undef])]); refine hK _ ?_; clear hK K)
        with_reducible refine wpC_vg (ι := Unit) (fun _ => .bool true) (fun _ _ => True) (by decide) (by decide) (by go_simp) hs4 (fun _ => stable_true) (fun W _ _ => ⟨(), W, by go_simp, trivial, Below.refl _ _⟩) (fun i5 hs5 => ?_)
        repeat (with_reducible refine wpC_q (by decide) (by decide) (fun K hK => ?_); go_simp; (try rw [if_neg (by simp [undef])]); refine hK _ ?_; clear hK K)
        with_reducible refine wpC_off (by decide) (by go_simp) ?_
        repeat (with_reducible refine wpC_q (by decide) (by decide) (fun K hK => ?_); go_simp; (try rw [if_neg (by simp [undef])]); refine hK _ ?_; clear hK K)
        with_reducible refine wpC_vg (ι := Unit) (fun _ => .bool true) (fun _ _ => True) (by decide) (by decide) (by go_simp) hs5 (fun _ => stable_true) (fun W _ _ => ⟨(), W, by go_simp, trivial, Below.refl _ _⟩) (fun i6 hs6 => ?_)
        repeat (with_reducible refine wpC_q (by decide) (by decide) (fun K hK => ?_); go_simp; (try rw [if_neg (by simp [undef])]); refine hK _ ?_; clear hK K)
        with_reducible refine wpC_off (by decide) (by go_simp) ?_
        repeat (with_reducible refine wpC_q (by decide) (by decide) (fun K hK => ?_); go_simp; (try rw [if_neg (by simp [undef])]); refine hK _ ?_; clear hK K)
        with_reducible refine wpC_vg (ι := Unit) (fun _ => .bool true) (fun _ _ => True) (by decide) (by decide) (by go_simp) hs6 (fun _ => stable_true) (fun W _ _ => ⟨(), W, by go_simp, trivial, Below.refl _ _⟩) (fun i7 hs7 => ?_)
        repeat (with_reducible refine wpC_q (by decide) (by decide) (fun K hK => ?_); go_simp; (try rw [if_neg (by simp [undef])]); refine hK _ ?_; clear hK K)
        with_reducible refine wpC_off (by decide) (by go_simp) ?_
        repeat (with_reducible refine wpC_q (by decide) (by decide) (fun K hK => ?_); go_simp; (try rw [if_neg (by simp [undef])]); refine hK _ ?_; clear hK K)
        refine wpC_nil ?_
        intro w2 hb2 _
        clear x0 x1 x2 y0 y1 y2 y3 y4 HLn HG HN hs0 hs1 hs2 hs3 hs4 hs5 hs6 hs7
        go_wp2_with fail
        go_ret
        exact ⟨ret_bool hc.out.symm, hBb.trans (hb2.mono hBb.size)⟩
      have g3 : decide (c.place < d.place) = false := by simpa using hlt2
      cases f0 : inR c.lasts 0 1125899906842624
      case false =>
        have hc := Lib.hid (hno.out (by rintro ⟨-, q0, q1, q2, q3, -⟩; have := q0.symm.trans f0; cases this))
        have F0 := Lib.hid f0
        clear f0
        clear hno hstep
        refine wp_region_ch 44 [3, 4, 6, 9, 21, 24, 27, 30, 33, 36, 39, 42] hmo (by kernel_rfl) ?_
        simp only [List.take_succ_cons, List.take_zero, List.drop_succ_cons, List.drop_zero]
        repeat (with_reducible refine wpC_q (by decide) (by decide) (fun K hK => ?_); go_simp; (try rw [if_neg (by simp [undef])]); refine hK _ ?_; clear hK K)
        with_reducible refine wpC_cg (ι := Unit) 23 #[.agg #[.slice pa pn pc, .slice ca cn cc, .slice ja jn jc]] (fun _ => .int .i64 (sumL R.ps)) (fun _ _ => True) (by decide) (by decide) (by go_simp) (fun w => by go_simp) stable_true (fun _ => stable_true) (fun W hW _ => ?_) (fun i0 hs0 => ?_)
        · obtain ⟨pp, rfl⟩ := hW
          refine (HLn.out _ (HG.out _ _)).mono ?_
          rintro e w' ⟨rfl, hbl⟩
          exact ⟨(), rfl, trivial, hbl⟩
        repeat (with_reducible refine wpC_q (by decide) (by decide) (fun K hK => ?_); go_simp; (try rw [if_neg (by simp [undef])]); refine hK _ ?_; clear hK K)
        with_reducible refine wpC_cg (ι := Unit) 65 #[.int .i64 c.place, .int .i64 0, .int .i64 (sumL R.ps)] (fun _ => .bool true) (fun _ _ => True) (by decide) (by decide) (by go_simp) (fun w => by go_simp) hs0 (fun _ => stable_true) (fun W hW _ => ?_) (fun i1 hs1 => ?_)
        · obtain ⟨pp, rfl⟩ := hW
          refine (HN.out _ _ _ _).mono ?_
          rintro e w' ⟨rfl, hbl⟩
          exact ⟨(), by rw [E1.out], trivial, hbl⟩
        repeat (with_reducible refine wpC_q (by decide) (by decide) (fun K hK => ?_); go_simp; (try rw [if_neg (by simp [undef])]); refine hK _ ?_; clear hK K)
        with_reducible refine wpC_vg (ι := Unit) (fun _ => .bool false) (fun _ _ => True) (by decide) (by decide) (by go_simp) hs1 (fun _ => stable_true) (fun W _ _ => ⟨(), W, by go_simp, trivial, Below.refl _ _⟩) (fun i2 hs2 => ?_)
        repeat (with_reducible refine wpC_q (by decide) (by decide) (fun K hK => ?_); go_simp; (try rw [if_neg (by simp [undef])]); refine hK _ ?_; clear hK K)
        with_reducible refine wpC_vg (ι := Unit) (fun _ => .bool true) (fun _ _ => True) (by decide) (by decide) (by go_simp) hs2 (fun _ => stable_true) (fun W _ _ => ⟨(), W, by go_simp, trivial, Below.refl _ _⟩) (fun i3 hs3 => ?_)
        repeat (with_reducible refine wpC_q (by decide) (by decide) (fun K hK => ?_); go_simp; (try rw [if_neg (by simp [undef])]); refine hK _ ?_; clear hK K)
        with_reducible refine wpC_vg (ι := Unit) (fun _ => .bool false) (fun _ _ => True) (by decide) (by decide) (by go_simp) hs3 (fun _ => stable_true) (fun W _ _ => ⟨(), W, by go_simp, trivial, Below.refl _ _⟩) (fun i4 hs4 => ?_)
        repeat (with_reducible refine wpC_q (by decide) (by decide) (fun K hK => ?_); go_simp; (try rw [if_neg (by simp [undef])]); refine hK _ ?_; clear hK K)
        with_reducible refine wpC_cg (ι := Unit) 65 #[.int .i64 c.lasts, .int .i64 0, .int .i64 1125899906842624] (fun _ => .bool false) (fun _ _ => True) (by decide) (by decide) (by go_simp) (fun w => by go_simp) hs4 (fun _ => stable_true) (fun W hW _ => ?_) (fun i5 hs5 => ?_)
        · obtain ⟨pp, rfl⟩ := hW
          refine (HN.out _ _ _ _).mono ?_
          rintro e w' ⟨rfl, hbl⟩
          exact ⟨(), by rw [F0.out], trivial, hbl⟩
        repeat (with_reducible refine wpC_q (by decide) (by decide) (fun K hK => ?_); go_simp; (try rw [if_neg (by simp [undef])]); refine hK _ ?_; clear hK K)
        with_reducible refine wpC_vg (ι := Unit) (fun _ => .bool true) (fun _ _ => True) (by decide) (by decide) (by go_simp) hs5 (fun _ => stable_true) (fun W _ _ => ⟨(), W, by go_simp, trivial, Below.refl _ _⟩) (fun i6 hs6 => ?_)
        repeat (with_reducible refine wpC_q (by decide) (by decide) (fun K hK => ?_); go_simp; (try rw [if_neg (by simp [undef])]); refine hK _ ?_; clear hK K)
        with_reducible refine wpC_off (by decide) (by go_simp) ?_
        repeat (with_reducible refine wpC_q (by decide) (by decide) (fun K hK => ?_); go_simp; (try rw [if_neg (by simp [undef])]); refine hK _ ?_; clear hK K)
        with_reducible refine wpC_vg (ι := Unit) (fun _ => .bool true) (fun _ _ => True) (by decide) (by decide) (by go_simp) hs6 (fun _ => stable_true) (fun W _ _ => ⟨(), W, by go_simp, trivial, Below.refl _ _⟩) (fun i7 hs7 => ?_)
        repeat (with_reducible refine wpC_q (by decide) (by decide) (fun K hK => ?_); go_simp; (try rw [if_neg (by simp [undef])]); refine hK _ ?_; clear hK K)
        with_reducible refine wpC_off (by decide) (by go_simp) ?_
        repeat (with_reducible refine wpC_q (by decide) (by decide) (fun K hK => ?_); go_simp; (try rw [if_neg (by simp [undef])]); refine hK _ ?_; clear hK K)
        with_reducible refine wpC_vg (ι := Unit) (fun _ => .bool true) (fun _ _ => True) (by decide) (by decide) (by go_simp) hs7 (fun _ => stable_true) (fun W _ _ => ⟨(), W, by go_simp, trivial, Below.refl _ _⟩) (fun i8 hs8 => ?_)
        repeat (with_reducible refine wpC_q (by decide) (by decide) (fun K hK => ?_); go_simp; (try rw [if_neg (by simp [undef])]); refine hK _ ?_; clear hK K)
        with_reducible refine wpC_off (by decide) (by go_simp) ?_
        repeat (with_reducible refine wpC_q (by decide) (by decide) (fun K hK => ?_); go_simp; (try rw [if_neg (by simp [undef])]); refine hK _ ?_; clear hK K)
        refine wpC_nil ?_
        intro w2 hb2 _
        clear x0 x1 x2 y0 y1 y2 y3 y4 HLn HG HN hs0 hs1 hs2 hs3 hs4 hs5 hs6 hs7 hs8
        go_wp2_with fail
        go_ret
        exact ⟨ret_bool hc.out.symm, hBb.trans (hb2.mono hBb.size)⟩
      have F0 := Lib.hid f0
      clear f0
      cases f1 : inR c.lead 0 1125899906842624
      case false =>
        have hc := Lib.hid (hno.out (by rintro ⟨-, q0, q1, q2, q3, -⟩; have := q1.symm.trans f1; cases this))
        have F1 := Lib.hid f1
        clear f1
        clear hno hstep
        refine wp_region_ch 44 [3, 4, 6, 9, 21, 24, 27, 30, 33, 36, 39, 42] hmo (by kernel_rfl) ?_
        simp only [List.take_succ_cons, List.take_zero, List.drop_succ_cons, List.drop_zero]
        repeat (with_reducible refine wpC_q (by decide) (by decide) (fun K hK => ?_); go_simp; (try rw [if_neg (by simp [undef])]); refine hK _ ?_; clear hK K)
        with_reducible refine wpC_cg (ι := Unit) 23 #[.agg #[.slice pa pn pc, .slice ca cn cc, .slice ja jn jc]] (fun _ => .int .i64 (sumL R.ps)) (fun _ _ => True) (by decide) (by decide) (by go_simp) (fun w => by go_simp) stable_true (fun _ => stable_true) (fun W hW _ => ?_) (fun i0 hs0 => ?_)
        · obtain ⟨pp, rfl⟩ := hW
          refine (HLn.out _ (HG.out _ _)).mono ?_
          rintro e w' ⟨rfl, hbl⟩
          exact ⟨(), rfl, trivial, hbl⟩
        repeat (with_reducible refine wpC_q (by decide) (by decide) (fun K hK => ?_); go_simp; (try rw [if_neg (by simp [undef])]); refine hK _ ?_; clear hK K)
        with_reducible refine wpC_cg (ι := Unit) 65 #[.int .i64 c.place, .int .i64 0, .int .i64 (sumL R.ps)] (fun _ => .bool true) (fun _ _ => True) (by decide) (by decide) (by go_simp) (fun w => by go_simp) hs0 (fun _ => stable_true) (fun W hW _ => ?_) (fun i1 hs1 => ?_)
        · obtain ⟨pp, rfl⟩ := hW
          refine (HN.out _ _ _ _).mono ?_
          rintro e w' ⟨rfl, hbl⟩
          exact ⟨(), by rw [E1.out], trivial, hbl⟩
        repeat (with_reducible refine wpC_q (by decide) (by decide) (fun K hK => ?_); go_simp; (try rw [if_neg (by simp [undef])]); refine hK _ ?_; clear hK K)
        with_reducible refine wpC_vg (ι := Unit) (fun _ => .bool false) (fun _ _ => True) (by decide) (by decide) (by go_simp) hs1 (fun _ => stable_true) (fun W _ _ => ⟨(), W, by go_simp, trivial, Below.refl _ _⟩) (fun i2 hs2 => ?_)
        repeat (with_reducible refine wpC_q (by decide) (by decide) (fun K hK => ?_); go_simp; (try rw [if_neg (by simp [undef])]); refine hK _ ?_; clear hK K)
        with_reducible refine wpC_vg (ι := Unit) (fun _ => .bool true) (fun _ _ => True) (by decide) (by decide) (by go_simp) hs2 (fun _ => stable_true) (fun W _ _ => ⟨(), W, by go_simp, trivial, Below.refl _ _⟩) (fun i3 hs3 => ?_)
        repeat (with_reducible refine wpC_q (by decide) (by decide) (fun K hK => ?_); go_simp; (try rw [if_neg (by simp [undef])]); refine hK _ ?_; clear hK K)
        with_reducible refine wpC_vg (ι := Unit) (fun _ => .bool false) (fun _ _ => True) (by decide) (by decide) (by go_simp) hs3 (fun _ => stable_true) (fun W _ _ => ⟨(), W, by go_simp, trivial, Below.refl _ _⟩) (fun i4 hs4 => ?_)
        repeat (with_reducible refine wpC_q (by decide) (by decide) (fun K hK => ?_); go_simp; (try rw [if_neg (by simp [undef])]); refine hK _ ?_; clear hK K)
        with_reducible refine wpC_cg (ι := Unit) 65 #[.int .i64 c.lasts, .int .i64 0, .int .i64 1125899906842624] (fun _ => .bool true) (fun _ _ => True) (by decide) (by decide) (by go_simp) (fun w => by go_simp) hs4 (fun _ => stable_true) (fun W hW _ => ?_) (fun i5 hs5 => ?_)
        · obtain ⟨pp, rfl⟩ := hW
          refine (HN.out _ _ _ _).mono ?_
          rintro e w' ⟨rfl, hbl⟩
          exact ⟨(), by rw [F0.out], trivial, hbl⟩
        repeat (with_reducible refine wpC_q (by decide) (by decide) (fun K hK => ?_); go_simp; (try rw [if_neg (by simp [undef])]); refine hK _ ?_; clear hK K)
        with_reducible refine wpC_vg (ι := Unit) (fun _ => .bool false) (fun _ _ => True) (by decide) (by decide) (by go_simp) hs5 (fun _ => stable_true) (fun W _ _ => ⟨(), W, by go_simp, trivial, Below.refl _ _⟩) (fun i6 hs6 => ?_)
        repeat (with_reducible refine wpC_q (by decide) (by decide) (fun K hK => ?_); go_simp; (try rw [if_neg (by simp [undef])]); refine hK _ ?_; clear hK K)
        with_reducible refine wpC_cg (ι := Unit) 65 #[.int .i64 c.lead, .int .i64 0, .int .i64 1125899906842624] (fun _ => .bool false) (fun _ _ => True) (by decide) (by decide) (by go_simp) (fun w => by go_simp) hs6 (fun _ => stable_true) (fun W hW _ => ?_) (fun i7 hs7 => ?_)
        · obtain ⟨pp, rfl⟩ := hW
          refine (HN.out _ _ _ _).mono ?_
          rintro e w' ⟨rfl, hbl⟩
          exact ⟨(), by rw [F1.out], trivial, hbl⟩
        repeat (with_reducible refine wpC_q (by decide) (by decide) (fun K hK => ?_); go_simp; (try rw [if_neg (by simp [undef])]); refine hK _ ?_; clear hK K)
        with_reducible refine wpC_vg (ι := Unit) (fun _ => .bool true) (fun _ _ => True) (by decide) (by decide) (by go_simp) hs7 (fun _ => stable_true) (fun W _ _ => ⟨(), W, by go_simp, trivial, Below.refl _ _⟩) (fun i8 hs8 => ?_)
        repeat (with_reducible refine wpC_q (by decide) (by decide) (fun K hK => ?_); go_simp; (try rw [if_neg (by simp [undef])]); refine hK _ ?_; clear hK K)
        with_reducible refine wpC_off (by decide) (by go_simp) ?_
        repeat (with_reducible refine wpC_q (by decide) (by decide) (fun K hK => ?_); go_simp; (try rw [if_neg (by simp [undef])]); refine hK _ ?_; clear hK K)
        with_reducible refine wpC_vg (ι := Unit) (fun _ => .bool true) (fun _ _ => True) (by decide) (by decide) (by go_simp) hs8 (fun _ => stable_true) (fun W _ _ => ⟨(), W, by go_simp, trivial, Below.refl _ _⟩) (fun i9 hs9 => ?_)
        repeat (with_reducible refine wpC_q (by decide) (by decide) (fun K hK => ?_); go_simp; (try rw [if_neg (by simp [undef])]); refine hK _ ?_; clear hK K)
        with_reducible refine wpC_off (by decide) (by go_simp) ?_
        repeat (with_reducible refine wpC_q (by decide) (by decide) (fun K hK => ?_); go_simp; (try rw [if_neg (by simp [undef])]); refine hK _ ?_; clear hK K)
        refine wpC_nil ?_
        intro w2 hb2 _
        clear x0 x1 x2 y0 y1 y2 y3 y4 HLn HG HN hs0 hs1 hs2 hs3 hs4 hs5 hs6 hs7 hs8 hs9
        go_wp2_with fail
        go_ret
        exact ⟨ret_bool hc.out.symm, hBb.trans (hb2.mono hBb.size)⟩
      have F1 := Lib.hid f1
      clear f1
      cases f2 : inR c.ahead 0 1125899906842624
      case false =>
        have hc := Lib.hid (hno.out (by rintro ⟨-, q0, q1, q2, q3, -⟩; have := q2.symm.trans f2; cases this))
        have F2 := Lib.hid f2
        clear f2
        clear hno hstep
        refine wp_region_ch 44 [3, 4, 6, 9, 21, 24, 27, 30, 33, 36, 39, 42] hmo (by kernel_rfl) ?_
        simp only [List.take_succ_cons, List.take_zero, List.drop_succ_cons, List.drop_zero]
        repeat (with_reducible refine wpC_q (by decide) (by decide) (fun K hK => ?_); go_simp; (try rw [if_neg (by simp [undef])]); refine hK _ ?_; clear hK K)
        with_reducible refine wpC_cg (ι := Unit) 23 #[.agg #[.slice pa pn pc, .slice ca cn cc, .slice ja jn jc]] (fun _ => .int .i64 (sumL R.ps)) (fun _ _ => True) (by decide) (by decide) (by go_simp) (fun w => by go_simp) stable_true (fun _ => stable_true) (fun W hW _ => ?_) (fun i0 hs0 => ?_)
        · obtain ⟨pp, rfl⟩ := hW
          refine (HLn.out _ (HG.out _ _)).mono ?_
          rintro e w' ⟨rfl, hbl⟩
          exact ⟨(), rfl, trivial, hbl⟩
        repeat (with_reducible refine wpC_q (by decide) (by decide) (fun K hK => ?_); go_simp; (try rw [if_neg (by simp [undef])]); refine hK _ ?_; clear hK K)
        with_reducible refine wpC_cg (ι := Unit) 65 #[.int .i64 c.place, .int .i64 0, .int .i64 (sumL R.ps)] (fun _ => .bool true) (fun _ _ => True) (by decide) (by decide) (by go_simp) (fun w => by go_simp) hs0 (fun _ => stable_true) (fun W hW _ => ?_) (fun i1 hs1 => ?_)
        · obtain ⟨pp, rfl⟩ := hW
          refine (HN.out _ _ _ _).mono ?_
          rintro e w' ⟨rfl, hbl⟩
          exact ⟨(), by rw [E1.out], trivial, hbl⟩
        repeat (with_reducible refine wpC_q (by decide) (by decide) (fun K hK => ?_); go_simp; (try rw [if_neg (by simp [undef])]); refine hK _ ?_; clear hK K)
        with_reducible refine wpC_vg (ι := Unit) (fun _ => .bool false) (fun _ _ => True) (by decide) (by decide) (by go_simp) hs1 (fun _ => stable_true) (fun W _ _ => ⟨(), W, by go_simp, trivial, Below.refl _ _⟩) (fun i2 hs2 => ?_)
        repeat (with_reducible refine wpC_q (by decide) (by decide) (fun K hK => ?_); go_simp; (try rw [if_neg (by simp [undef])]); refine hK _ ?_; clear hK K)
        with_reducible refine wpC_vg (ι := Unit) (fun _ => .bool true) (fun _ _ => True) (by decide) (by decide) (by go_simp) hs2 (fun _ => stable_true) (fun W _ _ => ⟨(), W, by go_simp, trivial, Below.refl _ _⟩) (fun i3 hs3 => ?_)
        repeat (with_reducible refine wpC_q (by decide) (by decide) (fun K hK => ?_); go_simp; (try rw [if_neg (by simp [undef])]); refine hK _ ?_; clear hK K)
        with_reducible refine wpC_vg (ι := Unit) (fun _ => .bool false) (fun _ _ => True) (by decide) (by decide) (by go_simp) hs3 (fun _ => stable_true) (fun W _ _ => ⟨(), W, by go_simp, trivial, Below.refl _ _⟩) (fun i4 hs4 => ?_)
        repeat (with_reducible refine wpC_q (by decide) (by decide) (fun K hK => ?_); go_simp; (try rw [if_neg (by simp [undef])]); refine hK _ ?_; clear hK K)
        with_reducible refine wpC_cg (ι := Unit) 65 #[.int .i64 c.lasts, .int .i64 0, .int .i64 1125899906842624] (fun _ => .bool true) (fun _ _ => True) (by decide) (by decide) (by go_simp) (fun w => by go_simp) hs4 (fun _ => stable_true) (fun W hW _ => ?_) (fun i5 hs5 => ?_)
        · obtain ⟨pp, rfl⟩ := hW
          refine (HN.out _ _ _ _).mono ?_
          rintro e w' ⟨rfl, hbl⟩
          exact ⟨(), by rw [F0.out], trivial, hbl⟩
        repeat (with_reducible refine wpC_q (by decide) (by decide) (fun K hK => ?_); go_simp; (try rw [if_neg (by simp [undef])]); refine hK _ ?_; clear hK K)
        with_reducible refine wpC_vg (ι := Unit) (fun _ => .bool false) (fun _ _ => True) (by decide) (by decide) (by go_simp) hs5 (fun _ => stable_true) (fun W _ _ => ⟨(), W, by go_simp, trivial, Below.refl _ _⟩) (fun i6 hs6 => ?_)
        repeat (with_reducible refine wpC_q (by decide) (by decide) (fun K hK => ?_); go_simp; (try rw [if_neg (by simp [undef])]); refine hK _ ?_; clear hK K)
        with_reducible refine wpC_cg (ι := Unit) 65 #[.int .i64 c.lead, .int .i64 0, .int .i64 1125899906842624] (fun _ => .bool true) (fun _ _ => True) (by decide) (by decide) (by go_simp) (fun w => by go_simp) hs6 (fun _ => stable_true) (fun W hW _ => ?_) (fun i7 hs7 => ?_)
        · obtain ⟨pp, rfl⟩ := hW
          refine (HN.out _ _ _ _).mono ?_
          rintro e w' ⟨rfl, hbl⟩
          exact ⟨(), by rw [F1.out], trivial, hbl⟩
        repeat (with_reducible refine wpC_q (by decide) (by decide) (fun K hK => ?_); go_simp; (try rw [if_neg (by simp [undef])]); refine hK _ ?_; clear hK K)
        with_reducible refine wpC_vg (ι := Unit) (fun _ => .bool false) (fun _ _ => True) (by decide) (by decide) (by go_simp) hs7 (fun _ => stable_true) (fun W _ _ => ⟨(), W, by go_simp, trivial, Below.refl _ _⟩) (fun i8 hs8 => ?_)
        repeat (with_reducible refine wpC_q (by decide) (by decide) (fun K hK => ?_); go_simp; (try rw [if_neg (by simp [undef])]); refine hK _ ?_; clear hK K)
        with_reducible refine wpC_cg (ι := Unit) 65 #[.int .i64 c.ahead, .int .i64 0, .int .i64 1125899906842624] (fun _ => .bool false) (fun _ _ => True) (by decide) (by decide) (by go_simp) (fun w => by go_simp) hs8 (fun _ => stable_true) (fun W hW _ => ?_) (fun i9 hs9 => ?_)
        · obtain ⟨pp, rfl⟩ := hW
          refine (HN.out _ _ _ _).mono ?_
          rintro e w' ⟨rfl, hbl⟩
          exact ⟨(), by rw [F2.out], trivial, hbl⟩
        repeat (with_reducible refine wpC_q (by decide) (by decide) (fun K hK => ?_); go_simp; (try rw [if_neg (by simp [undef])]); refine hK _ ?_; clear hK K)
        with_reducible refine wpC_vg (ι := Unit) (fun _ => .bool true) (fun _ _ => True) (by decide) (by decide) (by go_simp) hs9 (fun _ => stable_true) (fun W _ _ => ⟨(), W, by go_simp, trivial, Below.refl _ _⟩) (fun i10 hs10 => ?_)
        repeat (with_reducible refine wpC_q (by decide) (by decide) (fun K hK => ?_); go_simp; (try rw [if_neg (by simp [undef])]); refine hK _ ?_; clear hK K)
        with_reducible refine wpC_off (by decide) (by go_simp) ?_
        repeat (with_reducible refine wpC_q (by decide) (by decide) (fun K hK => ?_); go_simp; (try rw [if_neg (by simp [undef])]); refine hK _ ?_; clear hK K)
        refine wpC_nil ?_
        intro w2 hb2 _
        clear x0 x1 x2 y0 y1 y2 y3 y4 HLn HG HN hs0 hs1 hs2 hs3 hs4 hs5 hs6 hs7 hs8 hs9 hs10
        go_wp2_with fail
        go_ret
        exact ⟨ret_bool hc.out.symm, hBb.trans (hb2.mono hBb.size)⟩
      have F2 := Lib.hid f2
      clear f2
      cases f3 : inR c.value 0 100
      case false =>
        have hc := Lib.hid (hno.out (by rintro ⟨-, q0, q1, q2, q3, -⟩; have := q3.symm.trans f3; cases this))
        have F3 := Lib.hid f3
        clear f3
        clear hno hstep
        refine wp_region_ch 44 [3, 4, 6, 9, 21, 24, 27, 30, 33, 36, 39, 42] hmo (by kernel_rfl) ?_
        simp only [List.take_succ_cons, List.take_zero, List.drop_succ_cons, List.drop_zero]
        repeat (with_reducible refine wpC_q (by decide) (by decide) (fun K hK => ?_); go_simp; (try rw [if_neg (by simp [undef])]); refine hK _ ?_; clear hK K)
        with_reducible refine wpC_cg (ι := Unit) 23 #[.agg #[.slice pa pn pc, .slice ca cn cc, .slice ja jn jc]] (fun _ => .int .i64 (sumL R.ps)) (fun _ _ => True) (by decide) (by decide) (by go_simp) (fun w => by go_simp) stable_true (fun _ => stable_true) (fun W hW _ => ?_) (fun i0 hs0 => ?_)
        · obtain ⟨pp, rfl⟩ := hW
          refine (HLn.out _ (HG.out _ _)).mono ?_
          rintro e w' ⟨rfl, hbl⟩
          exact ⟨(), rfl, trivial, hbl⟩
        repeat (with_reducible refine wpC_q (by decide) (by decide) (fun K hK => ?_); go_simp; (try rw [if_neg (by simp [undef])]); refine hK _ ?_; clear hK K)
        with_reducible refine wpC_cg (ι := Unit) 65 #[.int .i64 c.place, .int .i64 0, .int .i64 (sumL R.ps)] (fun _ => .bool true) (fun _ _ => True) (by decide) (by decide) (by go_simp) (fun w => by go_simp) hs0 (fun _ => stable_true) (fun W hW _ => ?_) (fun i1 hs1 => ?_)
        · obtain ⟨pp, rfl⟩ := hW
          refine (HN.out _ _ _ _).mono ?_
          rintro e w' ⟨rfl, hbl⟩
          exact ⟨(), by rw [E1.out], trivial, hbl⟩
        repeat (with_reducible refine wpC_q (by decide) (by decide) (fun K hK => ?_); go_simp; (try rw [if_neg (by simp [undef])]); refine hK _ ?_; clear hK K)
        with_reducible refine wpC_vg (ι := Unit) (fun _ => .bool false) (fun _ _ => True) (by decide) (by decide) (by go_simp) hs1 (fun _ => stable_true) (fun W _ _ => ⟨(), W, by go_simp, trivial, Below.refl _ _⟩) (fun i2 hs2 => ?_)
        repeat (with_reducible refine wpC_q (by decide) (by decide) (fun K hK => ?_); go_simp; (try rw [if_neg (by simp [undef])]); refine hK _ ?_; clear hK K)
        with_reducible refine wpC_vg (ι := Unit) (fun _ => .bool true) (fun _ _ => True) (by decide) (by decide) (by go_simp) hs2 (fun _ => stable_true) (fun W _ _ => ⟨(), W, by go_simp, trivial, Below.refl _ _⟩) (fun i3 hs3 => ?_)
        repeat (with_reducible refine wpC_q (by decide) (by decide) (fun K hK => ?_); go_simp; (try rw [if_neg (by simp [undef])]); refine hK _ ?_; clear hK K)
        with_reducible refine wpC_vg (ι := Unit) (fun _ => .bool false) (fun _ _ => True) (by decide) (by decide) (by go_simp) hs3 (fun _ => stable_true) (fun W _ _ => ⟨(), W, by go_simp, trivial, Below.refl _ _⟩) (fun i4 hs4 => ?_)
        repeat (with_reducible refine wpC_q (by decide) (by decide) (fun K hK => ?_); go_simp; (try rw [if_neg (by simp [undef])]); refine hK _ ?_; clear hK K)
        with_reducible refine wpC_cg (ι := Unit) 65 #[.int .i64 c.lasts, .int .i64 0, .int .i64 1125899906842624] (fun _ => .bool true) (fun _ _ => True) (by decide) (by decide) (by go_simp) (fun w => by go_simp) hs4 (fun _ => stable_true) (fun W hW _ => ?_) (fun i5 hs5 => ?_)
        · obtain ⟨pp, rfl⟩ := hW
          refine (HN.out _ _ _ _).mono ?_
          rintro e w' ⟨rfl, hbl⟩
          exact ⟨(), by rw [F0.out], trivial, hbl⟩
        repeat (with_reducible refine wpC_q (by decide) (by decide) (fun K hK => ?_); go_simp; (try rw [if_neg (by simp [undef])]); refine hK _ ?_; clear hK K)
        with_reducible refine wpC_vg (ι := Unit) (fun _ => .bool false) (fun _ _ => True) (by decide) (by decide) (by go_simp) hs5 (fun _ => stable_true) (fun W _ _ => ⟨(), W, by go_simp, trivial, Below.refl _ _⟩) (fun i6 hs6 => ?_)
        repeat (with_reducible refine wpC_q (by decide) (by decide) (fun K hK => ?_); go_simp; (try rw [if_neg (by simp [undef])]); refine hK _ ?_; clear hK K)
        with_reducible refine wpC_cg (ι := Unit) 65 #[.int .i64 c.lead, .int .i64 0, .int .i64 1125899906842624] (fun _ => .bool true) (fun _ _ => True) (by decide) (by decide) (by go_simp) (fun w => by go_simp) hs6 (fun _ => stable_true) (fun W hW _ => ?_) (fun i7 hs7 => ?_)
        · obtain ⟨pp, rfl⟩ := hW
          refine (HN.out _ _ _ _).mono ?_
          rintro e w' ⟨rfl, hbl⟩
          exact ⟨(), by rw [F1.out], trivial, hbl⟩
        repeat (with_reducible refine wpC_q (by decide) (by decide) (fun K hK => ?_); go_simp; (try rw [if_neg (by simp [undef])]); refine hK _ ?_; clear hK K)
        with_reducible refine wpC_vg (ι := Unit) (fun _ => .bool false) (fun _ _ => True) (by decide) (by decide) (by go_simp) hs7 (fun _ => stable_true) (fun W _ _ => ⟨(), W, by go_simp, trivial, Below.refl _ _⟩) (fun i8 hs8 => ?_)
        repeat (with_reducible refine wpC_q (by decide) (by decide) (fun K hK => ?_); go_simp; (try rw [if_neg (by simp [undef])]); refine hK _ ?_; clear hK K)
        with_reducible refine wpC_cg (ι := Unit) 65 #[.int .i64 c.ahead, .int .i64 0, .int .i64 1125899906842624] (fun _ => .bool true) (fun _ _ => True) (by decide) (by decide) (by go_simp) (fun w => by go_simp) hs8 (fun _ => stable_true) (fun W hW _ => ?_) (fun i9 hs9 => ?_)
        · obtain ⟨pp, rfl⟩ := hW
          refine (HN.out _ _ _ _).mono ?_
          rintro e w' ⟨rfl, hbl⟩
          exact ⟨(), by rw [F2.out], trivial, hbl⟩
        repeat (with_reducible refine wpC_q (by decide) (by decide) (fun K hK => ?_); go_simp; (try rw [if_neg (by simp [undef])]); refine hK _ ?_; clear hK K)
        with_reducible refine wpC_vg (ι := Unit) (fun _ => .bool false) (fun _ _ => True) (by decide) (by decide) (by go_simp) hs9 (fun _ => stable_true) (fun W _ _ => ⟨(), W, by go_simp, trivial, Below.refl _ _⟩) (fun i10 hs10 => ?_)
        repeat (with_reducible refine wpC_q (by decide) (by decide) (fun K hK => ?_); go_simp; (try rw [if_neg (by simp [undef])]); refine hK _ ?_; clear hK K)
        with_reducible refine wpC_cg (ι := Unit) 65 #[.int .i64 c.value, .int .i64 0, .int .i64 100] (fun _ => .bool false) (fun _ _ => True) (by decide) (by decide) (by go_simp) (fun w => by go_simp) hs10 (fun _ => stable_true) (fun W hW _ => ?_) (fun i11 hs11 => ?_)
        · obtain ⟨pp, rfl⟩ := hW
          refine (HN.out _ _ _ _).mono ?_
          rintro e w' ⟨rfl, hbl⟩
          exact ⟨(), by rw [F3.out], trivial, hbl⟩
        repeat (with_reducible refine wpC_q (by decide) (by decide) (fun K hK => ?_); go_simp; (try rw [if_neg (by simp [undef])]); refine hK _ ?_; clear hK K)
        refine wpC_nil ?_
        intro w2 hb2 _
        clear x0 x1 x2 y0 y1 y2 y3 y4 HLn HG HN hs0 hs1 hs2 hs3 hs4 hs5 hs6 hs7 hs8 hs9 hs10 hs11
        go_wp2_with fail
        go_ret
        exact ⟨ret_bool hc.out.symm, hBb.trans (hb2.mono hBb.size)⟩
      have F3 := Lib.hid f3
      clear f3
      have hs' := Lib.hid (hstep.out ⟨E1.out, F0.out, F1.out, F2.out, F3.out, fun d' _ h' => by rw [hd.out hm0] at h'; cases h'; omega⟩)
      clear hno hstep
      refine wp_region_ch 44 [3, 4, 6, 9, 21, 24, 27, 30, 33, 36, 39, 42] hmo (by kernel_rfl) ?_
      simp only [List.take_succ_cons, List.take_zero, List.drop_succ_cons, List.drop_zero]
      repeat (with_reducible refine wpC_q (by decide) (by decide) (fun K hK => ?_); go_simp; (try rw [if_neg (by simp [undef])]); refine hK _ ?_; clear hK K)
      with_reducible refine wpC_cg (ι := Unit) 23 #[.agg #[.slice pa pn pc, .slice ca cn cc, .slice ja jn jc]] (fun _ => .int .i64 (sumL R.ps)) (fun _ _ => True) (by decide) (by decide) (by go_simp) (fun w => by go_simp) stable_true (fun _ => stable_true) (fun W hW _ => ?_) (fun i0 hs0 => ?_)
      · obtain ⟨pp, rfl⟩ := hW
        refine (HLn.out _ (HG.out _ _)).mono ?_
        rintro e w' ⟨rfl, hbl⟩
        exact ⟨(), rfl, trivial, hbl⟩
      repeat (with_reducible refine wpC_q (by decide) (by decide) (fun K hK => ?_); go_simp; (try rw [if_neg (by simp [undef])]); refine hK _ ?_; clear hK K)
      with_reducible refine wpC_cg (ι := Unit) 65 #[.int .i64 c.place, .int .i64 0, .int .i64 (sumL R.ps)] (fun _ => .bool true) (fun _ _ => True) (by decide) (by decide) (by go_simp) (fun w => by go_simp) hs0 (fun _ => stable_true) (fun W hW _ => ?_) (fun i1 hs1 => ?_)
      · obtain ⟨pp, rfl⟩ := hW
        refine (HN.out _ _ _ _).mono ?_
        rintro e w' ⟨rfl, hbl⟩
        exact ⟨(), by rw [E1.out], trivial, hbl⟩
      repeat (with_reducible refine wpC_q (by decide) (by decide) (fun K hK => ?_); go_simp; (try rw [if_neg (by simp [undef])]); refine hK _ ?_; clear hK K)
      with_reducible refine wpC_vg (ι := Unit) (fun _ => .bool false) (fun _ _ => True) (by decide) (by decide) (by go_simp) hs1 (fun _ => stable_true) (fun W _ _ => ⟨(), W, by go_simp, trivial, Below.refl _ _⟩) (fun i2 hs2 => ?_)
      repeat (with_reducible refine wpC_q (by decide) (by decide) (fun K hK => ?_); go_simp; (try rw [if_neg (by simp [undef])]); refine hK _ ?_; clear hK K)
      with_reducible refine wpC_vg (ι := Unit) (fun _ => .bool true) (fun _ _ => True) (by decide) (by decide) (by go_simp) hs2 (fun _ => stable_true) (fun W _ _ => ⟨(), W, by go_simp, trivial, Below.refl _ _⟩) (fun i3 hs3 => ?_)
      repeat (with_reducible refine wpC_q (by decide) (by decide) (fun K hK => ?_); go_simp; (try rw [if_neg (by simp [undef])]); refine hK _ ?_; clear hK K)
      with_reducible refine wpC_vg (ι := Unit) (fun _ => .bool false) (fun _ _ => True) (by decide) (by decide) (by go_simp) hs3 (fun _ => stable_true) (fun W _ _ => ⟨(), W, by go_simp, trivial, Below.refl _ _⟩) (fun i4 hs4 => ?_)
      repeat (with_reducible refine wpC_q (by decide) (by decide) (fun K hK => ?_); go_simp; (try rw [if_neg (by simp [undef])]); refine hK _ ?_; clear hK K)
      with_reducible refine wpC_cg (ι := Unit) 65 #[.int .i64 c.lasts, .int .i64 0, .int .i64 1125899906842624] (fun _ => .bool true) (fun _ _ => True) (by decide) (by decide) (by go_simp) (fun w => by go_simp) hs4 (fun _ => stable_true) (fun W hW _ => ?_) (fun i5 hs5 => ?_)
      · obtain ⟨pp, rfl⟩ := hW
        refine (HN.out _ _ _ _).mono ?_
        rintro e w' ⟨rfl, hbl⟩
        exact ⟨(), by rw [F0.out], trivial, hbl⟩
      repeat (with_reducible refine wpC_q (by decide) (by decide) (fun K hK => ?_); go_simp; (try rw [if_neg (by simp [undef])]); refine hK _ ?_; clear hK K)
      with_reducible refine wpC_vg (ι := Unit) (fun _ => .bool false) (fun _ _ => True) (by decide) (by decide) (by go_simp) hs5 (fun _ => stable_true) (fun W _ _ => ⟨(), W, by go_simp, trivial, Below.refl _ _⟩) (fun i6 hs6 => ?_)
      repeat (with_reducible refine wpC_q (by decide) (by decide) (fun K hK => ?_); go_simp; (try rw [if_neg (by simp [undef])]); refine hK _ ?_; clear hK K)
      with_reducible refine wpC_cg (ι := Unit) 65 #[.int .i64 c.lead, .int .i64 0, .int .i64 1125899906842624] (fun _ => .bool true) (fun _ _ => True) (by decide) (by decide) (by go_simp) (fun w => by go_simp) hs6 (fun _ => stable_true) (fun W hW _ => ?_) (fun i7 hs7 => ?_)
      · obtain ⟨pp, rfl⟩ := hW
        refine (HN.out _ _ _ _).mono ?_
        rintro e w' ⟨rfl, hbl⟩
        exact ⟨(), by rw [F1.out], trivial, hbl⟩
      repeat (with_reducible refine wpC_q (by decide) (by decide) (fun K hK => ?_); go_simp; (try rw [if_neg (by simp [undef])]); refine hK _ ?_; clear hK K)
      with_reducible refine wpC_vg (ι := Unit) (fun _ => .bool false) (fun _ _ => True) (by decide) (by decide) (by go_simp) hs7 (fun _ => stable_true) (fun W _ _ => ⟨(), W, by go_simp, trivial, Below.refl _ _⟩) (fun i8 hs8 => ?_)
      repeat (with_reducible refine wpC_q (by decide) (by decide) (fun K hK => ?_); go_simp; (try rw [if_neg (by simp [undef])]); refine hK _ ?_; clear hK K)
      with_reducible refine wpC_cg (ι := Unit) 65 #[.int .i64 c.ahead, .int .i64 0, .int .i64 1125899906842624] (fun _ => .bool true) (fun _ _ => True) (by decide) (by decide) (by go_simp) (fun w => by go_simp) hs8 (fun _ => stable_true) (fun W hW _ => ?_) (fun i9 hs9 => ?_)
      · obtain ⟨pp, rfl⟩ := hW
        refine (HN.out _ _ _ _).mono ?_
        rintro e w' ⟨rfl, hbl⟩
        exact ⟨(), by rw [F2.out], trivial, hbl⟩
      repeat (with_reducible refine wpC_q (by decide) (by decide) (fun K hK => ?_); go_simp; (try rw [if_neg (by simp [undef])]); refine hK _ ?_; clear hK K)
      with_reducible refine wpC_vg (ι := Unit) (fun _ => .bool false) (fun _ _ => True) (by decide) (by decide) (by go_simp) hs9 (fun _ => stable_true) (fun W _ _ => ⟨(), W, by go_simp, trivial, Below.refl _ _⟩) (fun i10 hs10 => ?_)
      repeat (with_reducible refine wpC_q (by decide) (by decide) (fun K hK => ?_); go_simp; (try rw [if_neg (by simp [undef])]); refine hK _ ?_; clear hK K)
      with_reducible refine wpC_cg (ι := Unit) 65 #[.int .i64 c.value, .int .i64 0, .int .i64 100] (fun _ => .bool true) (fun _ _ => True) (by decide) (by decide) (by go_simp) (fun w => by go_simp) hs10 (fun _ => stable_true) (fun W hW _ => ?_) (fun i11 hs11 => ?_)
      · obtain ⟨pp, rfl⟩ := hW
        refine (HN.out _ _ _ _).mono ?_
        rintro e w' ⟨rfl, hbl⟩
        exact ⟨(), by rw [F3.out], trivial, hbl⟩
      repeat (with_reducible refine wpC_q (by decide) (by decide) (fun K hK => ?_); go_simp; (try rw [if_neg (by simp [undef])]); refine hK _ ?_; clear hK K)
      refine wpC_nil ?_
      intro w2 hb2 _
      clear x0 x1 x2 y0 y1 y2 y3 y4 HLn HG HN hs0 hs1 hs2 hs3 hs4 hs5 hs6 hs7 hs8 hs9 hs10 hs11
      go_wp2_with fail
      go_roundw
      case rel => exact ⟨m + 1, by omega, by go_num, hbw.trans (hb2.mono hbw.size), hs'⟩
      case measure => simp [intOf]; omega
    have hg : decide ((0 : Int) < (m : Int)) = false := by simp; omega
    cases f0 : inR c.lasts 0 1125899906842624
    case false =>
      have hc := Lib.hid (hno.out (by rintro ⟨-, q0, q1, q2, q3, -⟩; have := q0.symm.trans f0; cases this))
      have F0 := Lib.hid f0
      clear f0
      clear hno hstep
      refine wp_region_ch 44 [3, 4, 6, 9, 21, 24, 27, 30, 33, 36, 39, 42] hmo (by kernel_rfl) ?_
      simp only [List.take_succ_cons, List.take_zero, List.drop_succ_cons, List.drop_zero]
      repeat (with_reducible refine wpC_q (by decide) (by decide) (fun K hK => ?_); go_simp; (try rw [if_neg (by simp [undef])]); refine hK _ ?_; clear hK K)
      with_reducible refine wpC_cg (ι := Unit) 23 #[.agg #[.slice pa pn pc, .slice ca cn cc, .slice ja jn jc]] (fun _ => .int .i64 (sumL R.ps)) (fun _ _ => True) (by decide) (by decide) (by go_simp) (fun w => by go_simp) stable_true (fun _ => stable_true) (fun W hW _ => ?_) (fun i0 hs0 => ?_)
      · obtain ⟨pp, rfl⟩ := hW
        refine (HLn.out _ (HG.out _ _)).mono ?_
        rintro e w' ⟨rfl, hbl⟩
        exact ⟨(), rfl, trivial, hbl⟩
      repeat (with_reducible refine wpC_q (by decide) (by decide) (fun K hK => ?_); go_simp; (try rw [if_neg (by simp [undef])]); refine hK _ ?_; clear hK K)
      with_reducible refine wpC_cg (ι := Unit) 65 #[.int .i64 c.place, .int .i64 0, .int .i64 (sumL R.ps)] (fun _ => .bool true) (fun _ _ => True) (by decide) (by decide) (by go_simp) (fun w => by go_simp) hs0 (fun _ => stable_true) (fun W hW _ => ?_) (fun i1 hs1 => ?_)
      · obtain ⟨pp, rfl⟩ := hW
        refine (HN.out _ _ _ _).mono ?_
        rintro e w' ⟨rfl, hbl⟩
        exact ⟨(), by rw [E1.out], trivial, hbl⟩
      repeat (with_reducible refine wpC_q (by decide) (by decide) (fun K hK => ?_); go_simp; (try rw [if_neg (by simp [undef])]); refine hK _ ?_; clear hK K)
      with_reducible refine wpC_vg (ι := Unit) (fun _ => .bool false) (fun _ _ => True) (by decide) (by decide) (by go_simp) hs1 (fun _ => stable_true) (fun W _ _ => ⟨(), W, by go_simp, trivial, Below.refl _ _⟩) (fun i2 hs2 => ?_)
      repeat (with_reducible refine wpC_q (by decide) (by decide) (fun K hK => ?_); go_simp; (try rw [if_neg (by simp [undef])]); refine hK _ ?_; clear hK K)
      with_reducible refine wpC_vg (ι := Unit) (fun _ => .bool false) (fun _ _ => True) (by decide) (by decide) (by go_simp) hs2 (fun _ => stable_true) (fun W _ _ => ⟨(), W, by go_simp, trivial, Below.refl _ _⟩) (fun i3 hs3 => ?_)
      repeat (with_reducible refine wpC_q (by decide) (by decide) (fun K hK => ?_); go_simp; (try rw [if_neg (by simp [undef])]); refine hK _ ?_; clear hK K)
      with_reducible refine wpC_vg (ι := Unit) (fun _ => .bool false) (fun _ _ => True) (by decide) (by decide) (by go_simp) hs3 (fun _ => stable_true) (fun W _ _ => ⟨(), W, by go_simp, trivial, Below.refl _ _⟩) (fun i4 hs4 => ?_)
      repeat (with_reducible refine wpC_q (by decide) (by decide) (fun K hK => ?_); go_simp; (try rw [if_neg (by simp [undef])]); refine hK _ ?_; clear hK K)
      with_reducible refine wpC_cg (ι := Unit) 65 #[.int .i64 c.lasts, .int .i64 0, .int .i64 1125899906842624] (fun _ => .bool false) (fun _ _ => True) (by decide) (by decide) (by go_simp) (fun w => by go_simp) hs4 (fun _ => stable_true) (fun W hW _ => ?_) (fun i5 hs5 => ?_)
      · obtain ⟨pp, rfl⟩ := hW
        refine (HN.out _ _ _ _).mono ?_
        rintro e w' ⟨rfl, hbl⟩
        exact ⟨(), by rw [F0.out], trivial, hbl⟩
      repeat (with_reducible refine wpC_q (by decide) (by decide) (fun K hK => ?_); go_simp; (try rw [if_neg (by simp [undef])]); refine hK _ ?_; clear hK K)
      with_reducible refine wpC_vg (ι := Unit) (fun _ => .bool true) (fun _ _ => True) (by decide) (by decide) (by go_simp) hs5 (fun _ => stable_true) (fun W _ _ => ⟨(), W, by go_simp, trivial, Below.refl _ _⟩) (fun i6 hs6 => ?_)
      repeat (with_reducible refine wpC_q (by decide) (by decide) (fun K hK => ?_); go_simp; (try rw [if_neg (by simp [undef])]); refine hK _ ?_; clear hK K)
      with_reducible refine wpC_off (by decide) (by go_simp) ?_
      repeat (with_reducible refine wpC_q (by decide) (by decide) (fun K hK => ?_); go_simp; (try rw [if_neg (by simp [undef])]); refine hK _ ?_; clear hK K)
      with_reducible refine wpC_vg (ι := Unit) (fun _ => .bool true) (fun _ _ => True) (by decide) (by decide) (by go_simp) hs6 (fun _ => stable_true) (fun W _ _ => ⟨(), W, by go_simp, trivial, Below.refl _ _⟩) (fun i7 hs7 => ?_)
      repeat (with_reducible refine wpC_q (by decide) (by decide) (fun K hK => ?_); go_simp; (try rw [if_neg (by simp [undef])]); refine hK _ ?_; clear hK K)
      with_reducible refine wpC_off (by decide) (by go_simp) ?_
      repeat (with_reducible refine wpC_q (by decide) (by decide) (fun K hK => ?_); go_simp; (try rw [if_neg (by simp [undef])]); refine hK _ ?_; clear hK K)
      with_reducible refine wpC_vg (ι := Unit) (fun _ => .bool true) (fun _ _ => True) (by decide) (by decide) (by go_simp) hs7 (fun _ => stable_true) (fun W _ _ => ⟨(), W, by go_simp, trivial, Below.refl _ _⟩) (fun i8 hs8 => ?_)
      repeat (with_reducible refine wpC_q (by decide) (by decide) (fun K hK => ?_); go_simp; (try rw [if_neg (by simp [undef])]); refine hK _ ?_; clear hK K)
      with_reducible refine wpC_off (by decide) (by go_simp) ?_
      repeat (with_reducible refine wpC_q (by decide) (by decide) (fun K hK => ?_); go_simp; (try rw [if_neg (by simp [undef])]); refine hK _ ?_; clear hK K)
      refine wpC_nil ?_
      intro w2 hb2 _
      clear x0 x1 x2 y0 y1 y2 y3 y4 HLn HG HN hs0 hs1 hs2 hs3 hs4 hs5 hs6 hs7 hs8
      go_wp2_with fail
      go_ret
      exact ⟨ret_bool hc.out.symm, hBb.trans (hb2.mono hBb.size)⟩
    have F0 := Lib.hid f0
    clear f0
    cases f1 : inR c.lead 0 1125899906842624
    case false =>
      have hc := Lib.hid (hno.out (by rintro ⟨-, q0, q1, q2, q3, -⟩; have := q1.symm.trans f1; cases this))
      have F1 := Lib.hid f1
      clear f1
      clear hno hstep
      refine wp_region_ch 44 [3, 4, 6, 9, 21, 24, 27, 30, 33, 36, 39, 42] hmo (by kernel_rfl) ?_
      simp only [List.take_succ_cons, List.take_zero, List.drop_succ_cons, List.drop_zero]
      repeat (with_reducible refine wpC_q (by decide) (by decide) (fun K hK => ?_); go_simp; (try rw [if_neg (by simp [undef])]); refine hK _ ?_; clear hK K)
      with_reducible refine wpC_cg (ι := Unit) 23 #[.agg #[.slice pa pn pc, .slice ca cn cc, .slice ja jn jc]] (fun _ => .int .i64 (sumL R.ps)) (fun _ _ => True) (by decide) (by decide) (by go_simp) (fun w => by go_simp) stable_true (fun _ => stable_true) (fun W hW _ => ?_) (fun i0 hs0 => ?_)
      · obtain ⟨pp, rfl⟩ := hW
        refine (HLn.out _ (HG.out _ _)).mono ?_
        rintro e w' ⟨rfl, hbl⟩
        exact ⟨(), rfl, trivial, hbl⟩
      repeat (with_reducible refine wpC_q (by decide) (by decide) (fun K hK => ?_); go_simp; (try rw [if_neg (by simp [undef])]); refine hK _ ?_; clear hK K)
      with_reducible refine wpC_cg (ι := Unit) 65 #[.int .i64 c.place, .int .i64 0, .int .i64 (sumL R.ps)] (fun _ => .bool true) (fun _ _ => True) (by decide) (by decide) (by go_simp) (fun w => by go_simp) hs0 (fun _ => stable_true) (fun W hW _ => ?_) (fun i1 hs1 => ?_)
      · obtain ⟨pp, rfl⟩ := hW
        refine (HN.out _ _ _ _).mono ?_
        rintro e w' ⟨rfl, hbl⟩
        exact ⟨(), by rw [E1.out], trivial, hbl⟩
      repeat (with_reducible refine wpC_q (by decide) (by decide) (fun K hK => ?_); go_simp; (try rw [if_neg (by simp [undef])]); refine hK _ ?_; clear hK K)
      with_reducible refine wpC_vg (ι := Unit) (fun _ => .bool false) (fun _ _ => True) (by decide) (by decide) (by go_simp) hs1 (fun _ => stable_true) (fun W _ _ => ⟨(), W, by go_simp, trivial, Below.refl _ _⟩) (fun i2 hs2 => ?_)
      repeat (with_reducible refine wpC_q (by decide) (by decide) (fun K hK => ?_); go_simp; (try rw [if_neg (by simp [undef])]); refine hK _ ?_; clear hK K)
      with_reducible refine wpC_vg (ι := Unit) (fun _ => .bool false) (fun _ _ => True) (by decide) (by decide) (by go_simp) hs2 (fun _ => stable_true) (fun W _ _ => ⟨(), W, by go_simp, trivial, Below.refl _ _⟩) (fun i3 hs3 => ?_)
      repeat (with_reducible refine wpC_q (by decide) (by decide) (fun K hK => ?_); go_simp; (try rw [if_neg (by simp [undef])]); refine hK _ ?_; clear hK K)
      with_reducible refine wpC_vg (ι := Unit) (fun _ => .bool false) (fun _ _ => True) (by decide) (by decide) (by go_simp) hs3 (fun _ => stable_true) (fun W _ _ => ⟨(), W, by go_simp, trivial, Below.refl _ _⟩) (fun i4 hs4 => ?_)
      repeat (with_reducible refine wpC_q (by decide) (by decide) (fun K hK => ?_); go_simp; (try rw [if_neg (by simp [undef])]); refine hK _ ?_; clear hK K)
      with_reducible refine wpC_cg (ι := Unit) 65 #[.int .i64 c.lasts, .int .i64 0, .int .i64 1125899906842624] (fun _ => .bool true) (fun _ _ => True) (by decide) (by decide) (by go_simp) (fun w => by go_simp) hs4 (fun _ => stable_true) (fun W hW _ => ?_) (fun i5 hs5 => ?_)
      · obtain ⟨pp, rfl⟩ := hW
        refine (HN.out _ _ _ _).mono ?_
        rintro e w' ⟨rfl, hbl⟩
        exact ⟨(), by rw [F0.out], trivial, hbl⟩
      repeat (with_reducible refine wpC_q (by decide) (by decide) (fun K hK => ?_); go_simp; (try rw [if_neg (by simp [undef])]); refine hK _ ?_; clear hK K)
      with_reducible refine wpC_vg (ι := Unit) (fun _ => .bool false) (fun _ _ => True) (by decide) (by decide) (by go_simp) hs5 (fun _ => stable_true) (fun W _ _ => ⟨(), W, by go_simp, trivial, Below.refl _ _⟩) (fun i6 hs6 => ?_)
      repeat (with_reducible refine wpC_q (by decide) (by decide) (fun K hK => ?_); go_simp; (try rw [if_neg (by simp [undef])]); refine hK _ ?_; clear hK K)
      with_reducible refine wpC_cg (ι := Unit) 65 #[.int .i64 c.lead, .int .i64 0, .int .i64 1125899906842624] (fun _ => .bool false) (fun _ _ => True) (by decide) (by decide) (by go_simp) (fun w => by go_simp) hs6 (fun _ => stable_true) (fun W hW _ => ?_) (fun i7 hs7 => ?_)
      · obtain ⟨pp, rfl⟩ := hW
        refine (HN.out _ _ _ _).mono ?_
        rintro e w' ⟨rfl, hbl⟩
        exact ⟨(), by rw [F1.out], trivial, hbl⟩
      repeat (with_reducible refine wpC_q (by decide) (by decide) (fun K hK => ?_); go_simp; (try rw [if_neg (by simp [undef])]); refine hK _ ?_; clear hK K)
      with_reducible refine wpC_vg (ι := Unit) (fun _ => .bool true) (fun _ _ => True) (by decide) (by decide) (by go_simp) hs7 (fun _ => stable_true) (fun W _ _ => ⟨(), W, by go_simp, trivial, Below.refl _ _⟩) (fun i8 hs8 => ?_)
      repeat (with_reducible refine wpC_q (by decide) (by decide) (fun K hK => ?_); go_simp; (try rw [if_neg (by simp [undef])]); refine hK _ ?_; clear hK K)
      with_reducible refine wpC_off (by decide) (by go_simp) ?_
      repeat (with_reducible refine wpC_q (by decide) (by decide) (fun K hK => ?_); go_simp; (try rw [if_neg (by simp [undef])]); refine hK _ ?_; clear hK K)
      with_reducible refine wpC_vg (ι := Unit) (fun _ => .bool true) (fun _ _ => True) (by decide) (by decide) (by go_simp) hs8 (fun _ => stable_true) (fun W _ _ => ⟨(), W, by go_simp, trivial, Below.refl _ _⟩) (fun i9 hs9 => ?_)
      repeat (with_reducible refine wpC_q (by decide) (by decide) (fun K hK => ?_); go_simp; (try rw [if_neg (by simp [undef])]); refine hK _ ?_; clear hK K)
      with_reducible refine wpC_off (by decide) (by go_simp) ?_
      repeat (with_reducible refine wpC_q (by decide) (by decide) (fun K hK => ?_); go_simp; (try rw [if_neg (by simp [undef])]); refine hK _ ?_; clear hK K)
      refine wpC_nil ?_
      intro w2 hb2 _
      clear x0 x1 x2 y0 y1 y2 y3 y4 HLn HG HN hs0 hs1 hs2 hs3 hs4 hs5 hs6 hs7 hs8 hs9
      go_wp2_with fail
      go_ret
      exact ⟨ret_bool hc.out.symm, hBb.trans (hb2.mono hBb.size)⟩
    have F1 := Lib.hid f1
    clear f1
    cases f2 : inR c.ahead 0 1125899906842624
    case false =>
      have hc := Lib.hid (hno.out (by rintro ⟨-, q0, q1, q2, q3, -⟩; have := q2.symm.trans f2; cases this))
      have F2 := Lib.hid f2
      clear f2
      clear hno hstep
      refine wp_region_ch 44 [3, 4, 6, 9, 21, 24, 27, 30, 33, 36, 39, 42] hmo (by kernel_rfl) ?_
      simp only [List.take_succ_cons, List.take_zero, List.drop_succ_cons, List.drop_zero]
      repeat (with_reducible refine wpC_q (by decide) (by decide) (fun K hK => ?_); go_simp; (try rw [if_neg (by simp [undef])]); refine hK _ ?_; clear hK K)
      with_reducible refine wpC_cg (ι := Unit) 23 #[.agg #[.slice pa pn pc, .slice ca cn cc, .slice ja jn jc]] (fun _ => .int .i64 (sumL R.ps)) (fun _ _ => True) (by decide) (by decide) (by go_simp) (fun w => by go_simp) stable_true (fun _ => stable_true) (fun W hW _ => ?_) (fun i0 hs0 => ?_)
      · obtain ⟨pp, rfl⟩ := hW
        refine (HLn.out _ (HG.out _ _)).mono ?_
        rintro e w' ⟨rfl, hbl⟩
        exact ⟨(), rfl, trivial, hbl⟩
      repeat (with_reducible refine wpC_q (by decide) (by decide) (fun K hK => ?_); go_simp; (try rw [if_neg (by simp [undef])]); refine hK _ ?_; clear hK K)
      with_reducible refine wpC_cg (ι := Unit) 65 #[.int .i64 c.place, .int .i64 0, .int .i64 (sumL R.ps)] (fun _ => .bool true) (fun _ _ => True) (by decide) (by decide) (by go_simp) (fun w => by go_simp) hs0 (fun _ => stable_true) (fun W hW _ => ?_) (fun i1 hs1 => ?_)
      · obtain ⟨pp, rfl⟩ := hW
        refine (HN.out _ _ _ _).mono ?_
        rintro e w' ⟨rfl, hbl⟩
        exact ⟨(), by rw [E1.out], trivial, hbl⟩
      repeat (with_reducible refine wpC_q (by decide) (by decide) (fun K hK => ?_); go_simp; (try rw [if_neg (by simp [undef])]); refine hK _ ?_; clear hK K)
      with_reducible refine wpC_vg (ι := Unit) (fun _ => .bool false) (fun _ _ => True) (by decide) (by decide) (by go_simp) hs1 (fun _ => stable_true) (fun W _ _ => ⟨(), W, by go_simp, trivial, Below.refl _ _⟩) (fun i2 hs2 => ?_)
      repeat (with_reducible refine wpC_q (by decide) (by decide) (fun K hK => ?_); go_simp; (try rw [if_neg (by simp [undef])]); refine hK _ ?_; clear hK K)
      with_reducible refine wpC_vg (ι := Unit) (fun _ => .bool false) (fun _ _ => True) (by decide) (by decide) (by go_simp) hs2 (fun _ => stable_true) (fun W _ _ => ⟨(), W, by go_simp, trivial, Below.refl _ _⟩) (fun i3 hs3 => ?_)
      repeat (with_reducible refine wpC_q (by decide) (by decide) (fun K hK => ?_); go_simp; (try rw [if_neg (by simp [undef])]); refine hK _ ?_; clear hK K)
      with_reducible refine wpC_vg (ι := Unit) (fun _ => .bool false) (fun _ _ => True) (by decide) (by decide) (by go_simp) hs3 (fun _ => stable_true) (fun W _ _ => ⟨(), W, by go_simp, trivial, Below.refl _ _⟩) (fun i4 hs4 => ?_)
      repeat (with_reducible refine wpC_q (by decide) (by decide) (fun K hK => ?_); go_simp; (try rw [if_neg (by simp [undef])]); refine hK _ ?_; clear hK K)
      with_reducible refine wpC_cg (ι := Unit) 65 #[.int .i64 c.lasts, .int .i64 0, .int .i64 1125899906842624] (fun _ => .bool true) (fun _ _ => True) (by decide) (by decide) (by go_simp) (fun w => by go_simp) hs4 (fun _ => stable_true) (fun W hW _ => ?_) (fun i5 hs5 => ?_)
      · obtain ⟨pp, rfl⟩ := hW
        refine (HN.out _ _ _ _).mono ?_
        rintro e w' ⟨rfl, hbl⟩
        exact ⟨(), by rw [F0.out], trivial, hbl⟩
      repeat (with_reducible refine wpC_q (by decide) (by decide) (fun K hK => ?_); go_simp; (try rw [if_neg (by simp [undef])]); refine hK _ ?_; clear hK K)
      with_reducible refine wpC_vg (ι := Unit) (fun _ => .bool false) (fun _ _ => True) (by decide) (by decide) (by go_simp) hs5 (fun _ => stable_true) (fun W _ _ => ⟨(), W, by go_simp, trivial, Below.refl _ _⟩) (fun i6 hs6 => ?_)
      repeat (with_reducible refine wpC_q (by decide) (by decide) (fun K hK => ?_); go_simp; (try rw [if_neg (by simp [undef])]); refine hK _ ?_; clear hK K)
      with_reducible refine wpC_cg (ι := Unit) 65 #[.int .i64 c.lead, .int .i64 0, .int .i64 1125899906842624] (fun _ => .bool true) (fun _ _ => True) (by decide) (by decide) (by go_simp) (fun w => by go_simp) hs6 (fun _ => stable_true) (fun W hW _ => ?_) (fun i7 hs7 => ?_)
      · obtain ⟨pp, rfl⟩ := hW
        refine (HN.out _ _ _ _).mono ?_
        rintro e w' ⟨rfl, hbl⟩
        exact ⟨(), by rw [F1.out], trivial, hbl⟩
      repeat (with_reducible refine wpC_q (by decide) (by decide) (fun K hK => ?_); go_simp; (try rw [if_neg (by simp [undef])]); refine hK _ ?_; clear hK K)
      with_reducible refine wpC_vg (ι := Unit) (fun _ => .bool false) (fun _ _ => True) (by decide) (by decide) (by go_simp) hs7 (fun _ => stable_true) (fun W _ _ => ⟨(), W, by go_simp, trivial, Below.refl _ _⟩) (fun i8 hs8 => ?_)
      repeat (with_reducible refine wpC_q (by decide) (by decide) (fun K hK => ?_); go_simp; (try rw [if_neg (by simp [undef])]); refine hK _ ?_; clear hK K)
      with_reducible refine wpC_cg (ι := Unit) 65 #[.int .i64 c.ahead, .int .i64 0, .int .i64 1125899906842624] (fun _ => .bool false) (fun _ _ => True) (by decide) (by decide) (by go_simp) (fun w => by go_simp) hs8 (fun _ => stable_true) (fun W hW _ => ?_) (fun i9 hs9 => ?_)
      · obtain ⟨pp, rfl⟩ := hW
        refine (HN.out _ _ _ _).mono ?_
        rintro e w' ⟨rfl, hbl⟩
        exact ⟨(), by rw [F2.out], trivial, hbl⟩
      repeat (with_reducible refine wpC_q (by decide) (by decide) (fun K hK => ?_); go_simp; (try rw [if_neg (by simp [undef])]); refine hK _ ?_; clear hK K)
      with_reducible refine wpC_vg (ι := Unit) (fun _ => .bool true) (fun _ _ => True) (by decide) (by decide) (by go_simp) hs9 (fun _ => stable_true) (fun W _ _ => ⟨(), W, by go_simp, trivial, Below.refl _ _⟩) (fun i10 hs10 => ?_)
      repeat (with_reducible refine wpC_q (by decide) (by decide) (fun K hK => ?_); go_simp; (try rw [if_neg (by simp [undef])]); refine hK _ ?_; clear hK K)
      with_reducible refine wpC_off (by decide) (by go_simp) ?_
      repeat (with_reducible refine wpC_q (by decide) (by decide) (fun K hK => ?_); go_simp; (try rw [if_neg (by simp [undef])]); refine hK _ ?_; clear hK K)
      refine wpC_nil ?_
      intro w2 hb2 _
      clear x0 x1 x2 y0 y1 y2 y3 y4 HLn HG HN hs0 hs1 hs2 hs3 hs4 hs5 hs6 hs7 hs8 hs9 hs10
      go_wp2_with fail
      go_ret
      exact ⟨ret_bool hc.out.symm, hBb.trans (hb2.mono hBb.size)⟩
    have F2 := Lib.hid f2
    clear f2
    cases f3 : inR c.value 0 100
    case false =>
      have hc := Lib.hid (hno.out (by rintro ⟨-, q0, q1, q2, q3, -⟩; have := q3.symm.trans f3; cases this))
      have F3 := Lib.hid f3
      clear f3
      clear hno hstep
      refine wp_region_ch 44 [3, 4, 6, 9, 21, 24, 27, 30, 33, 36, 39, 42] hmo (by kernel_rfl) ?_
      simp only [List.take_succ_cons, List.take_zero, List.drop_succ_cons, List.drop_zero]
      repeat (with_reducible refine wpC_q (by decide) (by decide) (fun K hK => ?_); go_simp; (try rw [if_neg (by simp [undef])]); refine hK _ ?_; clear hK K)
      with_reducible refine wpC_cg (ι := Unit) 23 #[.agg #[.slice pa pn pc, .slice ca cn cc, .slice ja jn jc]] (fun _ => .int .i64 (sumL R.ps)) (fun _ _ => True) (by decide) (by decide) (by go_simp) (fun w => by go_simp) stable_true (fun _ => stable_true) (fun W hW _ => ?_) (fun i0 hs0 => ?_)
      · obtain ⟨pp, rfl⟩ := hW
        refine (HLn.out _ (HG.out _ _)).mono ?_
        rintro e w' ⟨rfl, hbl⟩
        exact ⟨(), rfl, trivial, hbl⟩
      repeat (with_reducible refine wpC_q (by decide) (by decide) (fun K hK => ?_); go_simp; (try rw [if_neg (by simp [undef])]); refine hK _ ?_; clear hK K)
      with_reducible refine wpC_cg (ι := Unit) 65 #[.int .i64 c.place, .int .i64 0, .int .i64 (sumL R.ps)] (fun _ => .bool true) (fun _ _ => True) (by decide) (by decide) (by go_simp) (fun w => by go_simp) hs0 (fun _ => stable_true) (fun W hW _ => ?_) (fun i1 hs1 => ?_)
      · obtain ⟨pp, rfl⟩ := hW
        refine (HN.out _ _ _ _).mono ?_
        rintro e w' ⟨rfl, hbl⟩
        exact ⟨(), by rw [E1.out], trivial, hbl⟩
      repeat (with_reducible refine wpC_q (by decide) (by decide) (fun K hK => ?_); go_simp; (try rw [if_neg (by simp [undef])]); refine hK _ ?_; clear hK K)
      with_reducible refine wpC_vg (ι := Unit) (fun _ => .bool false) (fun _ _ => True) (by decide) (by decide) (by go_simp) hs1 (fun _ => stable_true) (fun W _ _ => ⟨(), W, by go_simp, trivial, Below.refl _ _⟩) (fun i2 hs2 => ?_)
      repeat (with_reducible refine wpC_q (by decide) (by decide) (fun K hK => ?_); go_simp; (try rw [if_neg (by simp [undef])]); refine hK _ ?_; clear hK K)
      with_reducible refine wpC_vg (ι := Unit) (fun _ => .bool false) (fun _ _ => True) (by decide) (by decide) (by go_simp) hs2 (fun _ => stable_true) (fun W _ _ => ⟨(), W, by go_simp, trivial, Below.refl _ _⟩) (fun i3 hs3 => ?_)
      repeat (with_reducible refine wpC_q (by decide) (by decide) (fun K hK => ?_); go_simp; (try rw [if_neg (by simp [undef])]); refine hK _ ?_; clear hK K)
      with_reducible refine wpC_vg (ι := Unit) (fun _ => .bool false) (fun _ _ => True) (by decide) (by decide) (by go_simp) hs3 (fun _ => stable_true) (fun W _ _ => ⟨(), W, by go_simp, trivial, Below.refl _ _⟩) (fun i4 hs4 => ?_)
      repeat (with_reducible refine wpC_q (by decide) (by decide) (fun K hK => ?_); go_simp; (try rw [if_neg (by simp [undef])]); refine hK _ ?_; clear hK K)
      with_reducible refine wpC_cg (ι := Unit) 65 #[.int .i64 c.lasts, .int .i64 0, .int .i64 1125899906842624] (fun _ => .bool true) (fun _ _ => True) (by decide) (by decide) (by go_simp) (fun w => by go_simp) hs4 (fun _ => stable_true) (fun W hW _ => ?_) (fun i5 hs5 => ?_)
      · obtain ⟨pp, rfl⟩ := hW
        refine (HN.out _ _ _ _).mono ?_
        rintro e w' ⟨rfl, hbl⟩
        exact ⟨(), by rw [F0.out], trivial, hbl⟩
      repeat (with_reducible refine wpC_q (by decide) (by decide) (fun K hK => ?_); go_simp; (try rw [if_neg (by simp [undef])]); refine hK _ ?_; clear hK K)
      with_reducible refine wpC_vg (ι := Unit) (fun _ => .bool false) (fun _ _ => True) (by decide) (by decide) (by go_simp) hs5 (fun _ => stable_true) (fun W _ _ => ⟨(), W, by go_simp, trivial, Below.refl _ _⟩) (fun i6 hs6 => ?_)
      repeat (with_reducible refine wpC_q (by decide) (by decide) (fun K hK => ?_); go_simp; (try rw [if_neg (by simp [undef])]); refine hK _ ?_; clear hK K)
      with_reducible refine wpC_cg (ι := Unit) 65 #[.int .i64 c.lead, .int .i64 0, .int .i64 1125899906842624] (fun _ => .bool true) (fun _ _ => True) (by decide) (by decide) (by go_simp) (fun w => by go_simp) hs6 (fun _ => stable_true) (fun W hW _ => ?_) (fun i7 hs7 => ?_)
      · obtain ⟨pp, rfl⟩ := hW
        refine (HN.out _ _ _ _).mono ?_
        rintro e w' ⟨rfl, hbl⟩
        exact ⟨(), by rw [F1.out], trivial, hbl⟩
      repeat (with_reducible refine wpC_q (by decide) (by decide) (fun K hK => ?_); go_simp; (try rw [if_neg (by simp [undef])]); refine hK _ ?_; clear hK K)
      with_reducible refine wpC_vg (ι := Unit) (fun _ => .bool false) (fun _ _ => True) (by decide) (by decide) (by go_simp) hs7 (fun _ => stable_true) (fun W _ _ => ⟨(), W, by go_simp, trivial, Below.refl _ _⟩) (fun i8 hs8 => ?_)
      repeat (with_reducible refine wpC_q (by decide) (by decide) (fun K hK => ?_); go_simp; (try rw [if_neg (by simp [undef])]); refine hK _ ?_; clear hK K)
      with_reducible refine wpC_cg (ι := Unit) 65 #[.int .i64 c.ahead, .int .i64 0, .int .i64 1125899906842624] (fun _ => .bool true) (fun _ _ => True) (by decide) (by decide) (by go_simp) (fun w => by go_simp) hs8 (fun _ => stable_true) (fun W hW _ => ?_) (fun i9 hs9 => ?_)
      · obtain ⟨pp, rfl⟩ := hW
        refine (HN.out _ _ _ _).mono ?_
        rintro e w' ⟨rfl, hbl⟩
        exact ⟨(), by rw [F2.out], trivial, hbl⟩
      repeat (with_reducible refine wpC_q (by decide) (by decide) (fun K hK => ?_); go_simp; (try rw [if_neg (by simp [undef])]); refine hK _ ?_; clear hK K)
      with_reducible refine wpC_vg (ι := Unit) (fun _ => .bool false) (fun _ _ => True) (by decide) (by decide) (by go_simp) hs9 (fun _ => stable_true) (fun W _ _ => ⟨(), W, by go_simp, trivial, Below.refl _ _⟩) (fun i10 hs10 => ?_)
      repeat (with_reducible refine wpC_q (by decide) (by decide) (fun K hK => ?_); go_simp; (try rw [if_neg (by simp [undef])]); refine hK _ ?_; clear hK K)
      with_reducible refine wpC_cg (ι := Unit) 65 #[.int .i64 c.value, .int .i64 0, .int .i64 100] (fun _ => .bool false) (fun _ _ => True) (by decide) (by decide) (by go_simp) (fun w => by go_simp) hs10 (fun _ => stable_true) (fun W hW _ => ?_) (fun i11 hs11 => ?_)
      · obtain ⟨pp, rfl⟩ := hW
        refine (HN.out _ _ _ _).mono ?_
        rintro e w' ⟨rfl, hbl⟩
        exact ⟨(), by rw [F3.out], trivial, hbl⟩
      repeat (with_reducible refine wpC_q (by decide) (by decide) (fun K hK => ?_); go_simp; (try rw [if_neg (by simp [undef])]); refine hK _ ?_; clear hK K)
      refine wpC_nil ?_
      intro w2 hb2 _
      clear x0 x1 x2 y0 y1 y2 y3 y4 HLn HG HN hs0 hs1 hs2 hs3 hs4 hs5 hs6 hs7 hs8 hs9 hs10 hs11
      go_wp2_with fail
      go_ret
      exact ⟨ret_bool hc.out.symm, hBb.trans (hb2.mono hBb.size)⟩
    have F3 := Lib.hid f3
    clear f3
    have hs' := Lib.hid (hstep.out ⟨E1.out, F0.out, F1.out, F2.out, F3.out, fun d' h' => absurd h' hm0⟩)
    clear hno hstep
    refine wp_region_ch 44 [3, 4, 6, 9, 21, 24, 27, 30, 33, 36, 39, 42] hmo (by kernel_rfl) ?_
    simp only [List.take_succ_cons, List.take_zero, List.drop_succ_cons, List.drop_zero]
    repeat (with_reducible refine wpC_q (by decide) (by decide) (fun K hK => ?_); go_simp; (try rw [if_neg (by simp [undef])]); refine hK _ ?_; clear hK K)
    with_reducible refine wpC_cg (ι := Unit) 23 #[.agg #[.slice pa pn pc, .slice ca cn cc, .slice ja jn jc]] (fun _ => .int .i64 (sumL R.ps)) (fun _ _ => True) (by decide) (by decide) (by go_simp) (fun w => by go_simp) stable_true (fun _ => stable_true) (fun W hW _ => ?_) (fun i0 hs0 => ?_)
    · obtain ⟨pp, rfl⟩ := hW
      refine (HLn.out _ (HG.out _ _)).mono ?_
      rintro e w' ⟨rfl, hbl⟩
      exact ⟨(), rfl, trivial, hbl⟩
    repeat (with_reducible refine wpC_q (by decide) (by decide) (fun K hK => ?_); go_simp; (try rw [if_neg (by simp [undef])]); refine hK _ ?_; clear hK K)
    with_reducible refine wpC_cg (ι := Unit) 65 #[.int .i64 c.place, .int .i64 0, .int .i64 (sumL R.ps)] (fun _ => .bool true) (fun _ _ => True) (by decide) (by decide) (by go_simp) (fun w => by go_simp) hs0 (fun _ => stable_true) (fun W hW _ => ?_) (fun i1 hs1 => ?_)
    · obtain ⟨pp, rfl⟩ := hW
      refine (HN.out _ _ _ _).mono ?_
      rintro e w' ⟨rfl, hbl⟩
      exact ⟨(), by rw [E1.out], trivial, hbl⟩
    repeat (with_reducible refine wpC_q (by decide) (by decide) (fun K hK => ?_); go_simp; (try rw [if_neg (by simp [undef])]); refine hK _ ?_; clear hK K)
    with_reducible refine wpC_vg (ι := Unit) (fun _ => .bool false) (fun _ _ => True) (by decide) (by decide) (by go_simp) hs1 (fun _ => stable_true) (fun W _ _ => ⟨(), W, by go_simp, trivial, Below.refl _ _⟩) (fun i2 hs2 => ?_)
    repeat (with_reducible refine wpC_q (by decide) (by decide) (fun K hK => ?_); go_simp; (try rw [if_neg (by simp [undef])]); refine hK _ ?_; clear hK K)
    with_reducible refine wpC_vg (ι := Unit) (fun _ => .bool false) (fun _ _ => True) (by decide) (by decide) (by go_simp) hs2 (fun _ => stable_true) (fun W _ _ => ⟨(), W, by go_simp, trivial, Below.refl _ _⟩) (fun i3 hs3 => ?_)
    repeat (with_reducible refine wpC_q (by decide) (by decide) (fun K hK => ?_); go_simp; (try rw [if_neg (by simp [undef])]); refine hK _ ?_; clear hK K)
    with_reducible refine wpC_vg (ι := Unit) (fun _ => .bool false) (fun _ _ => True) (by decide) (by decide) (by go_simp) hs3 (fun _ => stable_true) (fun W _ _ => ⟨(), W, by go_simp, trivial, Below.refl _ _⟩) (fun i4 hs4 => ?_)
    repeat (with_reducible refine wpC_q (by decide) (by decide) (fun K hK => ?_); go_simp; (try rw [if_neg (by simp [undef])]); refine hK _ ?_; clear hK K)
    with_reducible refine wpC_cg (ι := Unit) 65 #[.int .i64 c.lasts, .int .i64 0, .int .i64 1125899906842624] (fun _ => .bool true) (fun _ _ => True) (by decide) (by decide) (by go_simp) (fun w => by go_simp) hs4 (fun _ => stable_true) (fun W hW _ => ?_) (fun i5 hs5 => ?_)
    · obtain ⟨pp, rfl⟩ := hW
      refine (HN.out _ _ _ _).mono ?_
      rintro e w' ⟨rfl, hbl⟩
      exact ⟨(), by rw [F0.out], trivial, hbl⟩
    repeat (with_reducible refine wpC_q (by decide) (by decide) (fun K hK => ?_); go_simp; (try rw [if_neg (by simp [undef])]); refine hK _ ?_; clear hK K)
    with_reducible refine wpC_vg (ι := Unit) (fun _ => .bool false) (fun _ _ => True) (by decide) (by decide) (by go_simp) hs5 (fun _ => stable_true) (fun W _ _ => ⟨(), W, by go_simp, trivial, Below.refl _ _⟩) (fun i6 hs6 => ?_)
    repeat (with_reducible refine wpC_q (by decide) (by decide) (fun K hK => ?_); go_simp; (try rw [if_neg (by simp [undef])]); refine hK _ ?_; clear hK K)
    with_reducible refine wpC_cg (ι := Unit) 65 #[.int .i64 c.lead, .int .i64 0, .int .i64 1125899906842624] (fun _ => .bool true) (fun _ _ => True) (by decide) (by decide) (by go_simp) (fun w => by go_simp) hs6 (fun _ => stable_true) (fun W hW _ => ?_) (fun i7 hs7 => ?_)
    · obtain ⟨pp, rfl⟩ := hW
      refine (HN.out _ _ _ _).mono ?_
      rintro e w' ⟨rfl, hbl⟩
      exact ⟨(), by rw [F1.out], trivial, hbl⟩
    repeat (with_reducible refine wpC_q (by decide) (by decide) (fun K hK => ?_); go_simp; (try rw [if_neg (by simp [undef])]); refine hK _ ?_; clear hK K)
    with_reducible refine wpC_vg (ι := Unit) (fun _ => .bool false) (fun _ _ => True) (by decide) (by decide) (by go_simp) hs7 (fun _ => stable_true) (fun W _ _ => ⟨(), W, by go_simp, trivial, Below.refl _ _⟩) (fun i8 hs8 => ?_)
    repeat (with_reducible refine wpC_q (by decide) (by decide) (fun K hK => ?_); go_simp; (try rw [if_neg (by simp [undef])]); refine hK _ ?_; clear hK K)
    with_reducible refine wpC_cg (ι := Unit) 65 #[.int .i64 c.ahead, .int .i64 0, .int .i64 1125899906842624] (fun _ => .bool true) (fun _ _ => True) (by decide) (by decide) (by go_simp) (fun w => by go_simp) hs8 (fun _ => stable_true) (fun W hW _ => ?_) (fun i9 hs9 => ?_)
    · obtain ⟨pp, rfl⟩ := hW
      refine (HN.out _ _ _ _).mono ?_
      rintro e w' ⟨rfl, hbl⟩
      exact ⟨(), by rw [F2.out], trivial, hbl⟩
    repeat (with_reducible refine wpC_q (by decide) (by decide) (fun K hK => ?_); go_simp; (try rw [if_neg (by simp [undef])]); refine hK _ ?_; clear hK K)
    with_reducible refine wpC_vg (ι := Unit) (fun _ => .bool false) (fun _ _ => True) (by decide) (by decide) (by go_simp) hs9 (fun _ => stable_true) (fun W _ _ => ⟨(), W, by go_simp, trivial, Below.refl _ _⟩) (fun i10 hs10 => ?_)
    repeat (with_reducible refine wpC_q (by decide) (by decide) (fun K hK => ?_); go_simp; (try rw [if_neg (by simp [undef])]); refine hK _ ?_; clear hK K)
    with_reducible refine wpC_cg (ι := Unit) 65 #[.int .i64 c.value, .int .i64 0, .int .i64 100] (fun _ => .bool true) (fun _ _ => True) (by decide) (by decide) (by go_simp) (fun w => by go_simp) hs10 (fun _ => stable_true) (fun W hW _ => ?_) (fun i11 hs11 => ?_)
    · obtain ⟨pp, rfl⟩ := hW
      refine (HN.out _ _ _ _).mono ?_
      rintro e w' ⟨rfl, hbl⟩
      exact ⟨(), by rw [F3.out], trivial, hbl⟩
    repeat (with_reducible refine wpC_q (by decide) (by decide) (fun K hK => ?_); go_simp; (try rw [if_neg (by simp [undef])]); refine hK _ ?_; clear hK K)
    refine wpC_nil ?_
    intro w2 hb2 _
    clear x0 x1 x2 y0 y1 y2 y3 y4 HLn HG HN hs0 hs1 hs2 hs3 hs4 hs5 hs6 hs7 hs8 hs9 hs10 hs11
    go_wp2_with fail
    go_roundw
    case rel => exact ⟨m + 1, by omega, by go_num, hbw.trans (hb2.mono hbw.size), hs'⟩
    case measure => simp [intOf]; omega
end Go.Proofs.YtijcbfhlhgjedaaDoor
