/- The document's test of triggers. -/
import Derived.Test.YtijcbfhlhgjedaaDoorCAll
namespace Go.Proofs.YtijcbfhlhgjedaaDoor
open Go.RowKit Go.Shelf Go.Sort Go.Proofs

set_option maxRecDepth 100000 in
set_option maxHeartbeats 8000000 in
theorem R3Trig_any (ka : Option Addr) (kn kc : Nat) (la : Option Addr) (ln lc : Nat) (ls : List Int) (pa : Option Addr) (pn pc : Nat) (ca : Option Addr) (cn cc : Nat) (ja : Option Addr) (jn jc : Nat) (R : Road) (w : World) (h : RD w w.heap.size pa pn ca cn ja jn R) (hv : OK R)
    (hL : SL iC 1 w w.heap.size la ln ls) (hln : ln ≤ 100000) :
    Calls Tryd.prog 39 #[.agg #[.slice pa pn pc, .slice ca cn cc, .slice ja jn jc], .slice ka kn kc, .slice la ln lc] w fun e w' => e = .returned (.bool (trB (sumL R.ps) kn ls)) ∧ Below w.heap.size w w' := by
  have HR := Lib.hid h
  have HK := Lib.hid hL
  have HL := Lib.hid hL.1
  have HV := Lib.hid hv
  have hmo : Tryd.prog.follows .mixedOrders = true := by kernel_rfl
  clear h hL hv
  obtain ⟨w0, hw0⟩ : ∃ w0, w0 = w.alloc (.cells #[.slice pa pn pc, .slice ca cn cc, .slice ja jn jc] 26) := ⟨_, rfl⟩
  have hB0 : Below w.heap.size w w0 := by rw [hw0]; exact (Below.refl w.heap.size w).alloc (Nat.le_refl _) _
  have hX0 : BK w0 (w.heap.size) 26 #[.slice pa pn pc, .slice ca cn cc, .slice ja jn jc] := by rw [hw0]; exact (BK.new w 26 #[.slice pa pn pc, .slice ca cn cc, .slice ja jn jc])
  by_cases hne : ln = kn
  case neg =>
    have hc : Hid (trB (sumL R.ps) kn ls = false) := trB_bad (fun q => hne (by rw [← q.l, HL.out]))
    have g0 : ((ln : Int) == (kn : Int)) = false := by simp; omega
    go_enter Tryd.func39, Tryd.ntmps39
    go_wp2_with fail
    rw [← hw0]
    clear hw0
    go_ret
    exact ⟨ret_bool hc.out.symm, hB0⟩
  subst hne
  go_enter Tryd.func39, Tryd.ntmps39
  go_wp2_with fail
  rw [← hw0]
  clear hw0
  have hz0 := hB0.size
  have hl0 := hX0.lt
  go_loopw [7] (fun i wr => ∃ k : Nat, k ≤ ln ∧ i = .int .i64 k ∧ Below w0.heap.size w0 wr ∧ Hid (∀ i, i < k → gAt (sumL R.ps) ls i))
    (fun i _ => ln - (intOf i).toNat)
  case atStart => exact ⟨0, Nat.zero_le _, rfl, Below.refl _ _, by simp [Hid]⟩
  case round =>
    obtain ⟨m, hm, rfl, hbr, hall⟩ := hrel
    have hBr := hB0.trans (hbr.mono hz0)
    have hXr := hX0.below hbr hX0.lt
    have hzr := hbr.size
    by_cases hlt : m < ln
    case neg =>
      obtain rfl : m = ln := by omega
      have hend : Hid (trB (sumL R.ps) m ls = true) := trB_ok ⟨HL.out.symm, fun i hi => hall.out i (by rw [HL.out]; exact hi)⟩
      go_wp2_with fail
      go_ret
      exact ⟨ret_bool hend.out.symm, hBr⟩
    have hkl : m < ls.length := by rw [← HL.out]; exact hlt
    have hw := HK.out.grow hBr hBr.size
    obtain ⟨b, off, hA, hbB, c0⟩ := IS.at_ hw (k := m) hkl
    have hstep : Hid (∀ (hh : inR ls[m] 0 (sumL R.ps) = true ∧ ∀ d, 0 < m → ls[m-1]? = some d → d ≤ ls[m]), ∀ i, i < m + 1 → gAt (sumL R.ps) ls i) := by
      intro hh i hi
      rcases Nat.lt_or_ge i m with h | h
      · exact hall.out i h
      · obtain rfl : i = m := by omega
        intro c hc
        rw [List.getElem?_eq_getElem hkl] at hc
        cases hc
        exact hh
    have hno : Hid (∀ (hh : ¬ (inR ls[m] 0 (sumL R.ps) = true ∧ ∀ d, 0 < m → ls[m-1]? = some d → d ≤ ls[m])), trB (sumL R.ps) ln ls = false) := by
      intro hh
      exact trB_bad (fun q => hh (q.t m hkl _ (List.getElem?_eq_getElem hkl)))
    have hprev : ∃ d : Int, Hid (0 < m → ls[m-1]? = some d) ∧ (0 < m → wr.cell? ⟨b, off + (m-1), none⟩ = some (.int .i64 d)) := by
      rcases Nat.eq_zero_or_pos m with h0 | h0
      · exact ⟨0, fun h => by omega, fun h => by omega⟩
      · obtain ⟨b2, off2, hA2, _, c02⟩ := IS.at_ hw (k := m - 1) (by omega)
        rw [hA] at hA2
        cases hA2
        exact ⟨ls[m-1], fun _ => List.getElem?_eq_getElem (by omega), fun _ => c02⟩
    obtain ⟨d, hd, cd⟩ := hprev
    generalize ls[m]'hkl = c at c0 hstep hno
    clear hw hkl hall
    have hm1 : (0 : Int) ≤ (m : Int) := by omega
    have hm2 : (m : Int) < (ln : Int) := by omega
    subst hA
    go_wp2_with fail
    have x0 := fun d os => cell_regrown (hXr.cell 0) d os
    have x1 := fun d os => cell_regrown (hXr.cell 1) d os
    have x2 := fun d os => cell_regrown (hXr.cell 2) d os
    have y0 := fun d os => cell_regrown c0 d os
    have hlx := hXr.lt
    have HLn := Lib.hid (fun (W : World) (hW : RD W W.heap.size pa pn ca cn ja jn R) => R3Length_any pa pn pc ca cn cc ja jn jc R W hW HV.out)
    have HG := Lib.hid (fun d os => HR.out.grow (hBr.trans ((below_regrown wr d os).mono hBr.size)) (Nat.le_trans hBr.size (below_regrown wr d os).size))
    have HN := Lib.hid (fun (x lo hi : Int) (W : World) => in3_bel x lo hi W)
    cases e1 : inR c 0 (sumL R.ps)
    case false =>
      have hc := Lib.hid (hno.out (by simp [e1]))
      have E1 := Lib.hid e1
      clear e1 cd
      clear hno hstep
      refine wp_region_ch 23 [5, 6, 8, 11] hmo (by kernel_rfl) ?_
      simp only [List.take_succ_cons, List.take_zero, List.drop_succ_cons, List.drop_zero]
      repeat (with_reducible refine wpC_q (by decide) (by decide) (fun K hK => ?_); go_simp; (try rw [if_neg (by simp [undef])]); refine hK _ ?_; clear hK K)
      with_reducible refine wpC_cg (ι := Unit) 23 #[.agg #[.slice pa pn pc, .slice ca cn cc, .slice ja jn jc]] (fun _ => .int .i64 (sumL R.ps)) (fun _ _ => True) (by decide) (by decide) (by go_simp) (fun w => by go_simp) stable_true (fun _ => stable_true) (fun W hW _ => ?_) (fun i0 hs0 => ?_)
      · obtain ⟨pp, rfl⟩ := hW
        refine (HLn.out _ (HG.out _ _)).mono ?_
        rintro e w' ⟨rfl, hbl⟩
        exact ⟨(), rfl, trivial, hbl⟩
      repeat (with_reducible refine wpC_q (by decide) (by decide) (fun K hK => ?_); go_simp; (try rw [if_neg (by simp [undef])]); refine hK _ ?_; clear hK K)
      with_reducible refine wpC_cg (ι := Unit) 65 #[.int .i64 c, .int .i64 0, .int .i64 (sumL R.ps)] (fun _ => .bool false) (fun _ _ => True) (by decide) (by decide) (by go_simp) (fun w => by go_simp) hs0 (fun _ => stable_true) (fun W hW _ => ?_) (fun i1 hs1 => ?_)
      · obtain ⟨pp, rfl⟩ := hW
        refine (HN.out _ _ _ _).mono ?_
        rintro e w' ⟨rfl, hbl⟩
        exact ⟨(), by rw [E1.out], trivial, hbl⟩
      repeat (with_reducible refine wpC_q (by decide) (by decide) (fun K hK => ?_); go_simp; (try rw [if_neg (by simp [undef])]); refine hK _ ?_; clear hK K)
      with_reducible refine wpC_vg (ι := Unit) (fun _ => .bool true) (fun _ _ => True) (by decide) (by decide) (by go_simp) hs1 (fun _ => stable_true) (fun W _ _ => ⟨(), W, by go_simp, trivial, Below.refl _ _⟩) (fun i2 hs2 => ?_)
      repeat (with_reducible refine wpC_q (by decide) (by decide) (fun K hK => ?_); go_simp; (try rw [if_neg (by simp [undef])]); refine hK _ ?_; clear hK K)
      with_reducible refine wpC_off (by decide) (by go_simp) ?_
      repeat (with_reducible refine wpC_q (by decide) (by decide) (fun K hK => ?_); go_simp; (try rw [if_neg (by simp [undef])]); refine hK _ ?_; clear hK K)
      refine wpC_nil ?_
      intro w2 hb2 _
      clear x0 x1 x2 y0 HLn HG HN hs0 hs1 hs2
      go_wp2_with fail
      go_ret
      exact ⟨ret_bool hc.out.symm, hBr.trans (hb2.mono hBr.size)⟩
    have E1 := Lib.hid e1
    by_cases hm0 : 0 < m
    case pos =>
      have hg : decide ((0 : Int) < (m : Int)) = true := by simp; omega
      have z0 := fun d os => cell_regrown (cd hm0) d os
      have hwm : IntKind.i64.wrap ((m : Int) - 1) = ((m - 1 : Nat) : Int) := (IntWalk.i64_in _ (by omega)).trans (by omega)
      have hm3 : ((m - 1 : Nat) : Int) < (ln : Int) := by omega
      clear cd
      by_cases hlt2 : c < d
      case pos =>
        have g3 : decide (c < d) = true := by simpa using hlt2
        have hc := Lib.hid (hno.out (by rintro ⟨-, h⟩; have := h d hm0 (hd.out hm0); omega))
        clear hlt2 e1
        clear hno hstep
        refine wp_region_ch 23 [5, 6, 8, 11] hmo (by kernel_rfl) ?_
        simp only [List.take_succ_cons, List.take_zero, List.drop_succ_cons, List.drop_zero]
        repeat (with_reducible refine wpC_q (by decide) (by decide) (fun K hK => ?_); go_simp; (try rw [if_neg (by simp [undef])]); refine hK _ ?_; clear hK K)
        with_reducible refine wpC_cg (ι := Unit) 23 #[.agg #[.slice pa pn pc, .slice ca cn cc, .slice ja jn jc]] (fun _ => .int .i64 (sumL R.ps)) (fun _ _ => True) (by decide) (by decide) (by go_simp) (fun w => by go_simp) stable_true (fun _ => stable_true) (fun W hW _ => ?_) (fun i0 hs0 => ?_)
        · obtain ⟨pp, rfl⟩ := hW
          refine (HLn.out _ (HG.out _ _)).mono ?_
          rintro e w' ⟨rfl, hbl⟩
          exact ⟨(), rfl, trivial, hbl⟩
        repeat (with_reducible refine wpC_q (by decide) (by decide) (fun K hK => ?_); go_simp; (try rw [if_neg (by simp [undef])]); refine hK _ ?_; clear hK K)
        with_reducible refine wpC_cg (ι := Unit) 65 #[.int .i64 c, .int .i64 0, .int .i64 (sumL R.ps)] (fun _ => .bool true) (fun _ _ => True) (by decide) (by decide) (by go_simp) (fun w => by go_simp) hs0 (fun _ => stable_true) (fun W hW _ => ?_) (fun i1 hs1 => ?_)
        · obtain ⟨pp, rfl⟩ := hW
          refine (HN.out _ _ _ _).mono ?_
          rintro e w' ⟨rfl, hbl⟩
          exact ⟨(), by rw [E1.out], trivial, hbl⟩
        repeat (with_reducible refine wpC_q (by decide) (by decide) (fun K hK => ?_); go_simp; (try rw [if_neg (by simp [undef])]); refine hK _ ?_; clear hK K)
        with_reducible refine wpC_vg (ι := Unit) (fun _ => .bool false) (fun _ _ => True) (by decide) (by decide) (by go_simp) hs1 (fun _ => stable_true) (fun W _ _ => ⟨(), W, by go_simp, trivial, Below.refl _ _⟩) (fun i2 hs2 => ?_)
        repeat (with_reducible refine wpC_q (by decide) (by decide) (fun K hK => ?_); go_simp; (try rw [if_neg (by simp [undef])]); refine hK _ ?_; clear hK K)
        with_reducible refine wpC_vg (ι := Unit) (fun _ => .bool true) (fun _ _ => True) (by decide) (by decide) (by go_simp) hs2 (fun _ => stable_true) (fun W _ _ => ⟨(), W, by go_simp, trivial, Below.refl _ _⟩) (fun i3 hs3 => ?_)
        repeat (with_reducible refine wpC_q (by decide) (by decide) (fun K hK => ?_); go_simp; (try rw [if_neg (by simp [undef])]); refine hK _ ?_; clear hK K)
        refine wpC_nil ?_
        intro w2 hb2 _
        clear x0 x1 x2 y0 HLn HG HN hs0 hs1 hs2 hs3
        go_wp2_with fail
        go_ret
        exact ⟨ret_bool hc.out.symm, hBr.trans (hb2.mono hBr.size)⟩
      have g3 : decide (c < d) = false := by simpa using hlt2
      have hs' := Lib.hid (hstep.out ⟨e1, fun d' _ h' => by rw [hd.out hm0] at h'; cases h'; omega⟩)
      clear hlt2 e1
      clear hno hstep
      refine wp_region_ch 23 [5, 6, 8, 11] hmo (by kernel_rfl) ?_
      simp only [List.take_succ_cons, List.take_zero, List.drop_succ_cons, List.drop_zero]
      repeat (with_reducible refine wpC_q (by decide) (by decide) (fun K hK => ?_); go_simp; (try rw [if_neg (by simp [undef])]); refine hK _ ?_; clear hK K)
      with_reducible refine wpC_cg (ι := Unit) 23 #[.agg #[.slice pa pn pc, .slice ca cn cc, .slice ja jn jc]] (fun _ => .int .i64 (sumL R.ps)) (fun _ _ => True) (by decide) (by decide) (by go_simp) (fun w => by go_simp) stable_true (fun _ => stable_true) (fun W hW _ => ?_) (fun i0 hs0 => ?_)
      · obtain ⟨pp, rfl⟩ := hW
        refine (HLn.out _ (HG.out _ _)).mono ?_
        rintro e w' ⟨rfl, hbl⟩
        exact ⟨(), rfl, trivial, hbl⟩
      repeat (with_reducible refine wpC_q (by decide) (by decide) (fun K hK => ?_); go_simp; (try rw [if_neg (by simp [undef])]); refine hK _ ?_; clear hK K)
      with_reducible refine wpC_cg (ι := Unit) 65 #[.int .i64 c, .int .i64 0, .int .i64 (sumL R.ps)] (fun _ => .bool true) (fun _ _ => True) (by decide) (by decide) (by go_simp) (fun w => by go_simp) hs0 (fun _ => stable_true) (fun W hW _ => ?_) (fun i1 hs1 => ?_)
      · obtain ⟨pp, rfl⟩ := hW
        refine (HN.out _ _ _ _).mono ?_
        rintro e w' ⟨rfl, hbl⟩
        exact ⟨(), by rw [E1.out], trivial, hbl⟩
      repeat (with_reducible refine wpC_q (by decide) (by decide) (fun K hK => ?_); go_simp; (try rw [if_neg (by simp [undef])]); refine hK _ ?_; clear hK K)
      with_reducible refine wpC_vg (ι := Unit) (fun _ => .bool false) (fun _ _ => True) (by decide) (by decide) (by go_simp) hs1 (fun _ => stable_true) (fun W _ _ => ⟨(), W, by go_simp, trivial, Below.refl _ _⟩) (fun i2 hs2 => ?_)
      repeat (with_reducible refine wpC_q (by decide) (by decide) (fun K hK => ?_); go_simp; (try rw [if_neg (by simp [undef])]); refine hK _ ?_; clear hK K)
      with_reducible refine wpC_vg (ι := Unit) (fun _ => .bool true) (fun _ _ => True) (by decide) (by decide) (by go_simp) hs2 (fun _ => stable_true) (fun W _ _ => ⟨(), W, by go_simp, trivial, Below.refl _ _⟩) (fun i3 hs3 => ?_)
      repeat (with_reducible refine wpC_q (by decide) (by decide) (fun K hK => ?_); go_simp; (try rw [if_neg (by simp [undef])]); refine hK _ ?_; clear hK K)
      refine wpC_nil ?_
      intro w2 hb2 _
      clear x0 x1 x2 y0 HLn HG HN hs0 hs1 hs2 hs3
      go_wp2_with fail
      go_roundw
      case rel => exact ⟨m + 1, by omega, by go_num, hbr.trans (hb2.mono hbr.size), hs'⟩
      case measure => simp [intOf]; omega
    have hg : decide ((0 : Int) < (m : Int)) = false := by simp; omega
    have hs' := Lib.hid (hstep.out ⟨e1, fun d' h' => absurd h' hm0⟩)
    clear e1 cd
    clear hno hstep
    refine wp_region_ch 23 [5, 6, 8, 11] hmo (by kernel_rfl) ?_
    simp only [List.take_succ_cons, List.take_zero, List.drop_succ_cons, List.drop_zero]
    repeat (with_reducible refine wpC_q (by decide) (by decide) (fun K hK => ?_); go_simp; (try rw [if_neg (by simp [undef])]); refine hK _ ?_; clear hK K)
    with_reducible refine wpC_cg (ι := Unit) 23 #[.agg #[.slice pa pn pc, .slice ca cn cc, .slice ja jn jc]] (fun _ => .int .i64 (sumL R.ps)) (fun _ _ => True) (by decide) (by decide) (by go_simp) (fun w => by go_simp) stable_true (fun _ => stable_true) (fun W hW _ => ?_) (fun i0 hs0 => ?_)
    · obtain ⟨pp, rfl⟩ := hW
      refine (HLn.out _ (HG.out _ _)).mono ?_
      rintro e w' ⟨rfl, hbl⟩
      exact ⟨(), rfl, trivial, hbl⟩
    repeat (with_reducible refine wpC_q (by decide) (by decide) (fun K hK => ?_); go_simp; (try rw [if_neg (by simp [undef])]); refine hK _ ?_; clear hK K)
    with_reducible refine wpC_cg (ι := Unit) 65 #[.int .i64 c, .int .i64 0, .int .i64 (sumL R.ps)] (fun _ => .bool true) (fun _ _ => True) (by decide) (by decide) (by go_simp) (fun w => by go_simp) hs0 (fun _ => stable_true) (fun W hW _ => ?_) (fun i1 hs1 => ?_)
    · obtain ⟨pp, rfl⟩ := hW
      refine (HN.out _ _ _ _).mono ?_
      rintro e w' ⟨rfl, hbl⟩
      exact ⟨(), by rw [E1.out], trivial, hbl⟩
    repeat (with_reducible refine wpC_q (by decide) (by decide) (fun K hK => ?_); go_simp; (try rw [if_neg (by simp [undef])]); refine hK _ ?_; clear hK K)
    with_reducible refine wpC_vg (ι := Unit) (fun _ => .bool false) (fun _ _ => True) (by decide) (by decide) (by go_simp) hs1 (fun _ => stable_true) (fun W _ _ => ⟨(), W, by go_simp, trivial, Below.refl _ _⟩) (fun i2 hs2 => ?_)
    repeat (with_reducible refine wpC_q (by decide) (by decide) (fun K hK => ?_); go_simp; (try rw [if_neg (by simp [undef])]); refine hK _ ?_; clear hK K)
    with_reducible refine wpC_vg (ι := Unit) (fun _ => .bool false) (fun _ _ => True) (by decide) (by decide) (by go_simp) hs2 (fun _ => stable_true) (fun W _ _ => ⟨(), W, by go_simp, trivial, Below.refl _ _⟩) (fun i3 hs3 => ?_)
    repeat (with_reducible refine wpC_q (by decide) (by decide) (fun K hK => ?_); go_simp; (try rw [if_neg (by simp [undef])]); refine hK _ ?_; clear hK K)
    refine wpC_nil ?_
    intro w2 hb2 _
    clear x0 x1 x2 y0 HLn HG HN hs0 hs1 hs2 hs3
    go_wp2_with fail
    go_roundw
    case rel => exact ⟨m + 1, by omega, by go_num, hbr.trans (hb2.mono hbr.size), hs'⟩
    case measure => simp [intOf]; omega
end Go.Proofs.YtijcbfhlhgjedaaDoor

/- The pace laws' test of calls: few. -/
namespace Go.Proofs.YtijcbfhlhgjedaaDoor
open Go.RowKit Go.Shelf Go.Sort Go.Proofs

theorem some_any (ka : Option Addr) (kn kc : Nat) (w : World) :
    Calls Tryd.prog 30 #[.slice ka kn kc] w fun e w' => e = .returned (.bool (decide (kn ≤ 8))) ∧ w = w' := by
  by_cases h : kn ≤ 8
  · have g : decide ((kn : Int) ≤ 8) = true := decide_eq_true (by omega)
    rw [decide_eq_true h]
    go_enter Tryd.func30, Tryd.ntmps30
    go_wp2_with fail
    go_ret
    exact ⟨rfl, rfl⟩
  · have g : decide ((kn : Int) ≤ 8) = false := decide_eq_false (by omega)
    rw [decide_eq_false h]
    go_enter Tryd.func30, Tryd.ntmps30
    go_wp2_with fail
    go_ret
    exact ⟨rfl, rfl⟩
end Go.Proofs.YtijcbfhlhgjedaaDoor
