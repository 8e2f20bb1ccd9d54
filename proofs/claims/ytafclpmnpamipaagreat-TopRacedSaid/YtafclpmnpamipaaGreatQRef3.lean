/- The document's tests of layer 3: in, Speeds, Length. -/
import Derived.Test.YtafclpmnpamipaaGreatQSpd
namespace Go.Proofs.YtafclpmnpamipaaGreat
open Go.RowKit Go.Shelf Go.Sort Go.Proofs

theorem in3_any (x lo hi : Int) (w : World) :
    Calls Tryz.prog 23 #[.int .i64 x, .int .i64 lo, .int .i64 hi] w fun e w' => e = .returned (.bool (inR x lo hi)) ∧ w = w' := by
  by_cases h : lo ≤ x
  · have e : inR x lo hi = decide (x ≤ hi) := by simp [inR, h]
    rw [e]; clear e
    go_enter Tryz.func23, Tryz.ntmps23
    go_wp2
    go_ret
    exact ⟨rfl, rfl⟩
  · have e : inR x lo hi = false := by simp [inR, h]
    rw [e]; clear e
    go_enter Tryz.func23, Tryz.ntmps23
    go_wp2
    go_ret
    exact ⟨rfl, rfl⟩
set_option maxRecDepth 100000 in
set_option maxHeartbeats 4000000 in
theorem R3Length_any (pa : Option Addr) (pn pc : Nat) (ca : Option Addr) (cn cc : Nat) (ja : Option Addr) (jn jc : Nat) (R : Road) (w : World) (h : RD w w.heap.size pa pn ca cn ja jn R) (hv : OK R) :
    Calls Tryz.prog 8 #[.agg #[.slice pa pn pc, .slice ca cn cc, .slice ja jn jc]] w fun e w' => e = .returned (.int .i64 (sumL R.ps)) ∧ Below w.heap.size w w' := by
  have HR := Lib.hid h
  have HL := Lib.hid h.p.1
  have HV := Lib.hid hv
  have hpn : pn ≤ 2000 := by rw [h.p.1]; exact hv.p2
  clear h hv
  obtain ⟨w0, hw0⟩ : ∃ w0, w0 = w.alloc (.cells #[.slice pa pn pc, .slice ca cn cc, .slice ja jn jc] 26) := ⟨_, rfl⟩
  have hB0 : Below w.heap.size w w0 := by rw [hw0]; exact (Below.refl w.heap.size w).alloc (Nat.le_refl _) _
  have HX0 : Hid (BK w0 w.heap.size 26 #[.slice pa pn pc, .slice ca cn cc, .slice ja jn jc]) := by show BK _ _ _ _; rw [hw0]; exact BK.new w _ _
  have hz0 := hB0.size
  go_enter Tryz.func8, Tryz.ntmps8
  go_wp2_with fail
  rw [← hw0]
  clear hw0
  go_loopw [3, 4] (fun s i wr => ∃ k : Nat, k ≤ pn ∧ i = .int .i64 k ∧ s = .int .i64 (sumL (R.ps.take k)) ∧ Below w0.heap.size w0 wr)
    (fun _ i _ => pn - (intOf i).toNat)
  case atStart => exact ⟨0, Nat.zero_le _, rfl, rfl, Below.refl _ _⟩
  case round =>
    obtain ⟨k, hk, rfl, rfl, hbr⟩ := hrel
    have hBr := hB0.trans (hbr.mono hz0)
    have hX := HX0.out.below hbr HX0.out.lt
    have x0 := hX.cell 0
    have x1 := hX.cell 1
    have x2 := hX.cell 2
    simp only [List.getElem?_toArray, List.getElem?_cons_zero, List.getElem?_cons_succ] at x0 x1 x2
    have hs1 := sumL_mono HV.out.pk (show 0 ≤ k from Nat.zero_le _)
    have hs2 := sumL_mono HV.out.pk (show k ≤ R.ps.length by rw [← HL.out]; exact hk)
    rw [List.take_length] at hs2
    rw [List.take_zero, sumL_nil] at hs1
    have hn1 := HV.out.n1
    by_cases hlt : k < pn
    · have hkl : k < R.ps.length := by rw [← HL.out]; exact hlt
      obtain ⟨b, off, hA, hbB, c0, -⟩ := PS.at_ (HR.out.grow hBr hBr.size).p (k := k) hkl
      have hst := Lib.hid (sumL_take R.ps k hkl)
      have hpk := pOk_len (HV.out.pk _ (List.getElem_mem hkl))
      generalize R.ps[k]'hkl = p at c0 hst hpk
      obtain ⟨q1, q2⟩ := hpk
      generalize sumL (R.ps.take k) = su at *
      have hi1 : (0 : Int) ≤ (k : Int) := by omega
      have hi2 : (k : Int) < (pn : Int) := by omega
      have hw1 : IntKind.i64.wrap (su + p.len) = su + p.len := IntWalk.i64_in _ (by omega)
      clear hkl
      subst hA
      go_wp2_with fail
      go_roundw
      case rel => exact ⟨k + 1, by omega, by go_num, by rw [hst.out], hbr⟩
      case measure => simp [intOf]; omega
    · obtain rfl : k = pn := by omega
      have hfin : Hid (sumL (R.ps.take k) = sumL R.ps) := by show _ = _; rw [HL.out, List.take_length]
      go_wp2_with fail
      go_ret
      exact ⟨by rw [hfin.out]; rfl, hBr⟩
set_option maxRecDepth 100000 in
set_option maxHeartbeats 8000000 in
theorem RSpeeds_any (ra : Option Addr) (rn rc : Nat) (sa : Option Addr) (sn sc : Nat) (S : Spd) (w : World) (h : SD w w.heap.size ra rn sa sn S) :
    Calls Tryz.prog 6 #[.agg #[.int .i64 S.least, .int .i64 S.most, .slice ra rn rc, .slice sa sn sc]] w fun e w' => e = .returned (.bool (spB S)) ∧ Below w.heap.size w w' := by
  have HR := Lib.hid h.r
  have HS := Lib.hid h.s
  have HLR := Lib.hid h.r.1
  have HLS := Lib.hid h.s.1
  clear h
  have hW0 : Below w.heap.size w (w.alloc (.cells #[.int .i64 S.least, .int .i64 S.most, .slice ra rn rc, .slice sa sn sc] 30)) := (Below.refl w.heap.size w).alloc (Nat.le_refl _) _
  by_cases h1 : 1 ≤ S.least
  case neg =>
    have hc := Lib.hid (spB_bad (fun q : SOK S => h1 (bdB_iff.1 q.b).1))
    have gh1 : decide (S.least < 1) = true := by simp; omega
    clear h1
    go_enter Tryz.func6, Tryz.ntmps6
    go_wp2_with fail
    go_ret
    exact ⟨ret_bool hc.out.symm, hW0⟩
  have gh1 : decide (S.least < 1) = false := by simp; omega
  by_cases h2 : S.least ≤ S.most
  case neg =>
    have hc := Lib.hid (spB_bad (fun q : SOK S => h2 (bdB_iff.1 q.b).2.1))
    have gh2 : decide (S.most < S.least) = true := by simp; omega
    clear h1 h2
    go_enter Tryz.func6, Tryz.ntmps6
    go_wp2_with fail
    go_ret
    exact ⟨ret_bool hc.out.symm, hW0⟩
  have gh2 : decide (S.most < S.least) = false := by simp; omega
  by_cases h3 : S.most ≤ 700
  case neg =>
    have hc := Lib.hid (spB_bad (fun q : SOK S => h3 (bdB_iff.1 q.b).2.2))
    have gh3 : decide (700 < S.most) = true := by simp; omega
    clear h1 h2 h3
    go_enter Tryz.func6, Tryz.ntmps6
    go_wp2_with fail
    go_ret
    exact ⟨ret_bool hc.out.symm, hW0⟩
  have gh3 : decide (700 < S.most) = false := by simp; omega
  have hbd : bdB S.least S.most = true := bdB_iff.2 ⟨h1, h2, h3⟩
  have HB := Lib.hid hbd
  clear h1 h2 h3 hbd
  by_cases h4 : 1 ≤ rn ∧ rn ≤ 30
  case neg =>
    have hc := Lib.hid (spB_bad (fun q : SOK S => h4 ⟨by rw [HLR.out]; exact q.r1, by rw [HLR.out]; exact q.r2⟩))
    have HN : Hid (inR (rn : Int) 1 30 = false) := by show _ = _; rw [Bool.eq_false_iff]; simp [inR]; omega
    clear h4
    go_enter Tryz.func6, Tryz.ntmps6
    go_wp2_with (go_at_call 23; refine (in3_any _ _ _ _).mono ?_; rintro e w' ⟨rfl, rfl⟩; rw [HN.out])
    go_ret
    exact ⟨ret_bool hc.out.symm, hW0⟩
  obtain ⟨h4, h5⟩ := h4
  have HN : Hid (inR (rn : Int) 1 30 = true) := by show _ = _; simp [inR]; omega
  by_cases h6 : sn = 9
  case neg =>
    have hc := Lib.hid (spB_bad (fun q : SOK S => h6 (by rw [HLS.out]; exact q.s9)))
    have g6 : ((sn : Int) != 9) = true := by simp; omega
    clear h6
    go_enter Tryz.func6, Tryz.ntmps6
    go_wp2_with (go_at_call 23; refine (in3_any _ _ _ _).mono ?_; rintro e w' ⟨rfl, rfl⟩; rw [HN.out])
    go_ret
    exact ⟨ret_bool hc.out.symm, hW0⟩
  have HS9 := Lib.hid h6
  have g6 : ((sn : Int) != 9) = false := by simp; omega
  clear h6
  have h0l : 0 < S.rows.length := by rw [← HLR.out]; omega
  obtain ⟨b, off, hA, hbB, c0, -, -⟩ := SR.at_ HR.out (k := 0) h0l
  have hr0 := Lib.hid (List.getElem?_eq_getElem h0l)
  generalize S.rows[0]'h0l = r0 at c0 hr0
  have hz : off + 0 * 3 = off := by omega
  rw [hz] at c0
  clear hz h0l
  have hi2 : (0 : Int) < (rn : Int) := by omega
  by_cases h7 : r0.rad = 5
  case neg =>
    have hc := Lib.hid (spB_bad (fun q : SOK S => h7 (q.r0 _ hr0.out)))
    have g7 : (r0.rad != 5) = true := by simpa using h7
    subst hA
    clear h7
    go_enter Tryz.func6, Tryz.ntmps6
    go_wp2_with (go_at_call 23; refine (in3_any _ _ _ _).mono ?_; rintro e w' ⟨rfl, rfl⟩; rw [HN.out])
    go_ret
    exact ⟨ret_bool hc.out.symm, hW0⟩
  have HR5 : Hid (∀ r, S.rows[0]? = some r → r.rad = 5) := fun r hr => by rw [hr0.out] at hr; cases hr; exact h7
  have g7 : (r0.rad != 5) = false := by simpa using h7
  clear h7 hr0
  subst hA
  go_enter Tryz.func6, Tryz.ntmps6
  go_wp2_with (go_at_call 23; refine (in3_any _ _ _ _).mono ?_; rintro e w' ⟨rfl, rfl⟩; rw [HN.out])
  clear c0 g6 g7 hi2 gh1 gh2 gh3
  obtain ⟨w0, hw0⟩ : ∃ w0, w0 = w.alloc (.cells #[.int .i64 S.least, .int .i64 S.most, .slice (some ⟨b, off, none⟩) rn rc, .slice sa sn sc] 30) := ⟨_, rfl⟩
  have hX0 : BK w0 w.heap.size 30 #[.int .i64 S.least, .int .i64 S.most, .slice (some ⟨b, off, none⟩) rn rc, .slice sa sn sc] := by rw [hw0]; exact BK.new w _ _
  have HX0 := Lib.hid hX0
  rw [← hw0] at hW0 ⊢
  clear hw0 hX0
  have hz0 := hW0.size
  go_loopw [3] (fun i wr => ∃ k : Nat, k ≤ rn ∧ i = .int .i64 k ∧ Below w0.heap.size w0 wr ∧ Hid (∀ i, i < k → rAt S.rows i))
    (fun i _ => rn - (intOf i).toNat)
  case atStart => exact ⟨0, Nat.zero_le _, rfl, Below.refl _ _, by simp [Hid]⟩
  case round =>
    obtain ⟨m, hm, rfl, hbr, hall⟩ := hrel
    have hBr := hW0.trans (hbr.mono hz0)
    have hXr := HX0.out.below hbr HX0.out.lt
    have hzr := hbr.size
    have hlx := hXr.lt
    have x0 := hXr.cell 0
    have x1 := hXr.cell 1
    have x2 := hXr.cell 2
    have x3 := hXr.cell 3
    simp only [List.getElem?_toArray, List.getElem?_cons_zero, List.getElem?_cons_succ] at x0 x1 x2 x3
    by_cases hlt : m < rn
    case pos =>
      have hkl : m < S.rows.length := by rw [← HLR.out]; exact hlt
      have hw := HR.out.grow hBr hBr.size
      obtain ⟨b', off', hA, hbB', c0, c1, c2⟩ := SR.at_ hw (k := m) hkl
      cases hA
      have hstep : Hid (∀ (hh : bdB S.rows[m].least S.rows[m].most = true ∧ S.rows[m].rad ≤ 2000 ∧ ∀ d, 0 < m → S.rows[m-1]? = some d → d.rad < S.rows[m].rad), ∀ i, i < m + 1 → rAt S.rows i) := by
        intro hh i hi
        rcases Nat.lt_or_ge i m with h | h
        · exact hall.out i h
        · obtain rfl : i = m := by omega
          intro c hc
          rw [List.getElem?_eq_getElem hkl] at hc
          cases hc
          exact hh
      have hno : Hid (∀ (hh : ¬ (bdB S.rows[m].least S.rows[m].most = true ∧ S.rows[m].rad ≤ 2000 ∧ ∀ d, 0 < m → S.rows[m-1]? = some d → d.rad < S.rows[m].rad)), spB S = false) := by
        intro hh
        exact spB_bad (fun q => hh (q.rk m hkl _ (List.getElem?_eq_getElem hkl)))
      have hprev : 0 < m → ∃ d, Hid (S.rows[m-1]? = some d) ∧ wr.cell? ⟨b, off + (m-1) * 3, none⟩ = some (.int .i64 d.rad) := by
        intro h0
        obtain ⟨b2, off2, hA2, _, c02, _⟩ := SR.at_ hw (k := m - 1) (by omega)
        cases hA2
        exact ⟨S.rows[m-1], List.getElem?_eq_getElem (by omega), c02⟩
      generalize S.rows[m]'hkl = c at c0 c1 c2 hstep hno
      clear hw hkl hall
      have hm1 : (0 : Int) ≤ (m : Int) := by omega
      have hm2 : (m : Int) < (rn : Int) := by omega
      by_cases k1 : 1 ≤ c.least
      case neg =>
        have hc := Lib.hid (hno.out (by rintro ⟨h, -⟩; exact k1 (bdB_iff.1 h).1))
        have gk1 : decide (c.least < 1) = true := by simp; omega
        clear hno hstep hprev
        go_wp2_with fail
        go_quiet (fail)
        go_wp2_with fail
        go_ret
        exact ⟨ret_bool hc.out.symm, hBr.trans ((below_drewN ((Below.refl _ _).alloc (Nat.le_refl _) _) _).mono hBr.size)⟩
      have gk1 : decide (c.least < 1) = false := by simp; omega
      by_cases k2 : c.least ≤ c.most
      case neg =>
        have hc := Lib.hid (hno.out (by rintro ⟨h, -⟩; exact k2 (bdB_iff.1 h).2.1))
        have gk2 : decide (c.most < c.least) = true := by simp; omega
        clear hno hstep hprev
        go_wp2_with fail
        go_quiet (fail)
        go_wp2_with fail
        go_ret
        exact ⟨ret_bool hc.out.symm, hBr.trans ((below_drewN ((Below.refl _ _).alloc (Nat.le_refl _) _) _).mono hBr.size)⟩
      have gk2 : decide (c.most < c.least) = false := by simp; omega
      by_cases k3 : c.most ≤ 700
      case neg =>
        have hc := Lib.hid (hno.out (by rintro ⟨h, -⟩; exact k3 (bdB_iff.1 h).2.2))
        have gk3 : decide (700 < c.most) = true := by simp; omega
        clear hno hstep hprev
        go_wp2_with fail
        go_quiet (fail)
        go_wp2_with fail
        go_ret
        exact ⟨ret_bool hc.out.symm, hBr.trans ((below_drewN ((Below.refl _ _).alloc (Nat.le_refl _) _) _).mono hBr.size)⟩
      have gk3 : decide (700 < c.most) = false := by simp; omega
      by_cases k4 : c.rad ≤ 2000
      case neg =>
        have hc := Lib.hid (hno.out (by rintro ⟨-, h, -⟩; exact k4 h))
        have gk4 : decide (2000 < c.rad) = true := by simp; omega
        clear hno hstep hprev
        go_wp2_with fail
        go_quiet (fail)
        go_wp2_with fail
        go_ret
        exact ⟨ret_bool hc.out.symm, hBr.trans ((below_drewN ((Below.refl _ _).alloc (Nat.le_refl _) _) _).mono hBr.size)⟩
      have gk4 : decide (2000 < c.rad) = false := by simp; omega
      have e1 : bdB c.least c.most = true := bdB_iff.2 ⟨k1, k2, k3⟩
      by_cases hm0 : 0 < m
      case pos =>
        obtain ⟨d, hd, cd⟩ := hprev hm0
        have hg : decide ((0 : Int) < (m : Int)) = true := by simp; omega
        by_cases hlt2 : d.rad < c.rad
        case pos =>
          have hs' := Lib.hid (hstep.out ⟨e1, k4, fun d' _ h' => by rw [hd.out] at h'; cases h'; exact hlt2⟩)
          have g3 : decide (c.rad ≤ d.rad) = false := by simp; omega
          clear hlt2 k1 k2 k3 k4 e1
          clear hno hstep hprev
          go_wp2_with fail
          go_quiet (fail)
          go_wp2_with fail
          go_roundw
          case rel => exact ⟨m + 1, by omega, by go_num, hbr.trans ((below_drewN ((Below.refl _ _).alloc (Nat.le_refl _) _) _).mono hzr), hs'⟩
          case measure => simp [intOf]; omega
        have hc := Lib.hid (hno.out (by rintro ⟨_, _, h⟩; exact hlt2 (h d hm0 hd.out)))
        have g3 : decide (c.rad ≤ d.rad) = true := by simp; omega
        clear hlt2 k1 k2 k3 k4 e1
        clear hno hstep hprev
        go_wp2_with fail
        go_quiet (fail)
        go_wp2_with fail
        go_ret
        exact ⟨ret_bool hc.out.symm, hBr.trans ((below_drewN ((Below.refl _ _).alloc (Nat.le_refl _) _) _).mono hBr.size)⟩
      have hg : decide ((0 : Int) < (m : Int)) = false := by simp; omega
      have hs' := Lib.hid (hstep.out ⟨e1, k4, fun d' h' => absurd h' hm0⟩)
      clear k1 k2 k3 k4 e1
      clear hno hstep hprev
      go_wp2_with fail
      go_quiet (fail)
      go_wp2_with fail
      go_roundw
      case rel => exact ⟨m + 1, by omega, by go_num, hbr.trans ((below_drewN ((Below.refl _ _).alloc (Nat.le_refl _) _) _).mono hzr), hs'⟩
      case measure => simp [intOf]; omega
    obtain rfl : m = rn := by omega
    go_wp2_with fail
    clear x0 x1 x2 x3
    have hall' := Lib.hid (show SOK S → True from fun _ => trivial)
    clear hall'
    obtain ⟨w1, hw1⟩ : ∃ w1, w1 = wr := ⟨_, rfl⟩
    rw [← hw1] at hBr hXr ⊢
    clear hw1 hbr hzr hlx
    have HX1 := Lib.hid hXr
    clear hXr
    have hz1 := hBr.size
    go_loopw [5] (fun i wr => ∃ k : Nat, k ≤ 9 ∧ i = .int .i64 k ∧ Below w1.heap.size w1 wr ∧ Hid (∀ x ∈ S.surf.take k, inR x 1 100 = true))
      (fun i _ => 9 - (intOf i).toNat)
    case atStart => exact ⟨0, Nat.zero_le _, rfl, Below.refl _ _, by simp [Hid]⟩
    case round =>
      obtain ⟨k, hk, rfl, hb2, hall2⟩ := hrel
      have hB2 := hBr.trans (hb2.mono hz1)
      have hX2 := HX1.out.below hb2 HX1.out.lt
      have x0 := hX2.cell 0
      have x1 := hX2.cell 1
      have x2 := hX2.cell 2
      have x3 := hX2.cell 3
      simp only [List.getElem?_toArray, List.getElem?_cons_zero, List.getElem?_cons_succ] at x0 x1 x2 x3
      by_cases hlt9 : k < 9
      case pos =>
        have hkl : k < S.surf.length := by rw [← HLS.out, HS9.out]; exact hlt9
        obtain ⟨b', off', hA, hbB', c0⟩ := IS.at_ (HS.out.grow hB2 hB2.size) (k := k) hkl
        have htm := Lib.hid (fun x => take_mem (P := fun p => inR p 1 100 = true) hkl hall2.out x)
        have hmem := Lib.hid (List.getElem_mem hkl)
        generalize S.surf[k]'hkl = p at c0 htm hmem
        have hk1 : (0 : Int) ≤ (k : Int) := by omega
        have hk2 : (k : Int) < (sn : Int) := by rw [HS9.out]; omega
        clear hkl
        subst hA
        cases hp : inR p 1 100
        case false =>
          have HN2 := Lib.hid hp
          have hc := Lib.hid (spB_bad (fun q : SOK S => by have := q.sk p hmem.out; rw [HN2.out] at this; cases this))
          clear hp
          go_wp2_with (go_at_call 23; refine (in3_any _ _ _ _).mono ?_; rintro e w' ⟨rfl, rfl⟩; rw [HN2.out])
          go_ret
          exact ⟨ret_bool hc.out.symm, hB2⟩
        have HN2 := Lib.hid hp
        clear hp
        go_wp2_with (go_at_call 23; refine (in3_any _ _ _ _).mono ?_; rintro e w' ⟨rfl, rfl⟩; rw [HN2.out])
        go_roundw
        case rel => exact ⟨k + 1, by omega, by go_num, hb2, htm.out HN2.out⟩
        case measure => simp [intOf]; omega
      obtain rfl : k = 9 := by omega
      have hc : Hid (spB S = true) := spB_ok ⟨HB.out, by rw [← HLR.out]; exact h4, by rw [← HLR.out]; exact h5, by rw [← HLS.out]; exact HS9.out, HR5.out, fun i hi => hall.out i (by rw [HLR.out]; exact hi), by
        have := hall2.out
        rw [List.take_of_length_le (by rw [← HLS.out, HS9.out]; exact Nat.le_refl _)] at this
        exact this⟩
      go_wp2_with fail
      go_ret
      exact ⟨ret_bool hc.out.symm, hB2⟩
end Go.Proofs.YtafclpmnpamipaaGreat
