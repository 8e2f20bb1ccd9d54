/- pace.Check: which speeds are as defined. -/
import Derived.Test.YtafclpmnpamipaaGreatQSpd
namespace Go.Proofs.YtafclpmnpamipaaGreat
open Go.RowKit Go.Shelf Go.Sort Go.Proofs

theorem pwithin_any (x lo hi : Int) (w : World) :
    Calls Tryz.prog 31 #[.int .i64 x, .int .i64 lo, .int .i64 hi] w fun e w' => e = .returned (.bool (inR x lo hi)) ∧ w = w' := by
  by_cases h : lo ≤ x
  · have e : inR x lo hi = decide (x ≤ hi) := by simp [inR, h]
    rw [e]; clear e
    go_enter Tryz.func31, Tryz.ntmps31
    go_wp2
    go_ret
    exact ⟨rfl, rfl⟩
  · have e : inR x lo hi = false := by simp [inR, h]
    rw [e]; clear e
    go_enter Tryz.func31, Tryz.ntmps31
    go_wp2
    go_ret
    exact ⟨rfl, rfl⟩
theorem pbounds_any (l h : Int) (w : World) :
    Calls Tryz.prog 127 #[.int .i64 l, .int .i64 h] w fun e w' => e = .returned (.bool (bdB l h)) ∧ w = w' := by
  by_cases h1 : 1 ≤ l
  · by_cases h2 : l ≤ h
    · have e : bdB l h = decide (h ≤ 700) := by simp [bdB, h1, h2]
      rw [e]; clear e
      go_enter Tryz.func127, Tryz.ntmps127
      go_wp2
      go_ret
      exact ⟨rfl, rfl⟩
    · have e : bdB l h = false := by simp [bdB, h2]
      rw [e]; clear e
      go_enter Tryz.func127, Tryz.ntmps127
      go_wp2
      go_ret
      exact ⟨rfl, rfl⟩
  · have e : bdB l h = false := by simp [bdB, h1]
    rw [e]; clear e
    go_enter Tryz.func127, Tryz.ntmps127
    go_wp2
    go_ret
    exact ⟨rfl, rfl⟩
theorem pck_any (x : Int) (w : World) :
    Calls Tryz.prog 128 #[.int .i64 x] w fun e w' => e = .returned (.bool (!inR x 1 100)) ∧ w = w' := by
  go_enter Tryz.func128, Tryz.ntmps128
  go_wp2_with (go_at_call 31; refine (pwithin_any _ _ _ _).mono ?_; rintro e w' ⟨rfl, rfl⟩)
  go_ret
  exact ⟨rfl, rfl⟩
set_option maxRecDepth 100000 in
theorem surfI_any (A : Option Addr) (n c : Nat) (xs : List Int) (w : World) (h : SL iC 1 w w.heap.size A n xs) (hn : n ≤ 1000) :
    Calls Tryz.prog 151 #[.slice A n c, .func (.func 128) #[] #[]] w fun e w' => (∃ v : Int, e = .returned (.int .i64 v) ∧ decide (v < 0) = xs.all fun p => inR p 1 100) ∧ w = w' := by
  have HS := Lib.hid h
  have HL := Lib.hid h.1
  clear h
  go_enter Tryz.func151, Tryz.ntmps151
  go_wp2_with fail
  go_loopw [8] (fun i wr => ∃ k : Nat, k ≤ n ∧ i = .int .i64 k ∧ w = wr ∧ Hid (∀ x ∈ xs.take k, inR x 1 100 = true))
    (fun i _ => n - (intOf i).toNat)
  case atStart => exact ⟨0, Nat.zero_le _, rfl, rfl, by simp [Hid]⟩
  case round =>
    obtain ⟨k, hk, rfl, rfl, hall⟩ := hrel
    by_cases hlt : k < n
    · have hkl : k < xs.length := by rw [← HL.out]; exact hlt
      obtain ⟨b, off, hA, hbB, c0⟩ := IS.at_ HS.out (k := k) hkl
      have htm := Lib.hid (fun x => take_mem (P := fun p => inR p 1 100 = true) hkl hall.out x)
      have hmem := Lib.hid (List.getElem_mem hkl)
      generalize xs[k]'hkl = p at c0 htm hmem
      have hk1 : (0 : Int) ≤ (k : Int) := by omega
      have hk2 : (k : Int) < (n : Int) := by omega
      clear hkl hall
      subst hA
      cases hp : inR p 1 100
      · have HP := Lib.hid hp
        go_wp2_with (go_at_call 128; refine (pck_any _ _).mono ?_; rintro e w' ⟨rfl, rfl⟩; rw [HP.out])
        go_ret
        refine ⟨⟨_, rfl, ?_⟩, by trivial⟩
        have h1 : (xs.all fun p => inR p 1 100) = false := by
          rw [Bool.eq_false_iff]
          intro h
          have := List.all_eq_true.1 h p hmem.out
          rw [HP.out] at this
          cases this
        rw [h1]
        simp
      · have HP := Lib.hid hp
        go_wp2_with (go_at_call 128; refine (pck_any _ _).mono ?_; rintro e w' ⟨rfl, rfl⟩; rw [HP.out])
        go_roundw
        case rel => exact ⟨k + 1, by omega, by go_num, by trivial, htm.out HP.out⟩
        case measure => simp [intOf]; omega
    · obtain rfl : k = n := by omega
      go_wp2_with fail
      go_ret
      refine ⟨⟨_, rfl, ?_⟩, by trivial⟩
      have h1 : (xs.all fun p => inR p 1 100) = true := by
        rw [List.all_eq_true]
        have := hall.out
        rw [HL.out, List.take_length] at this
        exact this
      rw [h1]
      rfl
set_option maxRecDepth 100000 in
theorem surf_any (A : Option Addr) (n c : Nat) (xs : List Int) (w : World) (h : SL iC 1 w w.heap.size A n xs) (hn : n ≤ 1000) :
    Calls Tryz.prog 111 #[.slice A n c, .func (.func 128) #[] #[]] w fun e w' => e = .returned (.bool (!xs.all fun p => inR p 1 100)) ∧ w = w' := by
  have HS := Lib.hid h
  clear h
  go_enter Tryz.func111, Tryz.ntmps111
  go_wp2_with fail
  refine (surfI_any A n c xs _ HS.out hn).mono ?_
  rintro e w' ⟨⟨v, rfl, hv⟩, rfl⟩
  have HV := Lib.hid hv
  clear hv
  go_wp2_with fail
  go_ret
  refine ⟨ret_bool ?_, by trivial⟩
  rw [← HV.out]
  by_cases h : v < 0
  · simp [h]
  · simp [h]; omega
set_option maxRecDepth 100000 in
set_option maxHeartbeats 4000000 in
theorem SpCheck_any (ra : Option Addr) (rn rc : Nat) (sa : Option Addr) (sn sc : Nat) (S : Spd) (w : World) (h : SD w w.heap.size ra rn sa sn S) :
    Calls Tryz.prog 80 #[.agg #[.int .i64 S.least, .int .i64 S.most, .slice ra rn rc, .slice sa sn sc]] w fun e w' => e = .returned (.int .i64 (spE S)) ∧ Below w.heap.size w w' := by
  have HR := Lib.hid h.r
  have HS := Lib.hid h.s
  have HLR := Lib.hid h.r.1
  have HLS := Lib.hid h.s.1
  clear h
  have hW0 : Below w.heap.size w (w.alloc (.cells #[.int .i64 S.least, .int .i64 S.most, .slice ra rn rc, .slice sa sn sc] 30)) := (Below.refl w.heap.size w).alloc (Nat.le_refl _) _
  by_cases h1 : bdB S.least S.most = true
  case neg =>
    have hb : bdB S.least S.most = false := by simpa using h1
    have hc := Lib.hid (spE_bad (fun q : SOK S => h1 q.b))
    have HB := Lib.hid hb
    clear h1 hb
    go_enter Tryz.func80, Tryz.ntmps80
    go_wp2_with (go_at_call 127; refine (pbounds_any _ _ _).mono ?_; rintro e w' ⟨rfl, rfl⟩; rw [HB.out])
    go_ret
    exact ⟨ret_int hc.out.symm, hW0⟩
  have HB := Lib.hid h1
  clear h1
  by_cases h2 : 1 ≤ rn ∧ rn ≤ 30
  case neg =>
    have hc := Lib.hid (spE_bad (fun q : SOK S => h2 ⟨by rw [HLR.out]; exact q.r1, by rw [HLR.out]; exact q.r2⟩))
    have HN : Hid (inR (rn : Int) 1 30 = false) := by show _ = _; rw [Bool.eq_false_iff]; simp [inR]; omega
    clear h2
    go_enter Tryz.func80, Tryz.ntmps80
    go_wp2_with (first | (go_at_call 127; refine (pbounds_any _ _ _).mono ?_; rintro e w' ⟨rfl, rfl⟩; rw [HB.out]) | (go_at_call 31; refine (pwithin_any _ _ _ _).mono ?_; rintro e w' ⟨rfl, rfl⟩; rw [HN.out]))
    go_ret
    exact ⟨ret_int hc.out.symm, hW0⟩
  obtain ⟨h2, h3⟩ := h2
  have HN : Hid (inR (rn : Int) 1 30 = true) := by show _ = _; simp [inR]; omega
  by_cases h4 : sn = 9
  case neg =>
    have hc := Lib.hid (spE_bad (fun q : SOK S => h4 (by rw [HLS.out]; exact q.s9)))
    have g4 : ((sn : Int) != 9) = true := by simp; omega
    clear h4
    go_enter Tryz.func80, Tryz.ntmps80
    go_wp2_with (first | (go_at_call 127; refine (pbounds_any _ _ _).mono ?_; rintro e w' ⟨rfl, rfl⟩; rw [HB.out]) | (go_at_call 31; refine (pwithin_any _ _ _ _).mono ?_; rintro e w' ⟨rfl, rfl⟩; rw [HN.out]))
    go_ret
    exact ⟨ret_int hc.out.symm, hW0⟩
  have HS9 := Lib.hid h4
  have g4 : ((sn : Int) != 9) = false := by simp; omega
  clear h4
  have h0l : 0 < S.rows.length := by rw [← HLR.out]; omega
  obtain ⟨b, off, hA, hbB, c0, -, -⟩ := SR.at_ HR.out (k := 0) h0l
  have hr0 := Lib.hid (List.getElem?_eq_getElem h0l)
  generalize S.rows[0]'h0l = r0 at c0 hr0
  have hz : off + 0 * 3 = off := by omega
  rw [hz] at c0
  clear hz h0l
  by_cases h5 : r0.rad = 5
  case neg =>
    have hc := Lib.hid (spE_bad (fun q : SOK S => h5 (q.r0 _ hr0.out)))
    have g5 : (r0.rad != 5) = true := by simpa using h5
    subst hA
    have hi2 : (0 : Int) < (rn : Int) := by omega
    clear h5
    go_enter Tryz.func80, Tryz.ntmps80
    go_wp2_with (first | (go_at_call 127; refine (pbounds_any _ _ _).mono ?_; rintro e w' ⟨rfl, rfl⟩; rw [HB.out]) | (go_at_call 31; refine (pwithin_any _ _ _ _).mono ?_; rintro e w' ⟨rfl, rfl⟩; rw [HN.out]))
    go_ret
    exact ⟨ret_int hc.out.symm, hW0⟩
  have HR5 : Hid (∀ r, S.rows[0]? = some r → r.rad = 5) := fun r hr => by rw [hr0.out] at hr; cases hr; exact h5
  have g5 : (r0.rad != 5) = false := by simpa using h5
  have hi2 : (0 : Int) < (rn : Int) := by omega
  clear h5 hr0
  subst hA
  go_enter Tryz.func80, Tryz.ntmps80
  go_wp2_with (first | (go_at_call 127; refine (pbounds_any _ _ _).mono ?_; rintro e w' ⟨rfl, rfl⟩; rw [HB.out]) | (go_at_call 31; refine (pwithin_any _ _ _ _).mono ?_; rintro e w' ⟨rfl, rfl⟩; rw [HN.out]))
  clear c0 g4 g5 hi2
  obtain ⟨w0, hw0⟩ : ∃ w0, w0 = w.alloc (.cells #[.int .i64 S.least, .int .i64 S.most, .slice (some ⟨b, off, none⟩) rn rc, .slice sa sn sc] 30) := ⟨_, rfl⟩
  have hX0 : BK w0 w.heap.size 30 #[.int .i64 S.least, .int .i64 S.most, .slice (some ⟨b, off, none⟩) rn rc, .slice sa sn sc] := by rw [hw0]; exact BK.new w _ _
  have HX0 := Lib.hid hX0
  rw [← hw0] at hW0 ⊢
  clear hw0 hX0
  have hz0 := hW0.size
  go_loopw [35] (fun i wr => ∃ k : Nat, k ≤ rn ∧ i = .int .i64 k ∧ Below w0.heap.size w0 wr ∧ Hid (∀ i, i < k → rAt S.rows i))
    (fun i _ => rn - (intOf i).toNat)
  case atStart => exact ⟨0, Nat.zero_le _, rfl, Below.refl _ _, by simp [Hid]⟩
  case round =>
    obtain ⟨m, hm, rfl, hbr, hall⟩ := hrel
    have hBr := hW0.trans (hbr.mono hz0)
    have hXr := HX0.out.below hbr HX0.out.lt
    have hzr := hbr.size
    have hlx := hXr.lt
    have x0 := hXr.cell 0
    have x1 := hXr.cell 1
    have x2 := hXr.cell 2
    have x3 := hXr.cell 3
    simp only [List.getElem?_toArray, List.getElem?_cons_zero, List.getElem?_cons_succ] at x0 x1 x2 x3
    by_cases hlt : m < rn
    · have hkl : m < S.rows.length := by rw [← HLR.out]; exact hlt
      have hw := HR.out.grow hBr hBr.size
      obtain ⟨b', off', hA, hbB', c0, c1, c2⟩ := SR.at_ hw (k := m) hkl
      cases hA
      have hstep : Hid (∀ (hh : bdB S.rows[m].least S.rows[m].most = true ∧ S.rows[m].rad ≤ 2000 ∧ ∀ d, 0 < m → S.rows[m-1]? = some d → d.rad < S.rows[m].rad), ∀ i, i < m + 1 → rAt S.rows i) := by
        intro hh i hi
        rcases Nat.lt_or_ge i m with h | h
        · exact hall.out i h
        · obtain rfl : i = m := by omega
          intro c hc
          rw [List.getElem?_eq_getElem hkl] at hc
          cases hc
          exact hh
      have hno : Hid (∀ (hh : ¬ (bdB S.rows[m].least S.rows[m].most = true ∧ S.rows[m].rad ≤ 2000 ∧ ∀ d, 0 < m → S.rows[m-1]? = some d → d.rad < S.rows[m].rad)), spE S = 2) := by
        intro hh
        exact spE_bad (fun q => hh (q.rk m hkl _ (List.getElem?_eq_getElem hkl)))
      have hprev : 0 < m → ∃ d, Hid (S.rows[m-1]? = some d) ∧ wr.cell? ⟨b, off + (m-1) * 3, none⟩ = some (.int .i64 d.rad) := by
        intro h0
        obtain ⟨b2, off2, hA2, _, c02, _⟩ := SR.at_ hw (k := m - 1) (by omega)
        cases hA2
        exact ⟨S.rows[m-1], List.getElem?_eq_getElem (by omega), c02⟩
      generalize S.rows[m]'hkl = c at c0 c1 c2 hstep hno
      clear hw hkl hall
      have hm1 : (0 : Int) ≤ (m : Int) := by omega
      have hm2 : (m : Int) < (rn : Int) := by omega
      cases e1 : bdB c.least c.most
      · have hc := Lib.hid (hno.out (by simp [e1]))
        clear hno hstep hprev
        go_wp2
        go_quiet ((go_at_call 127; exact Calls.quiet_of_same ((pbounds_any _ _ _).mono fun _ _ ⟨a, b⟩ => ⟨a, b.symm⟩)))
        go_wp2
        go_ret
        exact ⟨ret_int hc.out.symm, hBr.trans ((below_drewN ((Below.refl _ _).alloc (Nat.le_refl _) _) _).mono hBr.size)⟩
      by_cases e2 : c.rad ≤ 2000
      case neg =>
        have hc := Lib.hid (hno.out (by simp [e2]))
        have g2 : decide (2000 < c.rad) = true := by simp; omega
        clear hno hstep hprev e2
        go_wp2
        go_quiet ((go_at_call 127; exact Calls.quiet_of_same ((pbounds_any _ _ _).mono fun _ _ ⟨a, b⟩ => ⟨a, b.symm⟩)))
        go_wp2
        go_ret
        exact ⟨ret_int hc.out.symm, hBr.trans ((below_drewN ((Below.refl _ _).alloc (Nat.le_refl _) _) _).mono hBr.size)⟩
      have g2 : decide (2000 < c.rad) = false := by simp; omega
      by_cases hm0 : 0 < m
      · obtain ⟨d, hd, cd⟩ := hprev hm0
        have hg : decide ((0 : Int) < (m : Int)) = true := by simp; omega
        by_cases hlt2 : d.rad < c.rad
        · have hs' := Lib.hid (hstep.out ⟨e1, e2, fun d' _ h' => by rw [hd.out] at h'; cases h'; exact hlt2⟩)
          have g3 : decide (c.rad ≤ d.rad) = false := by simp; omega
          clear hno hstep hprev hlt2 e2
          go_wp2
          go_quiet ((go_at_call 127; exact Calls.quiet_of_same ((pbounds_any _ _ _).mono fun _ _ ⟨a, b⟩ => ⟨a, b.symm⟩)))
          go_wp2
          go_roundw
          case rel => exact ⟨m + 1, by omega, by go_num, hbr.trans ((below_drewN ((Below.refl _ _).alloc (Nat.le_refl _) _) _).mono hzr), hs'⟩
          case measure => simp [intOf]; omega
        · have hc := Lib.hid (hno.out (by rintro ⟨_, _, h⟩; exact hlt2 (h d hm0 hd.out)))
          have g3 : decide (c.rad ≤ d.rad) = true := by simp; omega
          clear hno hstep hprev hlt2 e2
          go_wp2
          go_quiet ((go_at_call 127; exact Calls.quiet_of_same ((pbounds_any _ _ _).mono fun _ _ ⟨a, b⟩ => ⟨a, b.symm⟩)))
          go_wp2
          go_ret
          exact ⟨ret_int hc.out.symm, hBr.trans ((below_drewN ((Below.refl _ _).alloc (Nat.le_refl _) _) _).mono hBr.size)⟩
      · have hg : decide ((0 : Int) < (m : Int)) = false := by simp; omega
        have hs' := Lib.hid (hstep.out ⟨e1, e2, fun d' h' => absurd h' hm0⟩)
        clear hno hstep hprev e2
        go_wp2
        go_quiet ((go_at_call 127; exact Calls.quiet_of_same ((pbounds_any _ _ _).mono fun _ _ ⟨a, b⟩ => ⟨a, b.symm⟩)))
        go_wp2
        go_roundw
        case rel => exact ⟨m + 1, by omega, by go_num, hbr.trans ((below_drewN ((Below.refl _ _).alloc (Nat.le_refl _) _) _).mono hzr), hs'⟩
        case measure => simp [intOf]; omega
    · obtain rfl : m = rn := by omega
      have HSr := Lib.hid (HS.out.grow hBr hBr.size)
      have hsn : sn ≤ 1000 := by rw [HS9.out]; omega
      have hend : spE S = if (S.surf.all fun p => inR p 1 100) = true then 0 else 2 := by
        split
        · rename_i h
          exact spE_ok ⟨HB.out, by rw [← HLR.out]; exact h2, by rw [← HLR.out]; exact h3, by rw [← HLS.out]; exact HS9.out, HR5.out, fun i hi => hall.out i (by rw [HLR.out]; exact hi), List.all_eq_true.1 h⟩
        · rename_i h
          exact spE_bad (fun q => h (List.all_eq_true.2 q.sk))
      have HE := Lib.hid hend
      clear hend
      go_wp2_with fail
      refine (surf_any sa sn sc S.surf _ HSr.out hsn).mono ?_
      rintro e w' ⟨rfl, rfl⟩
      cases hq : (S.surf.all fun p => inR p 1 100)
      · have HQ := Lib.hid hq
        clear hq
        go_wp2_with fail
        go_ret
        exact ⟨ret_int (by rw [HE.out, HQ.out]; rfl), hBr⟩
      · have HQ := Lib.hid hq
        clear hq
        go_wp2_with fail
        go_ret
        exact ⟨ret_int (by rw [HE.out, HQ.out]; rfl), hBr⟩
end Go.Proofs.YtafclpmnpamipaaGreat
