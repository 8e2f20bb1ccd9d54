/- The document's Fits. -/
import Derived.Test.YtijcbfhlhgjedaaDoorFits
import Derived.Test.YtijcbfhlhgjedaaDoorRMtr
namespace Go.Proofs.YtijcbfhlhgjedaaDoor
open Go.RowKit Go.Shelf Go.Sort Go.Proofs

theorem sums_at {S : Spd} {R : Road} (hv : OK R) {k : Nat} (hk : (k : Int) < sumL R.ps) : ∃ u, (units R.ps)[k]? = some u ∧ tQ S R.ps (k + 1) - tQ S R.ps k = mQ S u ∧ tSl S R.ps (k + 1) - tSl S R.ps k = mSl S u := by
  have hlen := units_len (fun q hq => by have := (pOk_len (hv.pk q hq)).1; omega) (ps := R.ps)
  have hl : k < (units R.ps).length := by omega
  refine ⟨_, List.getElem?_eq_getElem hl, ?_, ?_⟩
  · rw [tQ_succ S R.ps (List.getElem?_eq_getElem hl)]; omega
  · rw [tSl_succ S R.ps (List.getElem?_eq_getElem hl)]; omega
set_option maxRecDepth 100000 in
set_option maxHeartbeats 8000000 in
theorem RFits_any (pa : Option Addr) (pn pc : Nat) (ca : Option Addr) (cn cc : Nat) (ja : Option Addr) (jn jc : Nat) (R : Road) (ra : Option Addr) (rn rc : Nat) (sa : Option Addr) (sn sc : Nat) (S : Spd) (la : Option Addr) (ln lc : Nat) (ls : List PassR) (ua : Option Addr) (un uc : Nat) (us : List Int) (N : Nat) (w : World)
    (h : RD w w.heap.size pa pn ca cn ja jn R) (hD : SD w w.heap.size ra rn sa sn S) (hL : SL paC 3 w w.heap.size la ln ls) (hU : SL iC 1 w w.heap.size ua un us) (hv : OK R) (hS : SOK S) (hp : POK N ls) (hN : sumL R.ps = N) (hun : un = N + 1) (hrg : ∀ x ∈ us, -9223372036854775808 ≤ x ∧ x ≤ 9223372036854775807) :
    Calls Tryd.prog 37 #[.agg #[.slice pa pn pc, .slice ca cn cc, .slice ja jn jc], .agg #[.int .i64 S.least, .int .i64 S.most, .slice ra rn rc, .slice sa sn sc], .slice la ln lc, .slice ua un uc] w fun e w' =>
      e = .returned (.bool (fitM S R ls us)) ∧ Below w.heap.size w w' := by
  have HLP := Lib.hid hL.1
  have HLU := Lib.hid hU.1
  have HRG := Lib.hid hrg
  have HV := Lib.hid hv
  have HS := Lib.hid hS
  have HPO := Lib.hid hp
  have HN := Lib.hid hN
  have HNU := Lib.hid hun
  have hN1 : N ≤ 100000 := by have := hv.n1; omega
  have hln : ln ≤ 200 := by rw [hL.1]; exact hp.l1
  have hun2 : un ≤ 100001 := by omega
  have hu0 : (0 : Int) < (un : Int) := by omega
  clear hrg hv hS hp hN hun
  have HR := Lib.hid h
  have HD := Lib.hid hD
  have HL := Lib.hid hL
  have HU := Lib.hid hU
  clear h hD hL hU
  obtain ⟨w0, hw0⟩ : ∃ w0, w0 = (w.alloc (.cells #[.slice pa pn pc, .slice ca cn cc, .slice ja jn jc] 26)).alloc (.cells #[.int .i64 S.least, .int .i64 S.most, .slice ra rn rc, .slice sa sn sc] 30) := ⟨_, rfl⟩
  have hB0 : Below w.heap.size w w0 := by rw [hw0]; exact ((Below.refl w.heap.size w).alloc (Nat.le_refl _) _).alloc (by simp) _
  have hX0 : BK w0 (w.heap.size) 26 #[.slice pa pn pc, .slice ca cn cc, .slice ja jn jc] := by rw [hw0]; exact ((BK.new w 26 #[.slice pa pn pc, .slice ca cn cc, .slice ja jn jc])).alloc _
  have hY0 : BK w0 (w.heap.size + 1) 30 #[.int .i64 S.least, .int .i64 S.most, .slice ra rn rc, .slice sa sn sc] := by rw [hw0]; have := BK.new (w.alloc (.cells #[.slice pa pn pc, .slice ca cn cc, .slice ja jn jc] 26)) 30 #[.int .i64 S.least, .int .i64 S.most, .slice ra rn rc, .slice sa sn sc]; rw [World.size_alloc] at this; exact this
  have h0l : 0 < us.length := by rw [← HLU.out]; omega
  obtain ⟨b, off, hA, hbB, c0⟩ := IS.at_ (HU.out.grow hB0 hB0.size) (k := 0) h0l
  have HI0 : Hid (okI S R us 0 = (us[0]'h0l == 0)) := okI_0 (List.getElem?_eq_getElem h0l)
  have H0L := Lib.hid h0l
  rw [Nat.add_zero] at c0
  generalize us[0]'h0l = x at c0 HI0
  clear h0l
  subst hA
  rw [hw0] at c0
  by_cases hx0 : x = 0
  case neg =>
    have g1 : (x == 0) = false := by simpa using hx0
    have g2 : (x != 0) = true := by simpa using hx0
    have HE : Hid (fitM S R ls us = false) := fitM_no H0L.out (HI0.out.trans g1)
    clear hx0
    go_enter Tryd.func37, Tryd.ntmps37
    go_wp2_with fail
    rw [← hw0]
    clear hw0
    go_ret
    exact ⟨ret_bool HE.out.symm, hB0⟩
  subst hx0
  have HA0 : Hid (okI S R us 0 = true) := HI0.out
  go_enter Tryd.func37, Tryd.ntmps37
  go_wp2_with fail
  rw [← hw0]
  clear hw0
  clear c0 HI0
  have hz0 := hB0.size
  have hlX := hX0.lt
  have hlY := hY0.lt
  go_loopw [9] (fun i wr => ∃ k : Nat, k ≤ N ∧ i = .int .i64 k ∧ Below w0.heap.size w0 wr ∧ Hid (∀ j, j < k + 1 → okI S R us j = true))
    (fun i _ => N - (intOf i).toNat)
  case atStart => exact ⟨0, Nat.zero_le _, rfl, Below.refl _ _, fun j hj => by rw [show j = 0 by omega]; exact HA0.out⟩
  case round =>
    obtain ⟨k, hk, rfl, hbr, hall⟩ := hrel
    have hBr := hB0.trans (hbr.mono hz0)
    have hXr := hX0.below hbr hX0.lt
    have hYr := hY0.below hbr hY0.lt
    by_cases hlt : k < N
    case neg =>
      obtain rfl : N = k := by omega
      have HE : Hid (fitM S R ls us = ls.all (inP us)) := fitM_yes (fun i hi => hall.out i (by rw [← HNU.out, HLU.out]; exact hi))
      have g0 : decide ((N : Int) + 1 < (un : Int)) = false := decide_eq_false (by have := HNU.out; omega)
      clear hall
      go_wp2_with fail
      clear g0
      go_loopw [12] (fun i wx => ∃ k : Nat, k ≤ ln ∧ i = .int .i64 k ∧ Below w0.heap.size w0 wx ∧ Hid (∀ x ∈ ls.take k, inP us x = true))
        (fun i _ => ln - (intOf i).toNat)
      case atStart => exact ⟨0, Nat.zero_le _, rfl, hbr, by simp [Hid]⟩
      case round =>
        obtain ⟨k, hk, rfl, hbx, hall⟩ := hrel
        have hBx := hB0.trans (hbx.mono hz0)
        by_cases hlt : k < ln
        case neg =>
          obtain rfl : k = ln := by omega
          have h1 : Hid (ls.all (inP us) = true) := by
            show _ = _
            rw [List.all_eq_true]
            have := hall.out
            rw [HLP.out, List.take_length] at this
            exact this
          go_wp2_with fail
          go_ret
          exact ⟨ret_bool (by rw [HE.out, h1.out]), hBx⟩
        have hkl : k < ls.length := by rw [← HLP.out]; exact hlt
        have hpx := (HPO.out.k k hkl _ (List.getElem?_eq_getElem hkl)).1
        simp only [inR, Bool.and_eq_true, decide_eq_true_eq] at hpx
        obtain ⟨q, hq⟩ : ∃ q : Nat, (ls[k]'hkl).place = (q : Int) := ⟨(ls[k]'hkl).place.toNat, by omega⟩
        have hqu : q < us.length := by rw [← HLU.out, HNU.out]; omega
        obtain ⟨b1, off1, hA1, hbB1, e0, e1, e2⟩ := PA3.at_ (HL.out.grow hBx hBx.size) (k := k) hkl
        obtain ⟨b2, off2, hA2, hbB2, d0⟩ := IS.at_ (HU.out.grow hBx hBx.size) (k := q) hqu
        have HI : Hid (inP us (ls[k]'hkl) = inR (us[q]'hqu) (ls[k]'hkl).early (ls[k]'hkl).late) := by show _ = _; unfold inP; rw [hq, runOf_at hqu]
        have htm := Lib.hid (fun x => take_mem (P := fun p => inP us p = true) hkl hall.out x)
        have hmem := Lib.hid (List.getElem_mem hkl)
        rw [hq] at e0
        generalize us[q]'hqu = u at d0 HI
        generalize ls[k]'hkl = x at e1 e2 HI htm hmem
        have hi1 : (0 : Int) ≤ (q : Int) := by omega
        have hi2 : (q : Int) < (un : Int) := by have := HLU.out; omega
        have hi3 : (0 : Int) ≤ (k : Int) := by omega
        have hi4 : (k : Int) < (ln : Int) := by omega
        clear hkl hqu hpx hq hall
        subst hA1
        cases hA2
        obtain ⟨bb, hbb⟩ : ∃ bb, bb = inR u x.early x.late := ⟨_, rfl⟩
        have HIN : Hid (inR u x.early x.late = bb) := hbb.symm
        rw [← hbb] at HI
        clear hbb
        cases bb
        · have HE2 : Hid (fitM S R ls us = false) := by
            show _ = _
            rw [HE.out, Bool.eq_false_iff]
            intro h
            have := List.all_eq_true.1 h x hmem.out
            rw [HI.out] at this
            cases this
          go_wp2_with fail
          go_quiet ((go_at_call 65; exact Calls.quiet_of_same ((in3_any _ _ _ _).mono fun _ _ ⟨a, b⟩ => ⟨a.trans (by rw [HIN.out]), b.symm⟩)))
          go_wp2_with fail
          go_ret
          exact ⟨ret_bool HE2.out.symm, below_drewN hBx _⟩
        · have hn := Lib.hid (htm.out HI.out)
          go_wp2_with fail
          go_quiet ((go_at_call 65; exact Calls.quiet_of_same ((in3_any _ _ _ _).mono fun _ _ ⟨a, b⟩ => ⟨a.trans (by rw [HIN.out]), b.symm⟩)))
          go_wp2_with fail
          go_roundw
          case rel => exact ⟨k + 1, by omega, by go_num, below_drewN hbx _, hn⟩
          case measure => simp [intOf]; omega
    have hkN : (k : Int) < sumL R.ps := by rw [HN.out]; omega
    obtain ⟨um, hum, hmq, hms⟩ := sums_at (S := S) HV.out hkN
    have HUM := Lib.hid hum
    obtain ⟨y, hy, hy1, hy2⟩ := okI_bd (S := S) (R := R) (us := us) k (fun i hi => hall.out i (by omega))
    have ha3 := tSl_bd HS.out HV.out k
    have ha4 := tQ_bd HS.out HV.out k
    have hyb : 0 ≤ y ∧ y ≤ 1000070000000 := by omega
    have hk1l : k + 1 < us.length := by rw [← HLU.out, HNU.out]; omega
    have hk0l : k < us.length := by omega
    have HK1L := Lib.hid hk1l
    have hx := List.getElem?_eq_getElem hk1l
    have h0 : Hid (okI S R us (k + 1) = inR (us[k + 1]'hk1l - y) (mQ S um) (mSl S um)) := by show _ = _; rw [okI_s hx hy, hmq, hms]; rfl
    have hrx := HRG.out _ (List.getElem_mem hk1l)
    obtain ⟨b1, off1, hA1, hbB1, e0⟩ := IS.at_ (HU.out.grow hBr hBr.size) (k := k + 1) hk1l
    obtain ⟨b2, off2, hA2, hbB2, d0⟩ := IS.at_ (HU.out.grow hBr hBr.size) (k := k) hk0l
    cases hA1
    cases hA2
    rw [show us[k]'hk0l = y from Option.some.inj ((List.getElem?_eq_getElem hk0l).symm.trans hy)] at d0
    generalize us[k + 1]'hk1l = x at e0 h0 hrx
    have hmx0 : 0 ≤ mQ S um := by have := tQ_mono HS.out HV.out (show k ≤ k + 1 by omega); omega
    have HMX := Lib.hid hmx0
    have ha5 := tSl_bd HS.out HV.out (k + 1)
    have HMS : Hid (mSl S um ≤ 1000070000000) := by show _ ≤ _; omega
    clear ha5
    clear hkN hum hmq hms hy hy1 hy2 ha3 ha4 hk1l hk0l hx hmx0
    obtain ⟨rx1, rx2⟩ := hrx
    have g0 : decide ((k : Int) + 1 < (un : Int)) = true := decide_eq_true (by have := HNU.out; omega)
    have hk1 : (0 : Int) ≤ (k : Int) := by omega
    have hk2 : (k : Int) < (un : Int) := by have := HNU.out; omega
    have x0 := hXr.cell 0
    have x1 := hXr.cell 1
    have x2 := hXr.cell 2
    have y0 := hYr.cell 0
    have y1 := hYr.cell 1
    have y2 := hYr.cell 2
    have y3 := hYr.cell 3
    simp only [List.getElem?_toArray, List.getElem?_cons_zero, List.getElem?_cons_succ] at x0 x1 x2 y0 y1 y2 y3
    go_wp2_with fail
    clear x0 x1 x2 y0 y1 y2 y3
    refine (meter_any k um pa pn pc ca cn cc ja jn jc R ra rn rc sa sn sc S _ (HR.out.grow hBr hBr.size) (HD.out.grow hBr hBr.size) HV.out HS.out HUM.out).mono ?_
    rintro e w2 ⟨rfl, hb2⟩
    have hby := hbr.trans (hb2.mono hbr.size)
    have hBy := hB0.trans (hby.mono hz0)
    have e0 := (bc hb2 hbB1).trans e0
    have d0 := (bc hb2 hbB2).trans d0
    clear hXr hYr hBr
    generalize mQ S um = dq at *
    generalize mSl S um = ds at *
    obtain ⟨m, hm⟩ : ∃ m, m = k + 1 := ⟨_, rfl⟩
    have hwk : IntKind.i64.wrap ((k : Int) + 1) = (m : Int) := (IntWalk.i64_in _ (by omega)).trans (by omega)
    have hm1 : (0 : Int) ≤ (m : Int) := by omega
    have hm2 : (m : Int) < (un : Int) := by have := HNU.out; omega
    rw [← hm] at e0 h0
    have HK1L : Hid (m < us.length) := by show _ < _; rw [hm]; exact HK1L.out
    have HM := Lib.hid hm
    clear hm
    have hwin : inR (IntKind.i64.wrap (x - y)) dq ds = inR (x - y) dq ds := by
      have := HMX.out
      have := HMS.out
      by_cases hb : -9223372036854775808 ≤ x - y
      · rw [IntWalk.i64_in _ (by omega)]
      · have e : IntKind.i64.wrap (x - y) = x - y + 18446744073709551616 := by rw [IntKind.wrap_i64]; omega
        rw [e]
        unfold inR
        rw [decide_eq_false (show ¬ x - y + 18446744073709551616 ≤ ds by omega), decide_eq_false (show ¬ dq ≤ x - y by omega), Bool.and_false, Bool.false_and]
    obtain ⟨bb, hbb⟩ : ∃ bb, bb = inR (x - y) dq ds := ⟨_, rfl⟩
    rw [← hbb] at h0 hwin
    have HIN := Lib.hid hwin
    clear hbb hwin rx1 rx2
    cases bb
    · have HE : Hid (fitM S R ls us = false) := fitM_no HK1L.out h0.out
      go_wp2_with fail
      go_quiet ((go_at_call 65; exact Calls.quiet_of_same ((in3_any _ _ _ _).mono fun _ _ ⟨a, b⟩ => ⟨a.trans (by rw [HIN.out]), b.symm⟩)))
      go_wp2_with fail
      go_ret
      exact ⟨ret_bool HE.out.symm, below_drewN hBy _⟩
    · have hn : Hid (∀ j, j < k + 1 + 1 → okI S R us j = true) := fun j hj => by
        rcases Nat.lt_or_ge j (k + 1) with h1 | h1
        · exact hall.out j h1
        · rw [show j = m by have := HM.out; omega, h0.out]
      clear hall h0
      go_wp2_with fail
      go_quiet ((go_at_call 65; exact Calls.quiet_of_same ((in3_any _ _ _ _).mono fun _ _ ⟨a, b⟩ => ⟨a.trans (by rw [HIN.out]), b.symm⟩)))
      go_wp2_with fail
      go_roundw
      case rel => exact ⟨m, by have := HM.out; omega, rfl, below_drewN hby _, by rw [HM.out]; exact hn⟩
      case measure => have := HM.out; simp [intOf]; omega
end Go.Proofs.YtijcbfhlhgjedaaDoor
