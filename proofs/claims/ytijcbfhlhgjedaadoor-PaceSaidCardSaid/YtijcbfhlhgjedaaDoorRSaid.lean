/- The document's Run and Said. -/
import Derived.Test.YtijcbfhlhgjedaaDoorSaid
namespace Go.Proofs.YtijcbfhlhgjedaaDoor
open Go.RowKit Go.Shelf Go.Sort Go.Proofs

set_option maxRecDepth 100000 in
set_option maxHeartbeats 8000000 in
theorem R3Run_any (pa : Option Addr) (pn pc : Nat) (ca : Option Addr) (cn cc : Nat) (ja : Option Addr) (jn jc : Nat) (R : Road) (N : Nat) (ua : Option Addr) (un uc : Nat) (us : List Int) (w : World)
    (h : RD w w.heap.size pa pn ca cn ja jn R) (hv : OK R) (hN : sumL R.ps = N) (hU : SL iC 1 w w.heap.size ua un us) (hun : un ≤ 200000) :
    Calls Tryd.prog 43 #[.agg #[.slice pa pn pc, .slice ca cn cc, .slice ja jn jc], .slice ua un uc] w fun e w' => e = .returned (.bool (trB maxR (N + 1) us)) ∧ Below w.heap.size w w' := by
  have HV := Lib.hid hv
  have HNN := Lib.hid hN
  have hN1 : N ≤ 100000 := by have := hv.n1; omega
  have HL := Lib.hid hU.1
  clear hv hN
  have HR := Lib.hid h
  have HU := Lib.hid hU
  clear h hU
  obtain ⟨w0, hw0⟩ : ∃ w0, w0 = w.alloc (.cells #[.slice pa pn pc, .slice ca cn cc, .slice ja jn jc] 26) := ⟨_, rfl⟩
  have hB0 : Below w.heap.size w w0 := by rw [hw0]; exact (Below.refl w.heap.size w).alloc (Nat.le_refl _) _
  have hX0 : BK w0 (w.heap.size) 26 #[.slice pa pn pc, .slice ca cn cc, .slice ja jn jc] := by rw [hw0]; exact (BK.new w 26 #[.slice pa pn pc, .slice ca cn cc, .slice ja jn jc])
  go_enter Tryd.func43, Tryd.ntmps43
  go_wp2_with fail
  rw [← hw0]
  clear hw0
  have x0 := hX0.cell 0
  have x1 := hX0.cell 1
  have x2 := hX0.cell 2
  simp only [List.getElem?_toArray, List.getElem?_cons_zero, List.getElem?_cons_succ] at x0 x1 x2
  go_wp2_with fail
  clear x0 x1 x2
  refine (R3Length_any pa pn pc ca cn cc ja jn jc R w0 (HR.out.grow hB0 hB0.size) HV.out).mono ?_
  rintro e w1 ⟨rfl, hk⟩
  rw [HNN.out]
  have hB1 := hB0.trans (hk.mono hB0.size)
  have hX1 := hX0.below hk hX0.lt
  clear hX0 hB0 hk
  by_cases hnu : un = N + 1
  case neg =>
    have HE : Hid (trB maxR (N + 1) us = false) := trB_bad (fun q => hnu (by rw [HL.out, q.l]))
    have g0 : ((un : Int) == (N : Int) + 1) = false := by simp; omega
    go_wp2_with fail
    go_ret
    exact ⟨ret_bool HE.out.symm, hB1⟩
  have g0 : ((un : Int) == (N : Int) + 1) = true := by simp; omega
  have g0' : ((un : Int) != (N : Int) + 1) = false := by simp; omega
  have HNU := Lib.hid hnu
  clear hnu
  go_wp2_with fail
  have hz1 := hB1.size
  go_loopw [5] (fun i wr => ∃ k : Nat, k ≤ un ∧ i = .int .i64 k ∧ Below w1.heap.size w1 wr ∧ Hid (∀ i, i < k → gAt maxR us i))
    (fun i _ => un - (intOf i).toNat)
  case atStart => exact ⟨0, Nat.zero_le _, rfl, Below.refl _ _, by simp [Hid]⟩
  case round =>
    obtain ⟨m, hm, rfl, hbr, hall⟩ := hrel
    have hBr := hB1.trans (hbr.mono hz1)
    have hzr := hbr.size
    by_cases hlt : m < un
    case neg =>
      obtain rfl : m = un := by omega
      have hend : Hid (trB maxR (N + 1) us = true) := trB_ok ⟨by rw [← HL.out]; exact HNU.out, fun i hi => hall.out i (by rw [HL.out]; exact hi)⟩
      go_wp2_with fail
      go_ret
      exact ⟨ret_bool hend.out.symm, hBr⟩
    have hkl : m < us.length := by rw [← HL.out]; exact hlt
    have hw := HU.out.grow hBr hBr.size
    obtain ⟨b, off, hA, hbB, c0⟩ := IS.at_ hw (k := m) hkl
    have hstep : Hid (∀ (hh : inR us[m] 0 maxR = true ∧ ∀ d, 0 < m → us[m-1]? = some d → d ≤ us[m]), ∀ i, i < m + 1 → gAt maxR us i) := by
      intro hh i hi
      rcases Nat.lt_or_ge i m with h | h
      · exact hall.out i h
      · obtain rfl : i = m := by omega
        intro c hc
        rw [List.getElem?_eq_getElem hkl] at hc
        cases hc
        exact hh
    have hno : Hid (∀ (hh : ¬ (inR us[m] 0 maxR = true ∧ ∀ d, 0 < m → us[m-1]? = some d → d ≤ us[m])), trB maxR (N + 1) us = false) := by
      intro hh
      exact trB_bad (fun q => hh (q.t m hkl _ (List.getElem?_eq_getElem hkl)))
    have hprev : 0 < m → ∃ d, Hid (us[m-1]? = some d) ∧ wr.cell? ⟨b, off + (m-1), none⟩ = some (.int .i64 d) := by
      intro h0
      obtain ⟨b2, off2, hA2, _, c02⟩ := IS.at_ hw (k := m - 1) (by omega)
      rw [hA] at hA2
      cases hA2
      exact ⟨us[m-1], List.getElem?_eq_getElem (by omega), c02⟩
    generalize us[m]'hkl = c at c0 hstep hno
    clear hkl hall hw
    have hm1 : (0 : Int) ≤ (m : Int) := by omega
    have hm2 : (m : Int) < (un : Int) := by omega
    subst hA
    rw [show maxR = 1125899906842624 from rfl] at hstep
    cases e1 : inR c 0 1125899906842624
    case false =>
      have HE := Lib.hid (hno.out (by rw [show maxR = 1125899906842624 from rfl, e1]; simp))
      have HE1 := Lib.hid e1
      clear hno hstep hprev e1
      go_wp2_with fail
      go_quiet ((go_at_call 65; exact Calls.quiet_of_same ((in3_any _ _ _ _).mono fun _ _ ⟨a, b⟩ => ⟨a.trans (by rw [HE1.out]), b.symm⟩)))
      go_wp2_with fail
      go_ret
      exact ⟨ret_bool HE.out.symm, below_drewN hBr _⟩
    have HE1 := Lib.hid e1
    by_cases hm0 : 0 < m
    case pos =>
      obtain ⟨d, hd, cd⟩ := hprev hm0
      have hg : decide ((0 : Int) < (m : Int)) = true := by simp; omega
      by_cases hlt2 : c < d
      case pos =>
        have g3 : decide (c < d) = true := by simpa using hlt2
        have HE := Lib.hid (hno.out (by rintro ⟨-, h⟩; have := h d hm0 hd.out; omega))
        clear hno hstep hprev e1
        go_wp2_with fail
        go_quiet ((go_at_call 65; exact Calls.quiet_of_same ((in3_any _ _ _ _).mono fun _ _ ⟨a, b⟩ => ⟨a.trans (by rw [HE1.out]), b.symm⟩)))
        go_wp2_with fail
        go_ret
        exact ⟨ret_bool HE.out.symm, below_drewN hBr _⟩
      have g3 : decide (c < d) = false := by simpa using hlt2
      have hs' := Lib.hid (hstep.out ⟨e1, fun d' _ h' => by rw [hd.out] at h'; cases h'; omega⟩)
      clear hno hstep hprev e1
      go_wp2_with fail
      go_quiet ((go_at_call 65; exact Calls.quiet_of_same ((in3_any _ _ _ _).mono fun _ _ ⟨a, b⟩ => ⟨a.trans (by rw [HE1.out]), b.symm⟩)))
      go_wp2_with fail
      go_roundw
      case rel => exact ⟨m + 1, by omega, by go_num, below_drewN hbr _, hs'⟩
      case measure => simp [intOf]; omega
    have hg : decide ((0 : Int) < (m : Int)) = false := by simp; omega
    have hs' := Lib.hid (hstep.out ⟨e1, fun d' h' => absurd h' hm0⟩)
    clear hno hstep hprev e1
    go_wp2_with fail
    go_quiet ((go_at_call 65; exact Calls.quiet_of_same ((in3_any _ _ _ _).mono fun _ _ ⟨a, b⟩ => ⟨a.trans (by rw [HE1.out]), b.symm⟩)))
    go_wp2_with fail
    go_roundw
    case rel => exact ⟨m + 1, by omega, by go_num, below_drewN hbr _, hs'⟩
    case measure => simp [intOf]; omega
set_option maxRecDepth 100000 in
set_option maxHeartbeats 8000000 in
theorem R3Said_any (ka : Option Addr) (kn kc : Nat) (cs : List CallR) (la : Option Addr) (ln lc : Nat) (ls : List Int) (ua : Option Addr) (un uc : Nat) (us : List Int) (N : Nat) (w : World)
    (hK : SL caC 5 w w.heap.size ka kn cs) (hL : SL iC 1 w w.heap.size la ln ls) (hU : SL iC 1 w w.heap.size ua un us) (hc : COK N cs) (ht : TOK N cs.length ls) (hu : TOK maxR (N + 1) us) :
    Calls Tryd.prog 44 #[.slice ka kn kc, .slice la ln lc, .slice ua un uc] w fun e w' => ∃ A n c, e = .returned (.slice A n c) ∧ SL iC 1 w' w'.heap.size A n (saidL cs ls us cs.length) ∧ Below w.heap.size w w' := by
  have HLK := Lib.hid hK.1
  have HLU := Lib.hid hU.1
  have HC := Lib.hid hc
  have HT := Lib.hid ht
  have HU3 := Lib.hid hu
  have hkn : kn ≤ 300 := by rw [hK.1]; exact hc.l1
  clear hc ht hu
  have HK := Lib.hid hK
  have HL := Lib.hid hL
  have HU := Lib.hid hU
  clear hK hL hU
  go_enter Tryd.func44, Tryd.ntmps44
  go_wp2_with fail
  go_loopw [7, 8, 9, 10] (fun o en i bg wr => ∃ (k : Nat) (A : Option Addr) (n c : Nat), k ≤ kn ∧ i = .int .i64 k ∧ o = .slice A n c ∧ en = .int .i64 (endAt cs ls us k) ∧ n ≤ k ∧ OW iC 1 3 w.heap.size wr A n c (saidL cs ls us k) ∧ Below w.heap.size w wr)
    (fun _ _ i _ _ => kn - (intOf i).toNat)
  case atStart => exact ⟨0, none, 0, 0, Nat.zero_le _, rfl, rfl, rfl, Nat.le_refl _, OW.nil_, Below.refl _ _⟩
  case round =>
    obtain ⟨k, A, n, c, hk, rfl, rfl, rfl, hnk, hO, hbr⟩ := hrel
    by_cases hlt : k < kn
    case neg =>
      obtain rfl : k = kn := by omega
      have HE : Hid (saidL cs ls us k = saidL cs ls us cs.length) := by show _ = _; rw [HLK.out]
      go_wp2_with fail
      go_ret
      exact ⟨A, n, c, rfl, by rw [← HE.out]; exact hO.sl iC_len, hbr⟩
    have hkl : k < cs.length := by rw [← HLK.out]; exact hlt
    have hll : k < ls.length := by rw [HT.out.l]; exact hkl
    have hpb := (HT.out.t k hll _ (List.getElem?_eq_getElem hll)).1
    simp only [inR, Bool.and_eq_true, decide_eq_true_eq] at hpb
    obtain ⟨q, hq⟩ : ∃ q : Nat, ls[k]'hll = (q : Int) := ⟨(ls[k]'hll).toNat, by omega⟩
    have hqu : q < us.length := by have := HU3.out.l; omega
    have hes := endAt_succ (cs := cs) (ls := ls) (run := us) hkl (q := q) (by rw [List.getElem?_eq_getElem hll, hq]) (List.getElem?_eq_getElem hqu)
    have hsL := Lib.hid (saidL_succ cs ls us k)
    have hb0 := end_in (ls := ls) HC.out HU3.out (k := k) (by omega)
    have hb1 := end_in (ls := ls) HC.out HU3.out (k := k + 1) (by omega)
    have hub := (HU3.out.t q hqu _ (List.getElem?_eq_getElem hqu)).1
    simp only [inR, Bool.and_eq_true, decide_eq_true_eq] at hub
    rw [show maxR = 1125899906842624 from rfl] at hub
    have hlb := kAt_bd HC.out hkl
    obtain ⟨b, off, hA, hbB, c0, c1, c2, c3, c4⟩ := KS5.at_ (HK.out.grow hbr hbr.size) (k := k) hkl
    obtain ⟨b2, off2, hA2, hbB2, d0⟩ := IS.at_ (HL.out.grow hbr hbr.size) (k := k) hll
    obtain ⟨b3, off3, hA3, hbB3, e0⟩ := IS.at_ (HU.out.grow hbr hbr.size) (k := q) hqu
    rw [hq] at d0
    have hqm : (q : Int) < (un : Int) := by rw [HLU.out]; omega
    generalize us[q]'hqu = v at e0 hes hub
    generalize cs[k]'hkl = x at c0 c1 c2 c3 c4 hes hlb
    clear hkl hll hqu hq hpb
    have hz : k = 0 → endAt cs ls us k = 0 := fun h => by rw [h]; rfl
    obtain ⟨E0, hE0⟩ : ∃ E0, E0 = endAt cs ls us k := ⟨_, rfl⟩
    obtain ⟨E1, hE1⟩ : ∃ E1, E1 = endAt cs ls us (k + 1) := ⟨_, rfl⟩
    obtain ⟨M0, hM0⟩ : ∃ M0, M0 = max E0 v := ⟨_, rfl⟩
    rw [← hE0] at hb0 hes hz ⊢
    rw [← hE1] at hb1 hes hsL
    rw [← hM0] at hes
    have hite : (if v < E0 then E0 else v) = M0 := by subst hM0; rw [Int.max_def]; split <;> split <;> omega
    have hv0 : k = 0 → v = M0 := fun h => by rw [hM0, hz h, Int.max_def]; split <;> omega
    have hMb : 0 ≤ M0 ∧ M0 ≤ 340000000000000000 := by subst hM0; omega
    have HE1 := Lib.hid hE1
    clear hE0 hE1 hM0 hz
    obtain ⟨p3, p4⟩ := hlb.2.1
    rw [show maxM = 1125899906842624 from rfl] at p4
    clear hlb
    have hi1 : (0 : Int) ≤ (k : Int) := by omega
    have hi2 : (k : Int) < (kn : Int) := by omega
    have hi3 : (k : Int) < (ln : Int) := by have := HL.out.1; have := HT.out.l; have := HLK.out; omega
    have hi4 : (0 : Int) ≤ (q : Int) := by omega
    have hws : IntKind.i64.wrap (M0 + x.lasts) = E1 := by rw [hes]; exact IntWalk.i64_in _ (by omega)
    have HES := Lib.hid hes
    clear hes
    subst hA
    subst hA2
    subst hA3
    have hNew : BK (wr.alloc (.cells #[.int .i64 E1] 3)) wr.heap.size 3 #[.int .i64 E1] := BK.new wr _ _
    have hzr := hbr.size
    by_cases hk0 : 0 < k
    case pos =>
      have hg : decide ((0 : Int) < (k : Int)) = true := by simp; omega
      clear hv0
      go_wp2_with (at_builtin; refine wpList_app rfl _ _ 28 rfl _ 3 _ 1 8 Tryd.underlying28 infoI3 rfl (by decide) iC A n c _ rfl (hO.alloc _) E1 #[.int .i64 E1] rfl rfl 3 wr.heap.size rfl hNew (by simp [iC, Value.oneCell']) (by omega) (by omega) (by simp; omega) ?_; intro g' c' w8 hap; have HAP := Lib.hid hap; clear hap)
      have hap := HAP.out
      have hbN := (hbr.alloc (by omega) _).trans hap.bel
      go_roundw
      case rel => exact ⟨k + 1, some ⟨g', 0, none⟩, n + 1, c', by omega, by go_num, rfl, by rw [← HE1.out], by omega, by rw [hsL.out]; exact hap.own, hbN⟩
      case measure => simp [intOf]; omega
    have hg : decide ((0 : Int) < (k : Int)) = false := by simp; omega
    obtain rfl : v = M0 := hv0 (by omega)
    go_wp2_with (at_builtin; refine wpList_app rfl _ _ 28 rfl _ 3 _ 1 8 Tryd.underlying28 infoI3 rfl (by decide) iC A n c _ rfl (hO.alloc _) E1 #[.int .i64 E1] rfl rfl 3 wr.heap.size rfl hNew (by simp [iC, Value.oneCell']) (by omega) (by omega) (by simp; omega) ?_; intro g' c' w8 hap; have HAP := Lib.hid hap; clear hap)
    have hap := HAP.out
    have hbN := (hbr.alloc (by omega) _).trans hap.bel
    go_roundw
    case rel => exact ⟨k + 1, some ⟨g', 0, none⟩, n + 1, c', by omega, by go_num, rfl, by rw [← HE1.out], by omega, by rw [hsL.out]; exact hap.own, hbN⟩
    case measure => simp [intOf]; omega
end Go.Proofs.YtijcbfhlhgjedaaDoor
