/- The law function TopRaced, walked: it returns true. Printed by genlrace.py. -/
import Derived.BigQuiet
import Derived.Test.YtafclpmnpamipaaGreatQRacM
import Derived.Test.YtafclpmnpamipaaGreatQRfC
import Derived.Test.YtafclpmnpamipaaGreatQBegB
import Derived.Test.YtafclpmnpamipaaGreatQOpenS
import Derived.Test.YtafclpmnpamipaaGreatQRef3
import Derived.Test.YtafclpmnpamipaaGreatQPlanM
import Derived.Test.YtafclpmnpamipaaGreatQRegV
import Derived.Test.YtafclpmnpamipaaGreatQHeardP
import Derived.Test.YtafclpmnpamipaaGreatQKn09
import Derived.Test.YtafclpmnpamipaaGreatQBrief
namespace Go.Proofs.YtafclpmnpamipaaGreat
open Go.RowKit Go.Shelf Go.Sort Go.Proofs

theorem btw_stp {S : Spd} {R : Road} {f t : Nat} (h1 : f ≤ t) (h2 : (t : Int) ≤ sumL R.ps) : btw S R f t = (tQ S R.ps t - tQ S R.ps f, tSl S R.ps t - tSl S R.ps f, 0) := by
  unfold btw
  rw [if_pos (by simp [inR]; omega), Int.toNat_natCast, Int.toNat_natCast]
theorem btw_0 {S : Spd} {R : Road} {N : Nat} (h : sumL R.ps = N) : btw S R 0 N = (tQ S R.ps N, tSl S R.ps N, 0) := by
  have := btw_stp (S := S) (R := R) (f := 0) (t := N) (Nat.zero_le _) (by omega)
  rw [tQ_zero, tSl_zero, Int.sub_zero, Int.sub_zero] at this
  exact this
theorem roadbk9 {w : World} {g : Nat} {v0 v1 v2 : Value} (h : BK w g 26 #[v0, v1, v2]) : w.cell? ⟨g, 0, none⟩ = some v0 ∧ w.cell? ⟨g, 1, none⟩ = some v1 ∧ w.cell? ⟨g, 2, none⟩ = some v2 := ⟨h.cell 0, h.cell 1, h.cell 2⟩
theorem sp49 {w : World} {g : Nat} {v0 v1 v2 v3 : Value} (h : BK w g 30 #[v0, v1, v2, v3]) : w.cell? ⟨g, 0, none⟩ = some v0 ∧ w.cell? ⟨g, 1, none⟩ = some v1 ∧ w.cell? ⟨g, 2, none⟩ = some v2 ∧ w.cell? ⟨g, 3, none⟩ = some v3 := ⟨h.cell 0, h.cell 1, h.cell 2, h.cell 3⟩
theorem getD_of {l : List Int} {k : Nat} (h : k < l.length) : l.getD k 0 = l[k] := by
  rw [List.getD_eq_getElem?_getD, List.getElem?_eq_getElem h]; rfl
set_option maxRecDepth 100000 in
set_option maxHeartbeats 8000000 in
theorem LRace_walk (pa : Option Addr) (pn pc : Nat) (ca : Option Addr) (cn cc : Nat) (ja : Option Addr) (jn jc : Nat) (R : Road) (ra : Option Addr) (rn rc : Nat) (sa : Option Addr) (sn sc : Nat) (S : Spd) (ua : Option Addr) (un uc : Nat) (us : List Int) (w : World)
    (hr : RD w w.heap.size pa pn ca cn ja jn R) (hD : SD w w.heap.size ra rn sa sn S) (hU : SL iC 1 w w.heap.size ua un us) :
    Calls Tryz.prog 3 #[.agg #[.slice pa pn pc, .slice ca cn cc, .slice ja jn jc], .agg #[.int .i64 S.least, .int .i64 S.most, .slice ra rn rc, .slice sa sn sc], .slice ua un uc] w fun e w' => e = .returned (.bool true) ∧ Below w.heap.size w w' := by
  have hmo : Tryz.prog.follows .mixedOrders = true := by kernel_rfl
  obtain ⟨w0, hw0⟩ : ∃ w0, w0 = (w.alloc (.cells #[.slice pa pn pc, .slice ca cn cc, .slice ja jn jc] 26)).alloc (.cells #[.int .i64 S.least, .int .i64 S.most, .slice ra rn rc, .slice sa sn sc] 30) := ⟨_, rfl⟩
  have HX0 : Hid (BK w0 w.heap.size 26 #[.slice pa pn pc, .slice ca cn cc, .slice ja jn jc]) := by show BK _ _ _ _; rw [hw0]; exact (BK.new w _ _).alloc _
  have HY0 : Hid (BK w0 (w.heap.size + 1) 30 #[.int .i64 S.least, .int .i64 S.most, .slice ra rn rc, .slice sa sn sc]) := by
    show BK _ _ _ _
    have := BK.new (w.alloc (.cells #[.slice pa pn pc, .slice ca cn cc, .slice ja jn jc] 26)) 30 #[.int .i64 S.least, .int .i64 S.most, .slice ra rn rc, .slice sa sn sc]
    rw [World.size_alloc] at this
    rw [hw0]; exact this
  have HB0 : Hid (Below w.heap.size w w0) := by show Below _ _ _; rw [hw0]; exact ((Below.refl _ w).alloc (Nat.le_refl _) _).alloc (by simp) _
  have HR := Lib.hid hr
  have HD := Lib.hid hD
  have HU := Lib.hid hU
  have HUL := Lib.hid hU.1
  obtain ⟨r0, r1, r2⟩ := roadbk9 HX0.out
  obtain ⟨s0, s1, s2, s3⟩ := sp49 HY0.out
  clear hr hD hU
  go_enter Tryz.func3, Tryz.ntmps3
  go_wp2_with fail
  rw [← hw0]
  clear hw0
  go_wp2_with fail
  refine (brief_any pa pn pc ca cn cc ja jn jc R _ (HR.out.grow HB0.out HB0.out.size)).mono ?_
  rintro e w1 ⟨rfl, hb⟩
  have HB1 := Lib.hid (HB0.out.trans (hb.mono HB0.out.size))
  have HX1 := Lib.hid (HX0.out.below hb HX0.out.lt)
  have HY1 := Lib.hid (HY0.out.below hb HY0.out.lt)
  clear hb HB0 HX0 HY0  r0 r1 r2 s0 s1 s2 s3
  obtain ⟨r0, r1, r2⟩ := roadbk9 HX1.out
  obtain ⟨s0, s1, s2, s3⟩ := sp49 HY1.out
  cases hbr : val R && decide (sumL R.ps ≤ 120)
  case false =>
    go_wp2_with fail
    refine (known09_any _).mono ?_
    rintro e w9 ⟨rfl, hb9⟩
    go_wp2_with fail
    go_ret
    exact ⟨rfl, HB1.out.trans (hb9.mono HB1.out.size)⟩
  have HOK : Hid (OK R) := by have := hbr; rw [Bool.and_eq_true] at this; exact (val_iff R).1 this.1
  have h12 : sumL R.ps ≤ 120 := by have := hbr; rw [Bool.and_eq_true] at this; exact of_decide_eq_true this.2
  have H12 := Lib.hid h12
  clear hbr h12
  go_wp2_with fail
  refine (RSpeeds_any ra rn rc sa sn sc S _ (HD.out.grow HB1.out HB1.out.size)).mono ?_
  rintro e w2 ⟨rfl, hb⟩
  have HB2 := Lib.hid (HB1.out.trans (hb.mono HB1.out.size))
  have HX2 := Lib.hid (HX1.out.below hb HX1.out.lt)
  have HY2 := Lib.hid (HY1.out.below hb HY1.out.lt)
  clear hb HB1 HX1 HY1  r0 r1 r2 s0 s1 s2 s3
  obtain ⟨r0, r1, r2⟩ := roadbk9 HX2.out
  obtain ⟨s0, s1, s2, s3⟩ := sp49 HY2.out
  cases hsp : spB S
  case false =>
    go_wp2_with fail
    refine (known09_any _).mono ?_
    rintro e w9 ⟨rfl, hb9⟩
    go_wp2_with fail
    go_ret
    exact ⟨rfl, HB2.out.trans (hb9.mono HB2.out.size)⟩
  have HSO := Lib.hid ((spB_iff S).1 hsp)
  clear hsp
  by_cases hu0 : un < 1
  case pos =>
    have g1 : decide ((un : Int) < 1) = true := decide_eq_true (by omega)
    have g1' : decide (un < 1) = true := decide_eq_true (by omega)
    have hun0 : un = 0 := by omega
    clear hu0
    go_wp2_with fail
    refine (known09_any _).mono ?_
    rintro e w9 ⟨rfl, hb9⟩
    go_wp2_with fail
    go_ret
    exact ⟨rfl, HB2.out.trans (hb9.mono HB2.out.size)⟩
  have g1 : decide ((un : Int) < 1) = false := decide_eq_false (by omega)
  have g1' : decide (un < 1) = false := decide_eq_false (by omega)
  by_cases hu1 : 6 < un
  case pos =>
    have g2 : decide ((6 : Int) < (un : Int)) = true := decide_eq_true (by omega)
    have g2' : decide (6 < un) = true := decide_eq_true (by omega)
    go_wp2_with fail
    refine (known09_any _).mono ?_
    rintro e w9 ⟨rfl, hb9⟩
    go_wp2_with fail
    go_ret
    exact ⟨rfl, HB2.out.trans (hb9.mono HB2.out.size)⟩
  have g2 : decide ((6 : Int) < (un : Int)) = false := decide_eq_false (by omega)
  have g2' : decide (6 < un) = false := decide_eq_false (by omega)
  have HUN : Hid (1 ≤ un ∧ un ≤ 6) := ⟨by omega, by omega⟩
  clear hu0 hu1
  obtain ⟨N, hN⟩ : ∃ N : Nat, sumL R.ps = (N : Int) := ⟨(sumL R.ps).toNat, by have := (sumL_bd R.ps HOK.out.pk).1; omega⟩
  have HN := Lib.hid hN
  have hN1 : N ≤ 120 := by have := H12.out; omega
  have HN1 := Lib.hid hN1
  have HN0 := Lib.hid (road_pos HOK.out hN)
  clear hN hN1
  obtain ⟨w3, hw3⟩ : ∃ w3, w3 = (((w2.alloc (.cells #[.int .i64 2, .int .i64 0, .int .i64 0, .bool false] 36)).alloc (.cells #[.int .i64 0] 3)).alloc (.cells #[.int .i64 6, .int .i64 5, .int .i64 4, .int .i64 3, .int .i64 2, .int .i64 1] 3)).alloc (.cells #[.slice (some ⟨w2.heap.size, 0, none⟩) 1 1, .int .i64 1, .int .i64 0, .int .i64 0, .int .i64 0, .int .i64 0, .slice (some ⟨w2.heap.size + 1, 0, none⟩) 1 1, .bool false, .int .i64 0, .int .i64 1, .int .i64 100, .int .i64 0, .slice (some ⟨w2.heap.size + 1 + 1, 0, none⟩) 6 6, .slice none 0 0] 42) := ⟨_, rfl⟩
  obtain ⟨h4a, h4b, h4c, h4d, hb⟩ := four_new w2 _ _ _ _ _ _ _ _ w3 hw3
  have HP3 : Hid (PD w3 w3.heap.size (rcP w2.heap.size)) := rcP_pd h4a h4b h4c
  have hq3 : BK w3 (w2.heap.size + 1 + 1 + 1) 42 #[.slice (some ⟨w2.heap.size, 0, none⟩) 1 1, .int .i64 1, .int .i64 0, .int .i64 0, .int .i64 0, .int .i64 0, .slice (some ⟨w2.heap.size + 1, 0, none⟩) 1 1, .bool false, .int .i64 0, .int .i64 1, .int .i64 100, .int .i64 0, .slice (some ⟨w2.heap.size + 1 + 1, 0, none⟩) 6 6, .slice none 0 0] := h4d
  clear h4a h4b h4c h4d
  have HB3 := Lib.hid (HB2.out.trans (hb.mono HB2.out.size))
  have HX3 := Lib.hid (HX2.out.below hb HX2.out.lt)
  have HY3 := Lib.hid (HY2.out.below hb HY2.out.lt)
  obtain ⟨r0', r1', r2'⟩ := roadbk9 HX3.out
  obtain ⟨s0', s1', s2', s3'⟩ := sp49 HY3.out
  rw [hw3] at r0' r1' r2' s0' s1' s2' s3'
  go_wp2_with fail
  rw [← hw3]
  clear hb HB2 HX2 HY2 hw3 r0' r1' r2' s0' s1' s2' s3' r0 r1 r2 s0 s1 s2 s3 g1 g2 g1' g2'
  obtain ⟨L, hL⟩ : ∃ L, L = rcP w2.heap.size := ⟨_, rfl⟩
  obtain ⟨Qb, hQb⟩ : ∃ q, q = w2.heap.size + 1 + 1 + 1 := ⟨_, rfl⟩
  have HQ3 : Hid (BK w3 Qb 42 #[.slice (some ⟨L.ib, 0, none⟩) 1 L.ic, .int .i64 1, .int .i64 0, .int .i64 0, .int .i64 L.ml, .int .i64 L.ll, .slice (some ⟨L.jb, 0, none⟩) 1 L.jc, .bool false, .int .i64 0, .int .i64 1, .int .i64 100, .int .i64 L.pow, .slice L.pa L.ps.length L.pc, .slice none 0 0]) := by show BK _ _ _ _; rw [hL, hQb]; exact hq3
  have HLL : Hid (∃ b, L = rcP b) := ⟨_, hL⟩
  rw [← hL] at HP3
  rw [← hQb]
  clear hq3 hL hQb
  obtain ⟨r0, r1, r2⟩ := roadbk9 HX3.out
  obtain ⟨s0, s1, s2, s3⟩ := sp49 HY3.out
  refine (R3Length_any pa pn pc ca cn cc ja jn jc R _ (HR.out.grow HB3.out HB3.out.size) HOK.out).mono ?_
  rintro e w4 ⟨rfl, hb⟩
  rw [HN.out]
  have HB4 := Lib.hid (HB3.out.trans (hb.mono HB3.out.size))
  have HX4 := Lib.hid (HX3.out.below hb HX3.out.lt)
  have HY4 := Lib.hid (HY3.out.below hb HY3.out.lt)
  have HQ4 := Lib.hid (HQ3.out.below hb HQ3.out.lt)
  have HP4 := Lib.hid (HP3.out.grow hb hb.size)
  clear hb HB3 HX3 HY3 HQ3 HP3 r0 r1 r2 s0 s1 s2 s3
  obtain ⟨r0, r1, r2⟩ := roadbk9 HX4.out
  obtain ⟨s0, s1, s2, s3⟩ := sp49 HY4.out
  go_wp2_with fail
  refine (Between_any 0 (N : Int) pa pn pc ca cn cc ja jn jc R ra rn rc sa sn sc S _ (HR.out.grow HB4.out HB4.out.size) (HD.out.grow HB4.out HB4.out.size) HOK.out HSO.out).mono ?_
  rintro e w5 ⟨rfl, hb⟩
  rw [btw_0 HN.out]
  dsimp only
  have HB5 := Lib.hid (HB4.out.trans (hb.mono HB4.out.size))
  have HX5 := Lib.hid (HX4.out.below hb HX4.out.lt)
  have HY5 := Lib.hid (HY4.out.below hb HY4.out.lt)
  have HQ5 := Lib.hid (HQ4.out.below hb HQ4.out.lt)
  have HP5 := Lib.hid (HP4.out.grow hb hb.size)
  clear hb HB4 HX4 HY4 HQ4 HP4 r0 r1 r2 s0 s1 s2 s3
  have hlb := tQ_bd HSO.out HOK.out N
  have hhb := tSl_bd HSO.out HOK.out N
  obtain ⟨lo, hlo⟩ : ∃ lo, lo = tQ S R.ps N := ⟨_, rfl⟩
  obtain ⟨hi, hhi⟩ : ∃ hi, hi = tSl S R.ps N := ⟨_, rfl⟩
  rw [← hlo] at hlb
  rw [← hhi] at hhb
  rw [← hlo, ← hhi]
  have HLO := Lib.hid hlo
  have HHI := Lib.hid hhi
  have HLB := Lib.hid hlb
  have HHB := Lib.hid hhb
  obtain ⟨H, hH⟩ : ∃ H, H = hi / 1000 := ⟨_, rfl⟩
  have hq1 : hi.tdiv 1000 = H := by rw [hH, Int.tdiv_eq_ediv_of_nonneg hhb.1]
  have hwH : IntKind.i64.wrap H = H := IntWalk.i64_in _ (by omega)
  have hwH1 : IntKind.i64.wrap (H + 1) = H + 1 := IntWalk.i64_in _ (by omega)
  have HH := Lib.hid hH
  clear hlo hhi hH hlb hhb
  by_cases hbig : 36000000 < H + 1
  case pos =>
    have g3 : decide ((36000000 : Int) < H + 1) = true := decide_eq_true hbig
    clear hbig
    go_wp2_with fail
    refine (known09_any _).mono ?_
    rintro e w9 ⟨rfl, hb9⟩
    go_wp2_with fail
    go_ret
    exact ⟨rfl, HB5.out.trans (hb9.mono HB5.out.size)⟩
  have g3 : decide ((36000000 : Int) < H + 1) = false := decide_eq_false hbig
  have HBG : Hid (H + 1 ≤ 36000000) := by show _ ≤ _; omega
  clear hbig
  go_wp2_with fail
  clear hq1 hwH hwH1 g3
  have HZ5 := Lib.hid HB5.out.size
  go_loopw [12, 13] (fun cv iv wr => ∃ (k : Nat) (A : Option Addr) (c : Nat) (xs : List CdV), k ≤ un ∧ iv = .int .i64 k ∧ cv = .slice A k c ∧ CKS w5.heap.size wr A k c xs ∧ Hid (xs.map (·.t) = (us.take k).map (rcT S R N)) ∧ Below w5.heap.size w5 wr)
    (fun _ i _ => un - (intOf i).toNat)
  case atStart => exact ⟨0, none, 0, [], Nat.zero_le _, rfl, rfl, CKS.nil_, rfl, Below.refl _ _⟩
  case round =>
    obtain ⟨wa, hwa⟩ : ∃ x, x = wr := ⟨_, rfl⟩
    subst hwa
    obtain ⟨k, A, c, xs, hk, rfl, rfl, hC, HTS, hb⟩ := hrel
    have HCa := Lib.hid hC
    have HK := Lib.hid hk
    have HBx := Lib.hid hb
    have HBa := Lib.hid (HB5.out.trans (hb.mono HZ5.out))
    have HXa := Lib.hid (HX5.out.below hb HX5.out.lt)
    have HYa := Lib.hid (HY5.out.below hb HY5.out.lt)
    have HQa := Lib.hid (HQ5.out.below hb HQ5.out.lt)
    have HPa := Lib.hid (HP5.out.grow hb hb.size)
    have HDx : Hid (xs.length = k) := hC.o.2.symm
    clear hb hC
    by_cases hlt : k < un
    case pos =>
      have hkl : k < us.length := by rw [← HUL.out]; exact hlt
      obtain ⟨sv, hsv⟩ : ∃ s, s = us[k]'hkl := ⟨_, rfl⟩
      have HSV : Hid (us[k]? = some sv) := by show _ = _; rw [hsv]; exact List.getElem?_eq_getElem hkl
      clear hsv
      have hkun : (k : Int) < (un : Int) := by omega
      have hk00 : (0 : Int) ≤ (k : Int) := by omega
      have g4 : decide ((k : Int) < (un : Int)) = true := decide_eq_true hkun
      have g4' : decide (k < un) = true := decide_eq_true hlt
      obtain ⟨v, hv⟩ : ∃ v, v = rcV S R N sv := ⟨_, rfl⟩
      have HV := Lib.hid hv
      have HRN := Lib.hid (rcV_runs (S := S) HSO.out HOK.out HN.out sv)
      rw [← hv] at HRN
      have hv0 : v 0 = 0 := by rw [hv]; rfl
      have hN120 : N ≤ 100000 := by have := HN1.out; omega
      have hmk := make_ints N hN120 wa
      have hwN : IntKind.i64.wrap ((N : Int) + 1) = (N : Int) + 1 := IntWalk.i64_in _ (by omega)
      have hRun0 := BK.new wa 3 (blkI (List.replicate (N + 1) 0))
      rw [← runK_0 (v := v) hv0] at hRun0 hmk
      obtain ⟨wm, hwm⟩ : ∃ wm, wm = wa.alloc (.cells (blkI (runK N v 0)) 3) := ⟨_, rfl⟩
      rw [← hwm] at hRun0 hmk
      have hbm : Below wa.heap.size wa wm := by rw [hwm]; exact (Below.refl _ _).alloc (Nat.le_refl _) _
      have HBm := Lib.hid hbm
      have HRun0 := Lib.hid hRun0
      have HVZ := Lib.hid hv0
      clear hwm hv hbm hRun0 hv0 hkl
      go_wp2_with fail
      clear hmk hwN g4 g4'
      have HZa := Lib.hid HBa.out.size
      go_loopw [15] (fun i wr => ∃ m : Nat, m ≤ N ∧ i = .int .i64 ((m : Int) + 1) ∧ BK wr wa.heap.size 3 (blkI (runK N v m)) ∧ Below wa.heap.size wa wr ∧ wa.heap.size < wr.heap.size)
        (fun i _ => N + 1 - (intOf i).toNat)
      case atStart => exact ⟨0, Nat.zero_le _, rfl, HRun0.out, HBm.out, HRun0.out.lt⟩
      case round =>
        obtain ⟨wb, hwb⟩ : ∃ x, x = wr := ⟨_, rfl⟩
        subst hwb
        obtain ⟨j, hj, rfl, hRun, hb, hlr⟩ := hrel
        have HRun := Lib.hid hRun
        have HBy := Lib.hid hb
        have HLR := Lib.hid hlr
        have HBb := Lib.hid (HBa.out.trans (hb.mono HZa.out))
        have HXb := Lib.hid (HXa.out.below hb HXa.out.lt)
        have HYb := Lib.hid (HYa.out.below hb HYa.out.lt)
        clear hb hRun hlr
        by_cases hlt2 : j < N
        case pos =>
          obtain ⟨r0, r1, r2⟩ := roadbk9 HXb.out
          obtain ⟨s0, s1, s2, s3⟩ := sp49 HYb.out
          have hbd1 := HN1.out
          have g0 : decide ((j : Int) + 1 ≤ (N : Int)) = true := decide_eq_true (by omega)
          have hwk : IntKind.i64.wrap ((j : Int) + 1 - 1) = (j : Int) := (IntWalk.i64_in _ (by omega)).trans (by omega)
          obtain ⟨m, hm⟩ : ∃ m, m = j + 1 := ⟨_, rfl⟩
          have hmi : (j : Int) + 1 = (m : Int) := by omega
          rw [hmi] at g0 hwk ⊢
          have hmN : m ≤ N := by omega
          have HST : Hid (v m = v j + (tQ S R.ps m - tQ S R.ps j) + ((tSl S R.ps m - tSl S R.ps j) - (tQ S R.ps m - tQ S R.ps j)) * shr sv / 100) := by show _ = _; rw [hm, HV.out]; exact rcV_succ S R sv hlt2
          have hd := HRN.out.d j hlt2
          rw [← hm] at hd
          have hdq0 := tQ_mono HSO.out HOK.out (show j ≤ m by omega)
          have hb1 := HRN.out.bd HSO.out HOK.out (b := j) (by omega)
          have hb2 := HRN.out.bd HSO.out HOK.out (b := m) hmN
          have hb3 := tSl_bd HSO.out HOK.out m
          have hb4 := tSl_bd HSO.out HOK.out j
          have hsb := shr_bd sv
          have HM := Lib.hid hm
          have HMN : Hid ((m : Int) ≤ sumL R.ps) := by show _ ≤ _; rw [HN.out]; omega
          have HJM : Hid (j ≤ m) := by show _ ≤ _; omega
          clear hm hmi
          go_wp2_with fail
          refine (Between_any j m pa pn pc ca cn cc ja jn jc R ra rn rc sa sn sc S _ (HR.out.grow HBb.out HBb.out.size) (HD.out.grow HBb.out HBb.out.size) HOK.out HSO.out).mono ?_
          rintro e wq ⟨rfl, hb⟩
          rw [btw_stp (S := S) HJM.out HMN.out]
          dsimp only
          have hRun9 := HRun.out.below hb HLR.out
          have HBq := Lib.hid (HBy.out.trans (hb.mono HBy.out.size))
          have HBB := Lib.hid (HBb.out.trans (hb.mono HBb.out.size))
          clear hb HRun HBb HXb HYb HBy r0 r1 r2 s0 s1 s2 s3
          have cy := hRun9.cell j
          rw [blkI_at (runK_at (show j ≤ N by omega)), if_pos (Nat.le_refl j)] at cy
          have HRun9 := Lib.hid hRun9
          obtain ⟨dq, hdq⟩ : ∃ dq, dq = tQ S R.ps m - tQ S R.ps j := ⟨_, rfl⟩
          obtain ⟨ds, hds⟩ : ∃ ds, ds = tSl S R.ps m - tSl S R.ps j := ⟨_, rfl⟩
          have hds1 : ds ≤ 1000070000000 := by omega
          rw [← hdq, ← hds] at hd HST ⊢
          have hdq0 : 0 ≤ dq := by omega
          clear hdq hds hb3 hb4
          obtain ⟨y, hy⟩ : ∃ y, y = v j := ⟨_, rfl⟩
          obtain ⟨sh, hsh⟩ : ∃ sh, sh = shr sv := ⟨_, rfl⟩
          rw [← hy] at hd HST hb1 cy
          rw [← hsh] at HST hsb
          have hD1 : 0 ≤ ds - dq := by omega
          have hX1 : 0 ≤ (ds - dq) * sh := Int.mul_nonneg hD1 hsb.1
          have hX2 : (ds - dq) * sh ≤ (ds - dq) * 100 := Int.mul_le_mul_of_nonneg_left hsb.2 hD1
          obtain ⟨X, hX⟩ : ∃ X, X = (ds - dq) * sh := ⟨_, rfl⟩
          rw [← hX] at hX1 hX2 HST
          obtain ⟨Z, hZ⟩ : ∃ Z, Z = X / 100 := ⟨_, rfl⟩
          rw [← hZ] at HST
          have hZb : 0 ≤ Z ∧ Z ≤ X := by omega
          have hw1 : IntKind.i64.wrap (y + dq) = y + dq := IntWalk.i64_in _ (by omega)
          have hw2 : IntKind.i64.wrap (ds - dq) = ds - dq := IntWalk.i64_in _ (by omega)
          have hw3 : IntKind.i64.wrap ((ds - dq) * sh) = X := by rw [← hX]; exact IntWalk.i64_in _ (by omega)
          have hw4 : IntKind.i64.wrap (y + dq + Z) = y + dq + Z := IntWalk.i64_in _ (by omega)
          have hq1 : X.tdiv 100 = Z := by rw [hZ, Int.tdiv_eq_ediv_of_nonneg hX1]
          have hq2 : IntKind.i64.wrap Z = Z := IntWalk.i64_in _ (by omega)
          have hmu : (m : Int) < (N : Int) + 1 := by omega
          have hku : (j : Int) < (N : Int) + 1 := by omega
          have hm0 : (0 : Int) ≤ (m : Int) := by omega
          have hk0 : (0 : Int) ≤ (j : Int) := by omega
          have hkl : k < us.length := by rw [← HUL.out]; exact hlt
          obtain ⟨bu, ou, hA, -, e0⟩ := IS.at_ (HU.out.grow HBB.out HBB.out.size) (k := k) hkl
          rw [Option.some.inj ((List.getElem?_eq_getElem hkl).symm.trans HSV.out)] at e0
          subst hA
          obtain ⟨M0, hM0⟩ : ∃ M0, M0 = max 0 sv := ⟨_, rfl⟩
          have hsM : sh = min 100 M0 := by rw [hsh, hM0]; rfl
          have hi1 : (if 0 < sv then sv else 0) = M0 := by rw [hM0, Int.max_def]; split <;> split <;> omega
          have hi2 : (if M0 < 100 then M0 else 100) = sh := by rw [hsM, Int.min_def]; split <;> split <;> omega
          have hi3 : max 0 sv = M0 := hM0.symm
          have hi4 : min 100 M0 = sh := hsM.symm
          clear hM0 hsM hX hZ hy hsh hX1 hX2 hd hb1 hb2 hD1 hkl hRun9 hsb
          go_wp2_with fail
          refine wp_region_qt 21 hmo (by kernel_rfl) ?_
          simp only [List.take_succ_cons, List.take_zero, List.drop_succ_cons, List.drop_zero]
          have k0 := fun d os => cell_regrown cy d os
          have k1 := fun d os => cell_regrown e0 d os
          repeat (quiet_step (fail))
          refine wpQuiet_nil ?_
          intro wz hbz
          have hRz := HRun9.out.below hbz HRun9.out.lt
          have cf := hRz.frozen m
          have cm := hRz.cell m
          rw [blkI_at (runK_at hmN), if_neg (by have := HM.out; omega)] at cm
          have HRN9 : Hid (BK (wz.setCell ⟨wa.heap.size, m, none⟩ (.int .i64 (y + dq + Z))) wa.heap.size 3 (blkI (runK N v m))) := by
            have h1 := hRz.set_ m (.int .i64 (y + dq + Z))
            rw [blkI_set, ← HST.out] at h1
            have h2 := runK_set (v := v) (k := j) (N := N) (by omega)
            rw [← HM.out] at h2
            rw [h2] at h1
            rw [← HST.out]
            exact h1
          have hBz := HBq.out.trans (hbz.mono HBq.out.size)
          clear k0 k1 cy e0 HRun9 hRz
          go_wp2_with fail
          go_roundw
          case rel => exact ⟨m, hmN, by go_num, HRN9.out, hBz.setCell (p := ⟨wa.heap.size, m, none⟩) (Nat.le_refl _) _, HRN9.out.lt⟩
          case measure => have := HM.out; simp [intOf]; omega
        obtain rfl : N = j := by omega
        have hRun2 := HRun.out
        rw [runK_N] at hRun2
        have hRL : SL iC 1 wb wb.heap.size (some ⟨wa.heap.size, 0, none⟩) (N + 1) (runL N v) := by
          have := sl_ints (runL N v) hRun2 HLR.out
          rw [runL_len] at this
          exact this
        have HRL := Lib.hid hRL
        have HCb := Lib.hid (HCa.out.call HBy.out)
        have hbd1 := HN1.out
        have g0 : decide ((N : Int) + 1 ≤ (N : Int)) = false := decide_eq_false (by omega)
        clear HRun hRun2 hRL hlt2 hj
        obtain ⟨wp_, hwp⟩ : ∃ wp, wp = wb.alloc (.cells #[.int .i64 N, .int .i64 lo, .int .i64 hi] 51) := ⟨_, rfl⟩
        have hb : Below wb.heap.size wb wp_ := by rw [hwp]; exact (Below.refl _ _).alloc (Nat.le_refl _) _
        have HPS : Hid (SL paC 3 wp_ wp_.heap.size (some ⟨wb.heap.size, 0, none⟩) 1 [⟨N, lo, hi⟩]) := by show SL _ _ _ _ _ _ _; rw [hwp]; exact SL.new1 paC 3 _ _ _ rfl
        obtain ⟨r0, r1, r2⟩ := roadbk9 HXb.out
        obtain ⟨s0, s1, s2, s3⟩ := sp49 HYb.out
        have HBp := Lib.hid (HBb.out.trans (hb.mono HBb.out.size))
        have HXp := Lib.hid (HXb.out.below hb HXb.out.lt)
        have HYp := Lib.hid (HYb.out.below hb HYb.out.lt)
        have HRLp := Lib.hid ((HRL.out.below hb).more hb.size)
        have HCp := Lib.hid (HCb.out.call hb)
        have HByp := Lib.hid (HBy.out.trans (hb.mono HBy.out.size))
        obtain ⟨r0', r1', r2'⟩ := roadbk9 HXp.out
        obtain ⟨s0', s1', s2', s3'⟩ := sp49 HYp.out
        rw [hwp] at r0' r1' r2' s0' s1' s2' s3'
        go_wp2_with fail
        rw [← hwp]
        clear hwp hb HBb HXb HYb HRL HCb HBy r0' r1' r2' s0' s1' s2' s3' r0 r1 r2 s0 s1 s2 s3 g0
        have HFA : Hid (fitAll S R [⟨N, lo, hi⟩] (runL N v) = (true, 0)) := by
          show _ = _
          rw [HLO.out, HHI.out, HV.out]
          exact rc_fit HSO.out HOK.out HN.out sv (by rw [← HHI.out]; have := HHB.out; unfold maxM; omega)
        have HRG : Hid (∀ x ∈ runL N v, -9223372036854775808 ≤ x ∧ x ≤ 9223372036854775807) := by
          intro x hx
          obtain ⟨i, hi', rfl⟩ := List.getElem_of_mem hx
          rw [runL_len] at hi'
          have h1 := HRN.out.bd HSO.out HOK.out (b := i) (by omega)
          have h2 : (runL N v)[i]? = some (v i) := runL_at (by omega)
          rw [List.getElem?_eq_getElem (by rw [runL_len]; omega)] at h2
          rw [Option.some.inj h2]
          omega
        refine (Fits_all pa pn pc ca cn cc ja jn jc R ra rn rc sa sn sc S _ 1 _ [⟨N, lo, hi⟩] (some ⟨wa.heap.size, 0, none⟩) (N + 1) (N + 1) (runL N v) _ (HR.out.grow HBp.out HBp.out.size) (HD.out.grow HBp.out HBp.out.size) HPS.out HRLp.out (by omega) (by have := HN1.out; omega) HRG.out).mono ?_
        rintro e wf ⟨rfl, hb⟩
        rw [HFA.out]
        dsimp only
        have HBf := Lib.hid (HBp.out.trans (hb.mono HBp.out.size))
        have HXf := Lib.hid (HXp.out.below hb HXp.out.lt)
        have HYf := Lib.hid (HYp.out.below hb HYp.out.lt)
        have HRLf := Lib.hid ((HRLp.out.below hb).more hb.size)
        have HCf := Lib.hid (HCp.out.call hb)
        have HBy := Lib.hid (HByp.out.trans (hb.mono HByp.out.size))
        clear hb HBp HXp HYp HRLp HCp HByp HPS HFA HRG
        have hrl : N < (runL N v).length := by rw [runL_len]; omega
        obtain ⟨tb, to', hTA, htl, t0⟩ := IS.at_ HRLf.out (k := N) hrl
        rw [Option.some.inj ((List.getElem?_eq_getElem hrl).symm.trans (runL_at (Nat.le_refl N)))] at t0
        have hta : wa.heap.size = tb ∧ 0 = to' := by injection hTA with q; injection q with q1 q2; exact ⟨q1, q2⟩
        obtain ⟨rfl, rfl⟩ := hta
        rw [Nat.zero_add] at t0
        have t0r := (((Below.refl wf.heap.size wf).alloc (Nat.le_refl _) (.cells #[.int .i64 0] 3)).cell (p := ⟨wa.heap.size, N, none⟩) htl).trans t0
        have hyb := HRN.out.bd HSO.out HOK.out (b := N) (Nat.le_refl N)
        have hrt := rcT_bd HSO.out HOK.out HN.out sv
        have HTT : Hid (rcT S R N sv = (v N + 999) / 1000) := by show _ = _; rw [HV.out]; rfl
        obtain ⟨y, hy⟩ : ∃ y, y = v N := ⟨_, rfl⟩
        rw [← hy] at t0r hyb HTT
        obtain ⟨T, hT⟩ : ∃ T, T = rcT S R N sv := ⟨_, rfl⟩
        rw [← hT] at hrt HTT
        rw [← HHI.out] at hrt
        have hw1 : IntKind.i64.wrap (y + 999) = y + 999 := IntWalk.i64_in _ (by omega)
        have hq1 : (y + 999).tdiv 1000 = T := by rw [HTT.out, Int.tdiv_eq_ediv_of_nonneg (by omega)]
        have hTb : 1 ≤ T ∧ T ≤ 36000000 := by have := HBG.out; have := HH.out; omega
        have hq2 : IntKind.i64.wrap T = T := IntWalk.i64_in _ (by omega)
        have hNu : (N : Int) < (N : Int) + 1 := by omega
        have hN00 : (0 : Int) ≤ (N : Int) := by omega
        have HT' : Hid (rcT S R N sv = T) := hT.symm
        have HTB := Lib.hid hTb
        clear hTA hrl hy hT hyb hrt HTT hTb t0 htl
        obtain ⟨wk, hwk⟩ : ∃ wk, wk = ((wf.alloc (.cells #[.int .i64 0] 3)).alloc (.cells #[.int .i64 0, .int .i64 T, .bool false, .int .i64 0] 55)).alloc (.cells #[.int .i64 0, .slice (some ⟨wf.heap.size, 0, none⟩) 1 1, .slice (some ⟨wf.heap.size + 1, 0, none⟩) 1 1] 58) := ⟨_, rfl⟩
        obtain ⟨h3a, h3b, h3c, hb⟩ := three_new wf _ _ _ _ _ _ wk hwk
        obtain ⟨cd, hcd⟩ : ∃ cd : CdV, cd = ⟨wf.heap.size, 1, wf.heap.size + 1, 1, 0, 0, T⟩ := ⟨_, rfl⟩
        have HCD : Hid (CD wk wk.heap.size cd) := by
          rw [hcd]
          exact ⟨h3a.cx, h3b.cx, ⟨Int.le_refl 0, by show (0 : Int) ≤ 100000; decide⟩, ⟨Int.le_refl 0, by show (0 : Int) ≤ 100000; decide⟩, HTB.out⟩
        have HCS : Hid (SL cdC 3 wk wk.heap.size (some ⟨wf.heap.size + 1 + 1, 0, none⟩) 1 [cd]) := by
          rw [hcd]
          have := SL.new1 cdC 3 (W := (wf.alloc (.cells #[.int .i64 0] 3)).alloc (.cells #[.int .i64 0, .int .i64 T, .bool false, .int .i64 0] 55)) ⟨wf.heap.size, 1, wf.heap.size + 1, 1, 0, 0, T⟩ 58 #[.int .i64 0, .slice (some ⟨wf.heap.size, 0, none⟩) 1 1, .slice (some ⟨wf.heap.size + 1, 0, none⟩) 1 1] rfl
          rw [← hwk, World.size_alloc, World.size_alloc] at this
          exact this
        have HCN : Hid (∀ g, A = some g → g.block ≠ cd.sb ∧ g.block ≠ cd.lb) := by
          intro g hg
          have := (HCf.out.o.lt hg).2
          rw [hcd]
          exact ⟨by show g.block ≠ wf.heap.size; omega, by show g.block ≠ wf.heap.size + 1; omega⟩
        have HCDT : Hid (cd.t = T) := by show _ = _; rw [hcd]
        have HCk := Lib.hid (HCf.out.call hb)
        have HByk := Lib.hid (HBy.out.trans (hb.mono HBy.out.size))
        have hz5k : w5.heap.size ≤ wk.heap.size := by have := HBx.out.size; have := HByk.out.size; omega
        have hk6 : k < 6 := by have := HUN.out; omega
        clear h3a h3b h3c hcd hb
        go_wp2_with (first
          | (at_builtin; rw [← hwk]; refine wpList_appS rfl _ _ 47 rfl w5.heap.size 58 _ 3 56 Tryz.underlying47 infoCD rfl (by decide) cdC A k c xs rfl HCk.out.o wk.heap.size (some ⟨wf.heap.size + 1 + 1, 0, none⟩) 1 1 [cd] rfl HCS.out cdC_len cdC_one (by omega) (by omega) hz5k ?_; intro A8 c8 w8 hap; have HAP := Lib.hid hap; clear hap)
          | fail)
        have hC8 := HCk.out.app rfl HAP.out rfl HCD.out HCN.out
        have hB8 : Below w5.heap.size w5 w8 := HBx.out.trans ((HByk.out.mono HBx.out.size).trans HAP.out.bel)
        go_roundw
        case rel =>
          refine ⟨k + 1, A8, c8, xs ++ [cd], by omega, by go_num, rfl, hC8, ?_, hB8⟩
          show _ = _
          rw [List.map_append, HTS.out, List.take_add_one, HSV.out, List.map_append]
          show _ ++ [cd.t] = _ ++ [rcT S R N sv]
          rw [HCDT.out, HT'.out]
        case measure => simp [intOf]; omega
    obtain rfl : un = k := by have := HK.out; omega
    have hkk := HUN.out
    have g4 : decide ((un : Int) < (un : Int)) = false := decide_eq_false (by omega)
    have g4' : decide (un < un) = false := decide_eq_false (by omega)
    obtain ⟨x0, x1, x2, x3, x4, x5, x6, x7, x8, x9, x10, x11, x12, x13⟩ := bk14 HQa.out
    have hplan := rf8Plan L wa HPa.out
    unfold plA at hplan
    have HPLN := Lib.hid hplan
    clear hlt hplan
    go_wp2_with fail
    refine HPLN.out.mono ?_
    rintro e wc ⟨rfl, hb⟩
    have HBc := Lib.hid (HBa.out.trans (hb.mono HBa.out.size))
    have HQc := Lib.hid (HQa.out.below hb HQa.out.lt)
    have HPc := Lib.hid (HPa.out.grow hb hb.size)
    have HCc := Lib.hid (HCa.out.call hb)
    clear hb HBa HXa HYa HQa HPa HCa HPLN x0 x1 x2 x3 x4 x5 x6 x7 x8 x9 x10 x11 x12 x13
    obtain ⟨x0, x1, x2, x3, x4, x5, x6, x7, x8, x9, x10, x11, x12, x13⟩ := bk14 HQc.out
    have hcards := rf8Cards L A un c xs wc HPc.out HCc.out.cds (by omega)
    unfold plA at hcards
    have HCRD := Lib.hid hcards
    clear hcards
    go_wp2_with fail
    refine HCRD.out.mono ?_
    rintro e wd ⟨rfl, hb⟩
    have HBd := Lib.hid (HBc.out.trans (hb.mono HBc.out.size))
    have HQd := Lib.hid (HQc.out.below hb HQc.out.lt)
    have HPd := Lib.hid (HPc.out.grow hb hb.size)
    have HCd := Lib.hid (HCc.out.call hb)
    clear hb HBc HQc HPc HCc HCRD x0 x1 x2 x3 x4 x5 x6 x7 x8 x9 x10 x11 x12 x13
    obtain ⟨x0, x1, x2, x3, x4, x5, x6, x7, x8, x9, x10, x11, x12, x13⟩ := bk14 HQd.out
    have hres := scResults L A un c xs wd HPd.out HCd.out.cds (by omega) (by omega)
    unfold plA at hres
    have HRES := Lib.hid hres
    clear hres
    go_wp2_with fail
    refine HRES.out.mono ?_
    rintro e we ⟨LA, lc, rfl, hO, hb⟩
    have HBe := Lib.hid (HBd.out.trans (hb.mono HBd.out.size))
    have HCe := Lib.hid (HCd.out.call hb)
    have HO := Lib.hid hO
    clear hb HBd HQd HPd HCd HRES hO x0 x1 x2 x3 x4 x5 x6 x7 x8 x9 x10 x11 x12 x13
    have gll : ((un : Int) != (un : Int)) = false := by simp
    go_wp2_with fail
    clear gll g4 g4'
    obtain ⟨ts, hts⟩ : ∃ ts, ts = xs.map (·.t) := ⟨_, rfl⟩
    have HTM : Hid (ts = us.map (rcT S R N)) := by
      show _ = _
      rw [hts, HTS.out, List.take_of_length_le (by rw [HUL.out]; exact Nat.le_refl _)]
    have HTX := Lib.hid hts
    rw [← hts] at HO
    clear hts
    go_loopw [23] (fun iv wr => ∃ i : Nat, i ≤ un ∧ iv = .int .i64 i ∧ Below we.heap.size we wr) (fun iv _ => un - (intOf iv).toNat)
    case atStart => exact ⟨0, Nat.zero_le _, rfl, Below.refl _ _⟩
    case round =>
      obtain ⟨wg, hwg⟩ : ∃ x, x = wr := ⟨_, rfl⟩
      subst hwg
      obtain ⟨i, hi', rfl, hb⟩ := hrel
      have HBg := Lib.hid (HBe.out.trans (hb.mono HBe.out.size))
      have HCg := Lib.hid (HCe.out.call hb)
      have HOg := Lib.hid (HO.out.call hb)
      have HBz := Lib.hid hb
      have hun6 := HUN.out
      clear hb
      by_cases hlt : i < un
      case pos =>
        as_aux_lemma =>
          have hil : i < (plcL L ts un).length := by rw [plcL_len]; exact hlt
          obtain ⟨lb, loff, hLA, -, hlc⟩ := (HOg.out.sl plcC_len).at_ hil
          rw [plcL_at] at hlc
          obtain ⟨b0, hb0⟩ := HLL.out
          rw [hb0, rc_place b0 hun6.2 hlt] at hlc
          have hcu := rcC_lt ts hlt
          obtain ⟨cr, hcr⟩ : ∃ c, c = rcC un ts i := ⟨_, rfl⟩
          have HCR := Lib.hid hcr
          rw [← hcr] at hlc hcu
          have hcx : cr < xs.length := by rw [HDx.out]; exact hcu
          have hcul : cr < us.length := by rw [← HUL.out]; exact hcu
          obtain ⟨cb, coff, hCA, -, c0, c1, c2, hcd⟩ := HCg.out.cds.at_ hcx
          have htt : ts.getD cr 0 = (xs[cr]'hcx).t := by
            rw [HTX.out, List.getD_eq_getElem?_getD, List.getElem?_map, List.getElem?_eq_getElem hcx]; rfl
          have htr : ts.getD cr 0 = rcT S R N (us[cr]'hcul) := by
            rw [HTM.out, List.getD_eq_getElem?_getD, List.getElem?_map, List.getElem?_eq_getElem hcul]; rfl
          have hbd := rcT_bd HSO.out HOK.out HN.out (us[cr]'hcul)
          rw [← htr, ← HLO.out, ← HHI.out] at hbd
          obtain ⟨-, l1, -, -⟩ := hcd.ln
          rw [← htt] at l1
          generalize xs[cr]'hcx = cd at c0 c1 c2 hcd l1 htt
          obtain ⟨ub, uoff, hUA, -, u0⟩ := IS.at_ (HU.out.grow HBg.out HBg.out.size) (k := cr) hcul
          obtain ⟨sv, hsv⟩ : ∃ s, s = us[cr]'hcul := ⟨_, rfl⟩
          rw [← hsv] at u0
          have HSV : Hid (us.getD cr 0 = sv) := by show _ = _; rw [hsv, getD_of hcul]
          obtain ⟨tt, htt'⟩ : ∃ t, t = ts.getD cr 0 := ⟨_, rfl⟩
          rw [← htt'] at hlc hbd l1
          have HTT : Hid (ts.getD cr 0 = tt) := htt'.symm
          clear htt htr hsv htt' hcr hcd hb0
          have d0 : wg.cell? ⟨lb, loff + i * 7, none⟩ = some (.int .i64 (cr : Int)) := hlc 0 _ rfl
          have d1 : wg.cell? ⟨lb, loff + i * 7 + 1, none⟩ = some (.bool true) := hlc 1 _ rfl
          have d3 : wg.cell? ⟨lb, loff + i * 7 + 3, none⟩ = some (.int .i64 tt) := hlc 3 _ rfl
          have d6 : wg.cell? ⟨lb, loff + i * 7 + 6, none⟩ = some (.int .i64 (6 - (i : Int))) := hlc 6 _ rfl
          clear hlc hil
          subst hLA
          subst hCA
          subst hUA
          have hii : (0 : Int) ≤ (i : Int) := by omega
          have hiu : (i : Int) < (un : Int) := by omega
          have hc0 : (0 : Int) ≤ (cr : Int) := by omega
          have hcu2 : (cr : Int) < (un : Int) := by omega
          have f1 : decide ((cr : Int) < 0) = false := decide_eq_false (by omega)
          have f2 : decide ((un : Int) ≤ (cr : Int)) = false := decide_eq_false (by omega)
          have f2' : decide (un ≤ cr) = false := decide_eq_false (by omega)
          have f3 : (tt != tt) = false := by simp
          have htb : 1 ≤ tt ∧ tt ≤ 1000070001 := by have := HHB.out; omega
          have hw1 : IntKind.i64.wrap (1000 * tt) = 1000 * tt := IntWalk.i64_in _ (by omega)
          have f4 : decide (1000 * tt < lo) = false := decide_eq_false (by omega)
          have hw2 : IntKind.i64.wrap (tt - 1) = tt - 1 := IntWalk.i64_in _ (by omega)
          have hw3 : IntKind.i64.wrap (1000 * (tt - 1)) = 1000 * (tt - 1) := IntWalk.i64_in _ (by omega)
          have f5 : decide (hi < 1000 * (tt - 1)) = false := decide_eq_false (by omega)
          have hw4 : IntKind.i64.wrap (6 - (i : Int)) = 6 - (i : Int) := IntWalk.i64_in _ (by omega)
          have f6 : (6 - (i : Int) != 6 - (i : Int)) = false := by simp
          go_wp2_with fail
          simp only [List.append_eq, List.cons_append, List.nil_append]
          go_big_quiet (fail)
          go_wp2_with fail
          clear f1 f2 f2' f3 f4 f5 f6 hw1 hw2 hw3 hw4 htb hbd d1 d3 d6
          by_cases h0 : i = 0
          case pos =>
            have g7 : decide ((0 : Int) < (i : Int)) = false := decide_eq_false (by omega)
            have g7' : decide (0 < i) = false := decide_eq_false (by omega)
            clear h0 d0 c0 c1 c2 l1 u0
            as_aux_lemma =>
              go_big_quiet (fail)
              go_wp2_with fail
              go_roundw
              case rel => exact ⟨i + 1, by omega, by go_num, below_drewN HBz.out _⟩
              case measure => simp [intOf]; omega
          case neg =>
          obtain ⟨j, hj⟩ : ∃ j, i = j + 1 := ⟨i - 1, by omega⟩
          have g7 : decide ((0 : Int) < (i : Int)) = true := decide_eq_true (by omega)
          have g7' : decide (0 < i) = true := decide_eq_true (by omega)
          have hwj : IntKind.i64.wrap ((i : Int) - 1) = (j : Int) := (IntWalk.i64_in _ (by omega)).trans (by omega)
          have hjn : j < un := by omega
          have hjl : j < (plcL L ts un).length := by rw [plcL_len]; exact hjn
          obtain ⟨lb2, loff2, hLA2, -, hlc2⟩ := (HOg.out.sl plcC_len).at_ hjl
          rw [plcL_at] at hlc2
          obtain ⟨b0, hb0⟩ := HLL.out
          rw [hb0, rc_place b0 hun6.2 hjn] at hlc2
          have hcu3 := rcC_lt ts hjn
          have hord := rc_order HSO.out HOK.out HN.out HTM.out (n := un) HUL.out (k := j) (by omega)
          rw [← hj] at hord
          rw [← HCR.out] at hord
          obtain ⟨cp, hcp⟩ : ∃ c, c = rcC un ts j := ⟨_, rfl⟩
          rw [← hcp] at hlc2 hcu3 hord
          have hcx3 : cp < xs.length := by rw [HDx.out]; exact hcu3
          have hcul3 : cp < us.length := by rw [← HUL.out]; exact hcu3
          obtain ⟨cb2, coff2, hCA2, -, -, -, p2, hcd2⟩ := HCg.out.cds.at_ hcx3
          have htt2 : ts.getD cp 0 = (xs[cp]'hcx3).t := by
            rw [HTX.out, List.getD_eq_getElem?_getD, List.getElem?_map, List.getElem?_eq_getElem hcx3]; rfl
          obtain ⟨-, q1, -, -⟩ := hcd2.ln
          rw [← htt2] at q1
          generalize xs[cp]'hcx3 = ce at p2 hcd2 q1 htt2
          obtain ⟨ub2, uoff2, hUA2, -, v0⟩ := IS.at_ (HU.out.grow HBg.out HBg.out.size) (k := cp) hcul3
          obtain ⟨sp, hsp⟩ : ∃ s, s = us[cp]'hcul3 := ⟨_, rfl⟩
          rw [← hsp] at v0
          have HSP : us.getD cp 0 = sp := by rw [hsp, getD_of hcul3]
          rw [HSV.out, HSP, HTT.out] at hord
          obtain ⟨tp, htp⟩ : ∃ t, t = ts.getD cp 0 := ⟨_, rfl⟩
          rw [← htp] at q1 hord
          have e0 : wg.cell? ⟨lb2, loff2 + j * 7, none⟩ = some (.int .i64 (cp : Int)) := hlc2 0 _ rfl
          have hjj : (0 : Int) ≤ (j : Int) := by omega
          have hju : (j : Int) < (un : Int) := by omega
          have hp0 : (0 : Int) ≤ (cp : Int) := by omega
          have hpu : (cp : Int) < (un : Int) := by omega
          injection hLA2 with hLA2
          injection hCA2 with hCA2
          injection hUA2 with hUA2
          injection hLA2 with m1 m2
          injection hCA2 with m3 m4
          injection hUA2 with m5 m6
          subst m1 m2 m3 m4 m5 m6
          obtain ⟨A1, hA1⟩ : ∃ a, a = max 0 sv := ⟨_, rfl⟩
          obtain ⟨B1, hB1⟩ : ∃ a, a = max 0 sp := ⟨_, rfl⟩
          obtain ⟨A2, hA2⟩ : ∃ a, a = min 100 A1 := ⟨_, rfl⟩
          obtain ⟨B2, hB2⟩ : ∃ a, a = min 100 B1 := ⟨_, rfl⟩
          have hsA : shr sv = A2 := by rw [hA2, hA1]; rfl
          have hsB : shr sp = B2 := by rw [hB2, hB1]; rfl
          rw [hsA, hsB] at hord
          have k1 : (if 0 < sv then sv else 0) = A1 := by rw [hA1, Int.max_def]; split <;> split <;> omega
          have k2 : (if A1 < 100 then A1 else 100) = A2 := by rw [hA2, Int.min_def]; split <;> split <;> omega
          have k3 : max 0 sv = A1 := hA1.symm
          have k4 : min 100 A1 = A2 := hA2.symm
          have k5 : (if 0 < sp then sp else 0) = B1 := by rw [hB1, Int.max_def]; split <;> split <;> omega
          have k6 : (if B1 < 100 then B1 else 100) = B2 := by rw [hB2, Int.min_def]; split <;> split <;> omega
          have k7 : max 0 sp = B1 := hB1.symm
          have k8 : min 100 B1 = B2 := hB2.symm
          clear hA1 hB1 hA2 hB2 hsA hsB hj h0 hlc2 hjl hcp hcx3 hcul3 hcd2 htt2 hsp HSP htp hb0 hcu3 hcu hcx hcul
          by_cases hsh : A2 < B2
          case pos =>
            have g8 : decide (A2 < B2) = true := decide_eq_true hsh
            have hqq : tp = tt := hord hsh
            have g9 : (tp != tt) = false := by simp [hqq]
            clear hord hsh hqq
            as_aux_lemma =>
              go_big_quiet (fail)
              go_wp2_with fail
              go_roundw
              case rel => exact ⟨i + 1, by omega, by go_num, below_drewN HBz.out _⟩
              case measure => simp [intOf]; omega
          case neg =>
          have g8 : decide (A2 < B2) = false := decide_eq_false hsh
          clear hord hsh
          as_aux_lemma =>
            go_big_quiet (fail)
            go_wp2_with fail
            go_roundw
            case rel => exact ⟨i + 1, by omega, by go_num, below_drewN HBz.out _⟩
            case measure => simp [intOf]; omega
      obtain rfl : un = i := by omega
      have g5 : decide ((un : Int) < (un : Int)) = false := decide_eq_false (by omega)
      have g5' : decide (un < un) = false := decide_eq_false (by omega)
      go_wp2_with fail
      refine (known09_any _).mono ?_
      rintro e w9 ⟨rfl, hb9⟩
      go_wp2_with fail
      go_ret
      exact ⟨rfl, HBg.out.trans (hb9.mono HBg.out.size)⟩
end Go.Proofs.YtafclpmnpamipaaGreat
