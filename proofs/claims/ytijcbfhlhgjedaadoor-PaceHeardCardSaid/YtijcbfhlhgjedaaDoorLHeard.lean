/- The law function PaceHeard, walked: it returns true. -/
import Derived.Test.YtijcbfhlhgjedaaDoorRunK
import Derived.Test.YtijcbfhlhgjedaaDoorTst
import Derived.Test.YtijcbfhlhgjedaaDoorPlanB
import Derived.Test.YtijcbfhlhgjedaaDoorBetwB
namespace Go.Proofs.YtijcbfhlhgjedaaDoor
open Go.RowKit Go.Shelf Go.Sort Go.Proofs

theorem btw_step {S : Spd} {R : Road} {f t : Nat} (h1 : f ≤ t) (h2 : (t : Int) ≤ sumL R.ps) : btw S R f t = (tQ S R.ps t - tQ S R.ps f, tSl S R.ps t - tSl S R.ps f, 0) := by
  unfold btw
  rw [if_pos (by simp [inR]; omega), Int.toNat_natCast, Int.toNat_natCast]
theorem runV_succ (S : Spd) (R : Road) (sh : List Int) (k : Nat) : runV S R sh (k + 1) = runV S R sh k + (tQ S R.ps (k + 1) - tQ S R.ps k) + ((tSl S R.ps (k + 1) - tSl S R.ps k) - (tQ S R.ps (k + 1) - tQ S R.ps k)) * shareAt sh k / 100 := rfl
theorem saidL_at {cs : List CallR} {ls run : List Int} {n i : Nat} (h : i < n) : (saidL cs ls run n)[i]? = some (endAt cs ls run (i + 1)) := by simp [saidL, h]
theorem saidL_len (cs : List CallR) (ls run : List Int) (n : Nat) : (saidL cs ls run n).length = n := by simp [saidL]
set_option maxRecDepth 100000 in
set_option maxHeartbeats 8000000 in
theorem LHeard_walk (pa : Option Addr) (pn pc : Nat) (ca : Option Addr) (cn cc : Nat) (ja : Option Addr) (jn jc : Nat) (R : Road) (ra : Option Addr) (rn rc : Nat) (sa : Option Addr) (sn sc : Nat) (S : Spd) (ka : Option Addr) (kn kc : Nat) (cs : List CallR) (la : Option Addr) (ln lc : Nat) (ls : List Int) (ua : Option Addr) (un uc : Nat) (us : List Int) (w : World)
    (h : RD w w.heap.size pa pn ca cn ja jn R) (hD : SD w w.heap.size ra rn sa sn S) (hK : SL caC 5 w w.heap.size ka kn cs) (hL : SL iC 1 w w.heap.size la ln ls) (hU : SL iC 1 w w.heap.size ua un us) (hmx : pn ≤ 9223372036854775807) :
    Calls Tryd.prog 12 #[.agg #[.slice pa pn pc, .slice ca cn cc, .slice ja jn jc], .agg #[.int .i64 S.least, .int .i64 S.most, .slice ra rn rc, .slice sa sn sc], .slice ka kn kc, .slice la ln lc, .slice ua un uc] w fun e w' => e = .returned (.bool true) ∧ Below w.heap.size w w' := by
  have HLK := Lib.hid hK.1
  have HLL := Lib.hid hL.1
  have HLU := Lib.hid hU.1
  have HR := Lib.hid h
  have HD := Lib.hid hD
  have HK := Lib.hid hK
  have HL := Lib.hid hL
  have HU := Lib.hid hU
  clear h hD hK hL hU
  obtain ⟨w0, hw0⟩ : ∃ w0, w0 = (w.alloc (.cells #[.slice pa pn pc, .slice ca cn cc, .slice ja jn jc] 26)).alloc (.cells #[.int .i64 S.least, .int .i64 S.most, .slice ra rn rc, .slice sa sn sc] 30) := ⟨_, rfl⟩
  have hB0 : Below w.heap.size w w0 := by rw [hw0]; exact ((Below.refl w.heap.size w).alloc (Nat.le_refl _) _).alloc (by simp) _
  have hX0 : BK w0 (w.heap.size) 26 #[.slice pa pn pc, .slice ca cn cc, .slice ja jn jc] := by rw [hw0]; exact ((BK.new w 26 #[.slice pa pn pc, .slice ca cn cc, .slice ja jn jc])).alloc _
  have hY0 : BK w0 (w.heap.size + 1) 30 #[.int .i64 S.least, .int .i64 S.most, .slice ra rn rc, .slice sa sn sc] := by rw [hw0]; have := BK.new (w.alloc (.cells #[.slice pa pn pc, .slice ca cn cc, .slice ja jn jc] 26)) 30 #[.int .i64 S.least, .int .i64 S.most, .slice ra rn rc, .slice sa sn sc]; rw [World.size_alloc] at this; exact this
  go_enter Tryd.func12, Tryd.ntmps12
  go_wp2_with fail
  rw [← hw0]
  clear hw0
  have x0 := hX0.cell 0
  have x1 := hX0.cell 1
  have x2 := hX0.cell 2
  have y0 := hY0.cell 0
  have y1 := hY0.cell 1
  have y2 := hY0.cell 2
  have y3 := hY0.cell 3
  simp only [List.getElem?_toArray, List.getElem?_cons_zero, List.getElem?_cons_succ] at x0 x1 x2 y0 y1 y2 y3
  go_wp2_with fail
  clear x0 x1 x2 y0 y1 y2 y3
  refine (few_any pa pn pc ca cn cc ja jn jc R w0 (HR.out.grow hB0 hB0.size) hmx).mono ?_
  rintro e w1 ⟨rfl, hk⟩
  have hB1 := hB0.trans (hk.mono hB0.size)
  have hX1 := hX0.below hk hX0.lt
  have hY1 := hY0.below hk hY0.lt
  clear hX0 hY0 hB0 hk
  cases hfew : fewB R
  case false =>
    go_wp2_with fail
    have hBX := hB1
    refine (known_any _).mono ?_
    rintro e w9 ⟨rfl, hk⟩
    go_wp2_with fail
    go_ret
    exact ⟨rfl, hBX.trans (hk.mono hBX.size)⟩
  have x0 := hX1.cell 0
  have x1 := hX1.cell 1
  have x2 := hX1.cell 2
  have y0 := hY1.cell 0
  have y1 := hY1.cell 1
  have y2 := hY1.cell 2
  have y3 := hY1.cell 3
  simp only [List.getElem?_toArray, List.getElem?_cons_zero, List.getElem?_cons_succ] at x0 x1 x2 y0 y1 y2 y3
  go_wp2_with fail
  clear x0 x1 x2 y0 y1 y2 y3
  refine (quick_any3 ra rn rc sa sn sc S w1 (HD.out.grow hB1 hB1.size)).mono ?_
  rintro e w2 ⟨rfl, hk⟩
  have hB2 := hB1.trans (hk.mono hB1.size)
  have hX2 := hX1.below hk hX1.lt
  have hY2 := hY1.below hk hY1.lt
  clear hX1 hY1 hB1 hk
  cases hqu : quickB S
  case false =>
    go_wp2_with fail
    have hBX := hB2
    refine (known_any _).mono ?_
    rintro e w9 ⟨rfl, hk⟩
    go_wp2_with fail
    go_ret
    exact ⟨rfl, hBX.trans (hk.mono hBX.size)⟩
  have x0 := hX2.cell 0
  have x1 := hX2.cell 1
  have x2 := hX2.cell 2
  have y0 := hY2.cell 0
  have y1 := hY2.cell 1
  have y2 := hY2.cell 2
  have y3 := hY2.cell 3
  simp only [List.getElem?_toArray, List.getElem?_cons_zero, List.getElem?_cons_succ] at x0 x1 x2 y0 y1 y2 y3
  go_wp2_with fail
  clear x0 x1 x2 y0 y1 y2 y3
  refine (some_any ka kn kc w2).mono ?_
  rintro e w' ⟨rfl, rfl⟩
  cases hso : decide (kn ≤ 8)
  case false =>
    go_wp2_with fail
    have hBX := hB2
    refine (known_any _).mono ?_
    rintro e w9 ⟨rfl, hk⟩
    go_wp2_with fail
    go_ret
    exact ⟨rfl, hBX.trans (hk.mono hBX.size)⟩
  have hkn : kn ≤ 8 := by simpa using hso
  by_cases gl0 : ln ≤ 20
  case neg =>
    have gl : decide ((20 : Int) < (ln : Int)) = true := decide_eq_true (by omega)
    have x0 := hX2.cell 0
    have x1 := hX2.cell 1
    have x2 := hX2.cell 2
    have y0 := hY2.cell 0
    have y1 := hY2.cell 1
    have y2 := hY2.cell 2
    have y3 := hY2.cell 3
    simp only [List.getElem?_toArray, List.getElem?_cons_zero, List.getElem?_cons_succ] at x0 x1 x2 y0 y1 y2 y3
    go_wp2_with fail
    have hBX := hB2
    refine (known_any _).mono ?_
    rintro e w9 ⟨rfl, hk⟩
    go_wp2_with fail
    go_ret
    exact ⟨rfl, hBX.trans (hk.mono hBX.size)⟩
  have gl : decide ((20 : Int) < (ln : Int)) = false := decide_eq_false (by omega)
  by_cases gm0 : un ≤ 200
  case neg =>
    have gm : decide ((200 : Int) < (un : Int)) = true := decide_eq_true (by omega)
    have x0 := hX2.cell 0
    have x1 := hX2.cell 1
    have x2 := hX2.cell 2
    have y0 := hY2.cell 0
    have y1 := hY2.cell 1
    have y2 := hY2.cell 2
    have y3 := hY2.cell 3
    simp only [List.getElem?_toArray, List.getElem?_cons_zero, List.getElem?_cons_succ] at x0 x1 x2 y0 y1 y2 y3
    go_wp2_with fail
    have hBX := hB2
    refine (known_any _).mono ?_
    rintro e w9 ⟨rfl, hk⟩
    go_wp2_with fail
    go_ret
    exact ⟨rfl, hBX.trans (hk.mono hBX.size)⟩
  have gm : decide ((200 : Int) < (un : Int)) = false := decide_eq_false (by omega)
  clear hfew hqu hso
  have x0 := hX2.cell 0
  have x1 := hX2.cell 1
  have x2 := hX2.cell 2
  have y0 := hY2.cell 0
  have y1 := hY2.cell 1
  have y2 := hY2.cell 2
  have y3 := hY2.cell 3
  simp only [List.getElem?_toArray, List.getElem?_cons_zero, List.getElem?_cons_succ] at x0 x1 x2 y0 y1 y2 y3
  go_wp2_with fail
  clear x0 x1 x2 y0 y1 y2 y3
  refine (fine_any pa pn pc ca cn cc ja jn jc R ra rn rc sa sn sc S w2 (HR.out.grow hB2 hB2.size) (HD.out.grow hB2 hB2.size)).mono ?_
  rintro e w3 ⟨rfl, hk⟩
  have hB3 := hB2.trans (hk.mono hB2.size)
  have hX3 := hX2.below hk hX2.lt
  have hY3 := hY2.below hk hY2.lt
  clear hX2 hY2 hB2 hk
  cases hvs : val R && spB S
  case false =>
    go_wp2_with fail
    have hBX := hB3
    refine (known_any _).mono ?_
    rintro e w9 ⟨rfl, hk⟩
    go_wp2_with fail
    go_ret
    exact ⟨rfl, hBX.trans (hk.mono hBX.size)⟩
  have HV : Hid (OK R) := by have := hvs; rw [Bool.and_eq_true] at this; exact (val_iff R).1 this.1
  have HS : Hid (SOK S) := by have := hvs; rw [Bool.and_eq_true] at this; exact (spB_iff S).1 this.2
  have HVS := Lib.hid hvs
  clear hvs
  have x0 := hX3.cell 0
  have x1 := hX3.cell 1
  have x2 := hX3.cell 2
  have y0 := hY3.cell 0
  have y1 := hY3.cell 1
  have y2 := hY3.cell 2
  have y3 := hY3.cell 3
  simp only [List.getElem?_toArray, List.getElem?_cons_zero, List.getElem?_cons_succ] at x0 x1 x2 y0 y1 y2 y3
  go_wp2_with fail
  clear x0 x1 x2 y0 y1 y2 y3
  refine (RCalls_any ka kn kc cs pa pn pc ca cn cc ja jn jc R w3 (HR.out.grow hB3 hB3.size) HV.out (HK.out.grow hB3 hB3.size) (by omega)).mono ?_
  rintro e w4 ⟨rfl, hk⟩
  have hB4 := hB3.trans (hk.mono hB3.size)
  have hX4 := hX3.below hk hX3.lt
  have hY4 := hY3.below hk hY3.lt
  clear hX3 hY3 hB3 hk
  cases hcb : cB (sumL R.ps) cs
  case false =>
    go_wp2_with fail
    have hBX := hB4
    refine (known_any _).mono ?_
    rintro e w9 ⟨rfl, hk⟩
    go_wp2_with fail
    go_ret
    exact ⟨rfl, hBX.trans (hk.mono hBX.size)⟩
  have HC := Lib.hid ((cB_iff _ _).1 hcb)
  have HCB := Lib.hid hcb
  clear hcb
  obtain ⟨N, hN⟩ : ∃ N : Nat, sumL R.ps = (N : Int) := ⟨(sumL R.ps).toNat, by have := (sumL_bd R.ps HV.out.pk).1; omega⟩
  have hN1 : N ≤ 100000 := by have := HV.out.n1; omega
  have HN := Lib.hid hN
  clear hN
  have x0 := hX4.cell 0
  have x1 := hX4.cell 1
  have x2 := hX4.cell 2
  have y0 := hY4.cell 0
  have y1 := hY4.cell 1
  have y2 := hY4.cell 2
  have y3 := hY4.cell 3
  simp only [List.getElem?_toArray, List.getElem?_cons_zero, List.getElem?_cons_succ] at x0 x1 x2 y0 y1 y2 y3
  go_wp2_with fail
  clear x0 x1 x2 y0 y1 y2 y3
  refine (Plan_any pa pn pc ca cn cc ja jn jc R ra rn rc sa sn sc S ka kn kc cs w4 (HR.out.grow hB4 hB4.size) (HD.out.grow hB4 hB4.size) (HK.out.grow hB4 hB4.size) HV.out HS.out HC.out).mono ?_
  rintro e w5 ⟨A, n, c, rfl, hP, hk⟩
  have hB5 := hB4.trans (hk.mono hB4.size)
  have hX5 := hX4.below hk hX4.lt
  have hY5 := hY4.below hk hY4.lt
  clear hX4 hY4 hB4 hk
  have hout : Hid ((planR (qS S R) (sS S R) cs).2.2 = 5 ∨ ((planR (qS S R) (sS S R) cs).2.2 = 0 ∧ (planR (qS S R) (sS S R) cs).1 = trigsL S R cs ∧ TOK (sumL R.ps) cs.length (trigsL S R cs) ∧ ∀ j, j < cs.length → goodAt S R cs (trigsL S R cs) j = true)) := by
    rcases plan_cases (S := S) HC.out with ⟨_, _, h⟩ | ⟨⟨h1, h2⟩, h⟩
    · exact .inl h
    · exact .inr ⟨by rw [h], by rw [h], trigs_ok HS.out HV.out HC.out h1, trigs_good HS.out HV.out HC.out h1 h2⟩
  generalize (planR (qS S R) (sS S R) cs).2.1.first = cf at *
  generalize (planR (qS S R) (sS S R) cs).2.1.last = cl at *
  generalize (planR (qS S R) (sS S R) cs).2.1.early = ce at *
  generalize (planR (qS S R) (sS S R) cs).2.2 = er at *
  generalize (planR (qS S R) (sS S R) cs).1 = pl at *
  have hX5r := hX5.alloc (.cells #[.int .i64 cf, .int .i64 cl, .bool ce] 58)
  have hY5r := hY5.alloc (.cells #[.int .i64 cf, .int .i64 cl, .bool ce] 58)
  have x0 := hX5r.cell 0
  have x1 := hX5r.cell 1
  have x2 := hX5r.cell 2
  have y0 := hY5r.cell 0
  have y1 := hY5r.cell 1
  have y2 := hY5r.cell 2
  have y3 := hY5r.cell 3
  simp only [List.getElem?_toArray, List.getElem?_cons_zero, List.getElem?_cons_succ] at x0 x1 x2 y0 y1 y2 y3
  have hlX := hX5.lt
  have hlY := hY5.lt
  go_wp2_with fail
  clear x0 x1 x2 y0 y1 y2 y3
  obtain ⟨w6, hw6⟩ : ∃ w6, w6 = w5.alloc (.cells #[.int .i64 cf, .int .i64 cl, .bool ce] 58) := ⟨_, rfl⟩
  have hk : Below w5.heap.size w5 w6 := by rw [hw6]; exact (Below.refl _ _).alloc (Nat.le_refl _) _
  have hP6 := hP.grow hk hk.size
  rw [← hw6]
  clear hw6 hX5r hY5r hP
  have hB6 := hB5.trans (hk.mono hB5.size)
  have hX6 := hX5.below hk hX5.lt
  have hY6 := hY5.below hk hY5.lt
  clear hX5 hY5 hB5 hk
  refine (R3Trig_any ka kn kc la ln lc ls pa pn pc ca cn cc ja jn jc R w6 (HR.out.grow hB6 hB6.size) HV.out (HL.out.grow hB6 hB6.size) (by omega)).mono ?_
  rintro e w7 ⟨rfl, hk⟩
  have hP7 := hP6.grow hk hk.size
  clear hP6
  have hB7 := hB6.trans (hk.mono hB6.size)
  have hX7 := hX6.below hk hX6.lt
  have hY7 := hY6.below hk hY6.lt
  clear hX6 hY6 hB6 hk
  cases htb : trB (sumL R.ps) kn ls
  case false =>
    clear htb
    rcases hout.out with h5 | ⟨h0, h1, h2, h3⟩
    · subst h5
      clear hout
      go_wp2_with fail
      have hBX := hB7
      refine (known_any _).mono ?_
      rintro e w9 ⟨rfl, hk⟩
      go_wp2_with fail
      go_ret
      exact ⟨rfl, hBX.trans (hk.mono hBX.size)⟩
    · subst h0
      subst h1
      clear hout
      have HSL := Lib.hid hP7
      have HT1 : Hid (TOK (sumL R.ps) cs.length (trigsL S R cs)) := h2
      have HG1 : Hid (∀ j, j < cs.length → goodAt S R cs (trigsL S R cs) j = true) := h3
      have x0 := hX7.cell 0
      have x1 := hX7.cell 1
      have x2 := hX7.cell 2
      have y0 := hY7.cell 0
      have y1 := hY7.cell 1
      have y2 := hY7.cell 2
      have y3 := hY7.cell 3
      simp only [List.getElem?_toArray, List.getElem?_cons_zero, List.getElem?_cons_succ] at x0 x1 x2 y0 y1 y2 y3
      go_wp2_with fail
      clear x0 x1 x2 y0 y1 y2 y3
      refine (R3Length_any pa pn pc ca cn cc ja jn jc R w7 (HR.out.grow hB7 hB7.size) HV.out).mono ?_
      rintro e w8 ⟨rfl, hk⟩
      rw [HN.out]
      have HSL := Lib.hid (HSL.out.grow hk hk.size)
      have hB8 := hB7.trans (hk.mono hB7.size)
      have hX8 := hX7.below hk hX7.lt
      have hY8 := hY7.below hk hY7.lt
      clear hX7 hY7 hB7 hk
      have hmk := make_ints N hN1 w8
      have hwN : IntKind.i64.wrap ((N : Int) + 1) = (N : Int) + 1 := IntWalk.i64_in _ (by omega)
      have hRun0 := BK.new w8 3 (blkI (List.replicate (N + 1) 0))
      rw [← runK_0 (v := runV S R us) rfl] at hRun0 hmk
      obtain ⟨wm, hwm⟩ : ∃ wm, wm = w8.alloc (.cells (blkI (runK N (runV S R us) 0)) 3) := ⟨_, rfl⟩
      rw [← hwm] at hRun0 hmk
      have hbm : Below w8.heap.size w8 wm := by rw [hwm]; exact (Below.refl _ _).alloc (Nat.le_refl _) _
      clear hwm
      go_wp2_with fail
      clear hmk hwN
      have HRN := Lib.hid (runV_runs (S := S) HS.out HV.out HN.out us)
      have hza := hB8.size
      have hlX := hX8.lt
      have hlY := hY8.lt
      have hzm := hbm.size
      have hlR := hRun0.lt
      go_loopw [17] (fun i wr => ∃ k : Nat, k ≤ N ∧ i = .int .i64 ((k : Int) + 1) ∧ BK wr w8.heap.size 3 (blkI (runK N (runV S R us) k)) ∧ Below w8.heap.size w8 wr ∧ w8.heap.size < wr.heap.size)
        (fun i _ => N + 1 - (intOf i).toNat)
      case atStart => exact ⟨0, Nat.zero_le _, rfl, hRun0, hbm, hlR⟩
      case round =>
        obtain ⟨k, hk, rfl, hRun, hbr, hlr⟩ := hrel
        have hBr := hB8.trans (hbr.mono hza)
        have hXr := hX8.below hbr hX8.lt
        have hYr := hY8.below hbr hY8.lt
        by_cases hlt : k < N
        case pos =>
          have x0 := hXr.cell 0
          have x1 := hXr.cell 1
          have x2 := hXr.cell 2
          have y0 := hYr.cell 0
          have y1 := hYr.cell 1
          have y2 := hYr.cell 2
          have y3 := hYr.cell 3
          simp only [List.getElem?_toArray, List.getElem?_cons_zero, List.getElem?_cons_succ] at x0 x1 x2 y0 y1 y2 y3
          have g0 : decide ((k : Int) + 1 < (N : Int) + 1) = true := decide_eq_true (by omega)
          have hwk : IntKind.i64.wrap ((k : Int) + 1 - 1) = (k : Int) := (IntWalk.i64_in _ (by omega)).trans (by omega)
          obtain ⟨m, hm⟩ : ∃ m, m = k + 1 := ⟨_, rfl⟩
          have hmi : (k : Int) + 1 = (m : Int) := by omega
          rw [hmi] at g0 hwk ⊢
          have hmN : m ≤ N := by omega
          have HST : Hid (runV S R us m = runV S R us k + (tQ S R.ps m - tQ S R.ps k) + ((tSl S R.ps m - tSl S R.ps k) - (tQ S R.ps m - tQ S R.ps k)) * shareAt us k / 100) := by show _ = _; rw [hm]; exact runV_succ S R us k
          have hd := HRN.out.d k hlt
          rw [← hm] at hd
          have hdq0 := tQ_mono HS.out HV.out (show k ≤ m by omega)
          have hb1 := HRN.out.bd HS.out HV.out (b := k) (by omega)
          have hb2 := HRN.out.bd HS.out HV.out (b := m) hmN
          have hb3 := tSl_bd HS.out HV.out m
          have hb4 := tSl_bd HS.out HV.out k
          have hsb := shareAt_bd us k
          have HM := Lib.hid hm
          have HMN : Hid ((m : Int) ≤ sumL R.ps) := by show _ ≤ _; rw [HN.out]; omega
          have HKM : Hid (k ≤ m) := by show _ ≤ _; omega
          clear hm hmi
          go_wp2_with fail
          clear x0 x1 x2 y0 y1 y2 y3
          refine (Between_any k m pa pn pc ca cn cc ja jn jc R ra rn rc sa sn sc S _ (HR.out.grow hBr hBr.size) (HD.out.grow hBr hBr.size) HV.out HS.out).mono ?_
          rintro e wq ⟨rfl, hk9⟩
          rw [btw_step (S := S) HKM.out HMN.out]
          dsimp only
          have hRun9 := hRun.below hk9 hlr
          have hb9 := hbr.trans (hk9.mono hbr.size)
          have cy := hRun9.cell k
          rw [blkI_at (runK_at (show k ≤ N by omega)), if_pos (Nat.le_refl k)] at cy
          have cm := hRun9.cell m
          rw [blkI_at (runK_at hmN), if_neg (by have := HM.out; omega)] at cm
          have cf := hRun9.frozen m
          obtain ⟨dq, hdq⟩ : ∃ dq, dq = tQ S R.ps m - tQ S R.ps k := ⟨_, rfl⟩
          obtain ⟨ds, hds⟩ : ∃ ds, ds = tSl S R.ps m - tSl S R.ps k := ⟨_, rfl⟩
          have hds1 : ds ≤ 1000070000000 := by omega
          rw [← hdq, ← hds] at hd HST ⊢
          have hdq0 : 0 ≤ dq := by omega
          clear hdq hds hb3 hb4 hRun hbr hBr hXr hYr hlr
          obtain ⟨y, hy⟩ : ∃ y, y = runV S R us k := ⟨_, rfl⟩
          obtain ⟨sh, hsh⟩ : ∃ sh, sh = shareAt us k := ⟨_, rfl⟩
          rw [← hy] at hd HST hb1 cy
          rw [← hsh] at HST hsb
          have hD1 : 0 ≤ ds - dq := by omega
          have hX1 : 0 ≤ (ds - dq) * sh := Int.mul_nonneg hD1 hsb.1
          have hX2 : (ds - dq) * sh ≤ (ds - dq) * 100 := Int.mul_le_mul_of_nonneg_left hsb.2 hD1
          obtain ⟨X, hX⟩ : ∃ X, X = (ds - dq) * sh := ⟨_, rfl⟩
          rw [← hX] at hX1 hX2 HST
          obtain ⟨Z, hZ⟩ : ∃ Z, Z = X / 100 := ⟨_, rfl⟩
          rw [← hZ] at HST
          have hZb : 0 ≤ Z ∧ Z ≤ X := by omega
          have hw1 : IntKind.i64.wrap (y + dq) = y + dq := IntWalk.i64_in _ (by omega)
          have hw2 : IntKind.i64.wrap (ds - dq) = ds - dq := IntWalk.i64_in _ (by omega)
          have hw3 : IntKind.i64.wrap ((ds - dq) * sh) = X := by rw [← hX]; exact IntWalk.i64_in _ (by omega)
          have hw4 : IntKind.i64.wrap (y + dq + Z) = y + dq + Z := IntWalk.i64_in _ (by omega)
          have hq1 : X.tdiv 100 = Z := by rw [hZ, Int.tdiv_eq_ediv_of_nonneg hX1]
          have hq2 : IntKind.i64.wrap Z = Z := IntWalk.i64_in _ (by omega)
          have hmu : (m : Int) < (N : Int) + 1 := by omega
          have hku : (k : Int) < (N : Int) + 1 := by omega
          have hm0 : (0 : Int) ≤ (m : Int) := by omega
          have hk0 : (0 : Int) ≤ (k : Int) := by omega
          have HSH := Lib.hid hsh
          have HRN9 : Hid (BK (wq.setCell ⟨w8.heap.size, m, none⟩ (.int .i64 (y + dq + Z))) w8.heap.size 3 (blkI (runK N (runV S R us) m))) := by
            have h1 := hRun9.set_ m (.int .i64 (y + dq + Z))
            rw [blkI_set, ← HST.out] at h1
            have h2 := runK_set (v := runV S R us) (k := k) (N := N) (by omega)
            rw [← HM.out] at h2
            rw [h2] at h1
            rw [← HST.out]
            exact h1
          clear hX hZ hy hsh hX1 hX2 hd hb1 hb2 hD1 hRun9
          by_cases hlu : k < un
          · have hkl : k < us.length := by rw [← HLU.out]; exact hlu
            have hB9 := hB8.trans (hb9.mono hza)
            obtain ⟨bu, ou, hA, hbB, e0⟩ := IS.at_ (HU.out.grow hB9 hB9.size) (k := k) hkl
            have HS0 : Hid (sh = min 100 (max 0 (us[k]'hkl))) := by show _ = _; rw [HSH.out]; unfold shareAt; rw [List.getElem?_eq_getElem hkl]
            generalize us[k]'hkl = s0 at e0 HS0
            clear hkl
            obtain ⟨M0, hM0⟩ : ∃ M0, M0 = max 0 s0 := ⟨_, rfl⟩
            have hi1 : (if 0 < s0 then s0 else 0) = M0 := by rw [hM0, Int.max_def]; split <;> split <;> omega
            have hi2 : (if M0 < 100 then M0 else 100) = sh := by rw [HS0.out, ← hM0, Int.min_def]; split <;> split <;> omega
            clear hM0
            have gu : decide (k < un) = true := decide_eq_true hlu
            have gu2 : decide ((k : Int) < (un : Int)) = true := decide_eq_true (by omega)
            have hku2 : (k : Int) < (un : Int) := by omega
            clear hsb
            subst hA
            go_wp2_with fail
            go_roundw
            case rel => exact ⟨m, hmN, by go_num, HRN9.out, hb9.setCell (p := ⟨w8.heap.size, m, none⟩) (Nat.le_refl _) _, HRN9.out.lt⟩
            case measure => have := HM.out; simp [intOf]; omega
          · have HS0 : Hid (sh = 0) := by show _ = _; rw [HSH.out]; unfold shareAt; rw [List.getElem?_eq_none (by rw [← HLU.out]; omega)]
            have gu : decide (k < un) = false := decide_eq_false hlu
            have gu2 : decide ((k : Int) < (un : Int)) = false := decide_eq_false (by omega)
            obtain rfl : sh = 0 := HS0.out
            have hX0 : X = 0 := by rw [← hw3, Int.mul_zero]; rfl
            obtain rfl : X = 0 := hX0
            obtain rfl : Z = 0 := by omega
            have HRN8 := HRN9
            rw [Int.add_zero] at HRN8
            clear hsb hw3 hq1 hq2 HRN9 hw4
            have HRN9 := HRN8
            go_wp2_with fail
            go_roundw
            case rel => exact ⟨m, hmN, by go_num, HRN9.out, hb9.setCell (p := ⟨w8.heap.size, m, none⟩) (Nat.le_refl _) _, HRN9.out.lt⟩
            case measure => have := HM.out; simp [intOf]; omega
        obtain rfl : N = k := by omega
        have hRun2 := hRun
        rw [runK_N] at hRun2
        have hRL : SL iC 1 wr wr.heap.size (some ⟨w8.heap.size, 0, none⟩) (N + 1) (runL N (runV S R us)) := by
          have := sl_ints (runL N (runV S R us)) hRun2 hlr
          rw [runL_len] at this
          exact this
        have HRL := Lib.hid hRL
        have HSLr := Lib.hid (HSL.out.grow hbr hbr.size)
        have hxz := HRN.out.bd HS.out HV.out (b := 0) (Nat.zero_le N)
        clear hRun hRun2 hRL hxz
        have x0 := hXr.cell 0
        have x1 := hXr.cell 1
        have x2 := hXr.cell 2
        have y0 := hYr.cell 0
        have y1 := hYr.cell 1
        have y2 := hYr.cell 2
        have y3 := hYr.cell 3
        simp only [List.getElem?_toArray, List.getElem?_cons_zero, List.getElem?_cons_succ] at x0 x1 x2 y0 y1 y2 y3
        go_wp2_with fail
        clear x0 x1 x2 y0 y1 y2 y3
        have HFA : Hid (fitAll S R [] (runL N (runV S R us)) = (true, 0)) := by
          show _ = _
          rw [fitAll_ok (by unfold fitOkB; rw [HVS.out, pB_ok ⟨Nat.zero_le _, fun i hi => absurd hi (Nat.not_lt_zero _)⟩, runL_len, HN.out, Int.toNat_natCast, decide_eq_true rfl]; rfl), runs_fit HRN.out]
        have HRG : Hid (∀ x ∈ runL N (runV S R us), -9223372036854775808 ≤ x ∧ x ≤ 9223372036854775807) := by
          intro x hx
          obtain ⟨i, hi, rfl⟩ := List.getElem_of_mem hx
          rw [runL_len] at hi
          have h1 := HRN.out.bd HS.out HV.out (b := i) (by omega)
          have h2 : (runL N (runV S R us))[i]? = some (runV S R us i) := runL_at (by omega)
          rw [List.getElem?_eq_getElem (by rw [runL_len]; omega)] at h2
          rw [Option.some.inj h2]
          omega
        refine (Fits_all pa pn pc ca cn cc ja jn jc R ra rn rc sa sn sc S none 0 0 [] (some ⟨w8.heap.size, 0, none⟩) (N + 1) (N + 1) (runL N (runV S R us)) _ (HR.out.grow hBr hBr.size) (HD.out.grow hBr hBr.size) SL.nil_ HRL.out (by omega) (by omega) HRG.out).mono ?_
        rintro e w20 ⟨rfl, hk⟩
        rw [HFA.out]
        dsimp only
        have HSL20 := Lib.hid (HSLr.out.grow hk hk.size)
        have HRL20 := Lib.hid (HRL.out.grow hk hk.size)
        clear HRG HFA HSLr HRL
        have hB20 := hBr.trans (hk.mono hBr.size)
        have hX20 := hXr.below hk hXr.lt
        have hY20 := hYr.below hk hYr.lt
        clear hXr hYr hBr hk
        have x0 := hX20.cell 0
        have x1 := hX20.cell 1
        have x2 := hX20.cell 2
        have y0 := hY20.cell 0
        have y1 := hY20.cell 1
        have y2 := hY20.cell 2
        have y3 := hY20.cell 3
        simp only [List.getElem?_toArray, List.getElem?_cons_zero, List.getElem?_cons_succ] at x0 x1 x2 y0 y1 y2 y3
        go_wp2_with fail
        clear x0 x1 x2 y0 y1 y2 y3
        have HSA : Hid (saidAll R cs (trigsL S R cs) (runL N (runV S R us)) = (saidL cs (trigsL S R cs) (runL N (runV S R us)) cs.length, 0)) := by
          show _ = _
          rw [saidAll_ok (by unfold saidOkB; rw [(val_iff R).2 HV.out, cB_ok HC.out, trB_ok HT1.out, HN.out, Int.toNat_natCast, trB_ok (runs_tok HRN.out HS.out HV.out)]; rfl)]
        have hnb : n ≤ 100000 := by rw [HSL20.out.1, HT1.out.l, ← HLK.out]; omega
        refine (Said_all pa pn pc ca cn cc ja jn jc R ka kn kc cs A n c (trigsL S R cs) (some ⟨w8.heap.size, 0, none⟩) (N + 1) (N + 1) (runL N (runV S R us)) w20 (HR.out.grow hB20 hB20.size) (HK.out.grow hB20 hB20.size) HSL20.out HRL20.out (by omega) hnb (by omega)).mono ?_
        rintro e w21 ⟨A3, n3, c3, rfl, hQ21, hk⟩
        rw [HSA.out] at hQ21 ⊢
        dsimp only at hQ21 ⊢
        obtain rfl : kn = n3 := by rw [hQ21.1, saidL_len]; exact HLK.out
        have HSL21 := Lib.hid (HSL20.out.grow hk hk.size)
        have HRL21 := Lib.hid (HRL20.out.grow hk hk.size)
        have HQ21 := Lib.hid hQ21
        clear HSA HSL20 HRL20 hQ21
        have hB21 := hB20.trans (hk.mono hB20.size)
        have hX21 := hX20.below hk hX20.lt
        have hY21 := hY20.below hk hY20.lt
        clear hX20 hY20 hB20 hk
        have x0 := hX21.cell 0
        have x1 := hX21.cell 1
        have x2 := hX21.cell 2
        have y0 := hY21.cell 0
        have y1 := hY21.cell 1
        have y2 := hY21.cell 2
        have y3 := hY21.cell 3
        simp only [List.getElem?_toArray, List.getElem?_cons_zero, List.getElem?_cons_succ] at x0 x1 x2 y0 y1 y2 y3
        go_wp2_with fail
        clear x0 x1 x2 y0 y1 y2 y3
        refine (R3Trig_any ka kn kc A n c (trigsL S R cs) pa pn pc ca cn cc ja jn jc R w21 (HR.out.grow hB21 hB21.size) HV.out HSL21.out hnb).mono ?_
        rintro e w22 ⟨rfl, hk⟩
        have htt : trB (sumL R.ps) kn (trigsL S R cs) = true := by rw [HLK.out]; exact trB_ok HT1.out
        rw [htt]
        have HSL22 := Lib.hid (HSL21.out.grow hk hk.size)
        have HRL22 := Lib.hid (HRL21.out.grow hk hk.size)
        have HQ22 := Lib.hid (HQ21.out.grow hk hk.size)
        clear htt HSL21 HRL21 HQ21
        have hB22 := hB21.trans (hk.mono hB21.size)
        have hX22 := hX21.below hk hX21.lt
        have hY22 := hY21.below hk hY21.lt
        clear hX21 hY21 hB21 hk
        go_wp2_with fail
        have hz22 := hB22.size
        go_loopw [26] (fun i wx => ∃ k : Nat, k ≤ kn ∧ i = .int .i64 k ∧ Below w22.heap.size w22 wx)
          (fun i _ => kn - (intOf i).toNat)
        case atStart => exact ⟨0, Nat.zero_le _, rfl, Below.refl _ _⟩
        case round =>
          obtain ⟨k, hk, rfl, hbx⟩ := hrel
          have hBx := hB22.trans (hbx.mono hz22)
          by_cases hlt : k < kn
          case neg =>
            obtain rfl : k = kn := by omega
            go_wp2_with fail
            have hBX := hBx
            refine (known_any _).mono ?_
            rintro e w9 ⟨rfl, hk⟩
            go_wp2_with fail
            go_ret
            exact ⟨rfl, hBX.trans (hk.mono hBX.size)⟩
          have hkl : k < cs.length := by rw [← HLK.out]; exact hlt
          obtain ⟨q, z, h1, h2, hqN, hzN, h3, h4⟩ := heard HS.out HV.out HN.out HC.out HT1.out HRN.out HG1.out hkl
          have hll : k < ((trigsL S R cs)).length := by rw [HT1.out.l]; exact hkl
          have hsl : k < (saidL cs (trigsL S R cs) (runL N (runV S R us)) cs.length).length := by rw [saidL_len]; exact hkl
          have hql : q < (runL N (runV S R us)).length := by rw [runL_len]; omega
          have hzl : z < (runL N (runV S R us)).length := by rw [runL_len]; omega
          obtain ⟨b1, o1, hA1, _, d0⟩ := IS.at_ (HQ22.out.grow hbx hbx.size) (k := k) hsl
          obtain ⟨b2, o2, hA2, _, e0, e1, e2, e3, e4⟩ := KS5.at_ (HK.out.grow hBx hBx.size) (k := k) hkl
          obtain ⟨b3, o3, hA3, _, f0⟩ := IS.at_ (HRL22.out.grow hbx hbx.size) (k := z) hzl
          obtain ⟨b4, o4, hA4, _, f1⟩ := IS.at_ (HRL22.out.grow hbx hbx.size) (k := q) hql
          obtain ⟨b5, o5, hA5, _, g0⟩ := IS.at_ (HSL22.out.grow hbx hbx.size) (k := k) hll
          rw [Option.some.inj ((List.getElem?_eq_getElem hsl).symm.trans (saidL_at hkl))] at d0
          rw [Option.some.inj ((List.getElem?_eq_getElem hzl).symm.trans (runL_at hzN))] at f0
          rw [Option.some.inj ((List.getElem?_eq_getElem hql).symm.trans (runL_at hqN))] at f1
          rw [Option.some.inj ((List.getElem?_eq_getElem hll).symm.trans h1)] at g0
          rw [h2] at e0
          have hbd := kAt_bd HC.out hkl
          have heb := end_in (ls := (trigsL S R cs)) HC.out (runs_tok HRN.out HS.out HV.out) (k := k + 1) (by omega)
          have hvz := HRN.out.bd HS.out HV.out hzN
          have hvq := HRN.out.bd HS.out HV.out hqN
          generalize cs[k]'hkl = x at e0 e1 e2 e3 e4 h2 h3 h4 hbd
          generalize endAt cs (trigsL S R cs) (runL N (runV S R us)) (k + 1) = E at d0 h3 heb
          generalize runV S R us z = vz at f0 h3 h4 hvz
          generalize runV S R us q = vq at f1 h4 hvq
          obtain ⟨-, -, ⟨p5, p6⟩, -⟩ := hbd
          rw [show maxM = 1125899906842624 from rfl] at p6
          have hw1 : IntKind.i64.wrap (E + x.lead) = E + x.lead := IntWalk.i64_in _ (by omega)
          have hw2 : IntKind.i64.wrap (vz - vq) = vz - vq := IntWalk.i64_in _ (by omega)
          have g1 : decide (vz < IntKind.i64.wrap (E + x.lead)) = false := by rw [hw1]; exact decide_eq_false (by omega)
          have g2 : decide (x.ahead < IntKind.i64.wrap (vz - vq)) = false := by rw [hw2]; exact decide_eq_false (by omega)
          have hi1 : (0 : Int) ≤ (k : Int) := by omega
          have hi2 : (k : Int) < (kn : Int) := by omega
          have hi3 : (0 : Int) ≤ (q : Int) := by omega
          have hi4 : (q : Int) < (N : Int) + 1 := by omega
          have hi5 : (0 : Int) ≤ (z : Int) := by omega
          have hi6 : (z : Int) < (N : Int) + 1 := by omega
          have hi7 : (k : Int) < (n : Int) := by have := HSL22.out.1; have := HT1.out.l; have := HLK.out; omega
          clear hw1 hw2 h1 h2 h3 h4 hkl hll hsl hql hzl heb hvz hvq
          subst hA1
          subst hA2
          cases hA3
          cases hA4
          rw [Nat.zero_add] at f0 f1
          subst hA5
          go_wp2_with fail
          go_quiet (fail)
          go_wp2_with fail
          go_roundw
          case rel => exact ⟨k + 1, by omega, by go_num, below_drewN hbx _⟩
          case measure => simp [intOf]; omega
  have HTB := Lib.hid htb
  have HT : Hid (TOK (sumL R.ps) cs.length ls) := by have := (trB_iff _ _ _).1 htb; rw [HLK.out] at this; exact this
  clear htb
  have x0 := hX7.cell 0
  have x1 := hX7.cell 1
  have x2 := hX7.cell 2
  have y0 := hY7.cell 0
  have y1 := hY7.cell 1
  have y2 := hY7.cell 2
  have y3 := hY7.cell 3
  simp only [List.getElem?_toArray, List.getElem?_cons_zero, List.getElem?_cons_succ] at x0 x1 x2 y0 y1 y2 y3
  go_wp2_with fail
  clear x0 x1 x2 y0 y1 y2 y3
  refine (Good_any pa pn pc ca cn cc ja jn jc R ra rn rc sa sn sc S ka kn kc cs la ln lc ls w7 (HR.out.grow hB7 hB7.size) (HD.out.grow hB7 hB7.size) (HK.out.grow hB7 hB7.size) (HL.out.grow hB7 hB7.size) HV.out HS.out HC.out HT.out).mono ?_
  rintro e w8 ⟨rfl, hk⟩
  have hP8 := hP7.grow hk hk.size
  clear hP7
  have hB8 := hB7.trans (hk.mono hB7.size)
  have hX8 := hX7.below hk hX7.lt
  have hY8 := hY7.below hk hY7.lt
  clear hX7 hY7 hB7 hk
  cases hgo : goodM (qS S R) (sS S R) cs ls
  case false =>
    clear hgo
    rcases hout.out with h5 | ⟨h0, h1, h2, h3⟩
    · subst h5
      clear hout
      go_wp2_with fail
      have hBX := hB8
      refine (known_any _).mono ?_
      rintro e w9 ⟨rfl, hk⟩
      go_wp2_with fail
      go_ret
      exact ⟨rfl, hBX.trans (hk.mono hBX.size)⟩
    · subst h0
      subst h1
      clear hout
      have HSL := Lib.hid hP8
      have HT1 : Hid (TOK (sumL R.ps) cs.length (trigsL S R cs)) := h2
      have HG1 : Hid (∀ j, j < cs.length → goodAt S R cs (trigsL S R cs) j = true) := h3
      have x0 := hX8.cell 0
      have x1 := hX8.cell 1
      have x2 := hX8.cell 2
      have y0 := hY8.cell 0
      have y1 := hY8.cell 1
      have y2 := hY8.cell 2
      have y3 := hY8.cell 3
      simp only [List.getElem?_toArray, List.getElem?_cons_zero, List.getElem?_cons_succ] at x0 x1 x2 y0 y1 y2 y3
      go_wp2_with fail
      clear x0 x1 x2 y0 y1 y2 y3
      refine (R3Length_any pa pn pc ca cn cc ja jn jc R w8 (HR.out.grow hB8 hB8.size) HV.out).mono ?_
      rintro e w9 ⟨rfl, hk⟩
      rw [HN.out]
      have HSL := Lib.hid (HSL.out.grow hk hk.size)
      have hB9 := hB8.trans (hk.mono hB8.size)
      have hX9 := hX8.below hk hX8.lt
      have hY9 := hY8.below hk hY8.lt
      clear hX8 hY8 hB8 hk
      have hmk := make_ints N hN1 w9
      have hwN : IntKind.i64.wrap ((N : Int) + 1) = (N : Int) + 1 := IntWalk.i64_in _ (by omega)
      have hRun0 := BK.new w9 3 (blkI (List.replicate (N + 1) 0))
      rw [← runK_0 (v := runV S R us) rfl] at hRun0 hmk
      obtain ⟨wm, hwm⟩ : ∃ wm, wm = w9.alloc (.cells (blkI (runK N (runV S R us) 0)) 3) := ⟨_, rfl⟩
      rw [← hwm] at hRun0 hmk
      have hbm : Below w9.heap.size w9 wm := by rw [hwm]; exact (Below.refl _ _).alloc (Nat.le_refl _) _
      clear hwm
      go_wp2_with fail
      clear hmk hwN
      have HRN := Lib.hid (runV_runs (S := S) HS.out HV.out HN.out us)
      have hza := hB9.size
      have hlX := hX9.lt
      have hlY := hY9.lt
      have hzm := hbm.size
      have hlR := hRun0.lt
      go_loopw [17] (fun i wr => ∃ k : Nat, k ≤ N ∧ i = .int .i64 ((k : Int) + 1) ∧ BK wr w9.heap.size 3 (blkI (runK N (runV S R us) k)) ∧ Below w9.heap.size w9 wr ∧ w9.heap.size < wr.heap.size)
        (fun i _ => N + 1 - (intOf i).toNat)
      case atStart => exact ⟨0, Nat.zero_le _, rfl, hRun0, hbm, hlR⟩
      case round =>
        obtain ⟨k, hk, rfl, hRun, hbr, hlr⟩ := hrel
        have hBr := hB9.trans (hbr.mono hza)
        have hXr := hX9.below hbr hX9.lt
        have hYr := hY9.below hbr hY9.lt
        by_cases hlt : k < N
        case pos =>
          have x0 := hXr.cell 0
          have x1 := hXr.cell 1
          have x2 := hXr.cell 2
          have y0 := hYr.cell 0
          have y1 := hYr.cell 1
          have y2 := hYr.cell 2
          have y3 := hYr.cell 3
          simp only [List.getElem?_toArray, List.getElem?_cons_zero, List.getElem?_cons_succ] at x0 x1 x2 y0 y1 y2 y3
          have g0 : decide ((k : Int) + 1 < (N : Int) + 1) = true := decide_eq_true (by omega)
          have hwk : IntKind.i64.wrap ((k : Int) + 1 - 1) = (k : Int) := (IntWalk.i64_in _ (by omega)).trans (by omega)
          obtain ⟨m, hm⟩ : ∃ m, m = k + 1 := ⟨_, rfl⟩
          have hmi : (k : Int) + 1 = (m : Int) := by omega
          rw [hmi] at g0 hwk ⊢
          have hmN : m ≤ N := by omega
          have HST : Hid (runV S R us m = runV S R us k + (tQ S R.ps m - tQ S R.ps k) + ((tSl S R.ps m - tSl S R.ps k) - (tQ S R.ps m - tQ S R.ps k)) * shareAt us k / 100) := by show _ = _; rw [hm]; exact runV_succ S R us k
          have hd := HRN.out.d k hlt
          rw [← hm] at hd
          have hdq0 := tQ_mono HS.out HV.out (show k ≤ m by omega)
          have hb1 := HRN.out.bd HS.out HV.out (b := k) (by omega)
          have hb2 := HRN.out.bd HS.out HV.out (b := m) hmN
          have hb3 := tSl_bd HS.out HV.out m
          have hb4 := tSl_bd HS.out HV.out k
          have hsb := shareAt_bd us k
          have HM := Lib.hid hm
          have HMN : Hid ((m : Int) ≤ sumL R.ps) := by show _ ≤ _; rw [HN.out]; omega
          have HKM : Hid (k ≤ m) := by show _ ≤ _; omega
          clear hm hmi
          go_wp2_with fail
          clear x0 x1 x2 y0 y1 y2 y3
          refine (Between_any k m pa pn pc ca cn cc ja jn jc R ra rn rc sa sn sc S _ (HR.out.grow hBr hBr.size) (HD.out.grow hBr hBr.size) HV.out HS.out).mono ?_
          rintro e wq ⟨rfl, hk9⟩
          rw [btw_step (S := S) HKM.out HMN.out]
          dsimp only
          have hRun9 := hRun.below hk9 hlr
          have hb9 := hbr.trans (hk9.mono hbr.size)
          have cy := hRun9.cell k
          rw [blkI_at (runK_at (show k ≤ N by omega)), if_pos (Nat.le_refl k)] at cy
          have cm := hRun9.cell m
          rw [blkI_at (runK_at hmN), if_neg (by have := HM.out; omega)] at cm
          have cf := hRun9.frozen m
          obtain ⟨dq, hdq⟩ : ∃ dq, dq = tQ S R.ps m - tQ S R.ps k := ⟨_, rfl⟩
          obtain ⟨ds, hds⟩ : ∃ ds, ds = tSl S R.ps m - tSl S R.ps k := ⟨_, rfl⟩
          have hds1 : ds ≤ 1000070000000 := by omega
          rw [← hdq, ← hds] at hd HST ⊢
          have hdq0 : 0 ≤ dq := by omega
          clear hdq hds hb3 hb4 hRun hbr hBr hXr hYr hlr
          obtain ⟨y, hy⟩ : ∃ y, y = runV S R us k := ⟨_, rfl⟩
          obtain ⟨sh, hsh⟩ : ∃ sh, sh = shareAt us k := ⟨_, rfl⟩
          rw [← hy] at hd HST hb1 cy
          rw [← hsh] at HST hsb
          have hD1 : 0 ≤ ds - dq := by omega
          have hX1 : 0 ≤ (ds - dq) * sh := Int.mul_nonneg hD1 hsb.1
          have hX2 : (ds - dq) * sh ≤ (ds - dq) * 100 := Int.mul_le_mul_of_nonneg_left hsb.2 hD1
          obtain ⟨X, hX⟩ : ∃ X, X = (ds - dq) * sh := ⟨_, rfl⟩
          rw [← hX] at hX1 hX2 HST
          obtain ⟨Z, hZ⟩ : ∃ Z, Z = X / 100 := ⟨_, rfl⟩
          rw [← hZ] at HST
          have hZb : 0 ≤ Z ∧ Z ≤ X := by omega
          have hw1 : IntKind.i64.wrap (y + dq) = y + dq := IntWalk.i64_in _ (by omega)
          have hw2 : IntKind.i64.wrap (ds - dq) = ds - dq := IntWalk.i64_in _ (by omega)
          have hw3 : IntKind.i64.wrap ((ds - dq) * sh) = X := by rw [← hX]; exact IntWalk.i64_in _ (by omega)
          have hw4 : IntKind.i64.wrap (y + dq + Z) = y + dq + Z := IntWalk.i64_in _ (by omega)
          have hq1 : X.tdiv 100 = Z := by rw [hZ, Int.tdiv_eq_ediv_of_nonneg hX1]
          have hq2 : IntKind.i64.wrap Z = Z := IntWalk.i64_in _ (by omega)
          have hmu : (m : Int) < (N : Int) + 1 := by omega
          have hku : (k : Int) < (N : Int) + 1 := by omega
          have hm0 : (0 : Int) ≤ (m : Int) := by omega
          have hk0 : (0 : Int) ≤ (k : Int) := by omega
          have HSH := Lib.hid hsh
          have HRN9 : Hid (BK (wq.setCell ⟨w9.heap.size, m, none⟩ (.int .i64 (y + dq + Z))) w9.heap.size 3 (blkI (runK N (runV S R us) m))) := by
            have h1 := hRun9.set_ m (.int .i64 (y + dq + Z))
            rw [blkI_set, ← HST.out] at h1
            have h2 := runK_set (v := runV S R us) (k := k) (N := N) (by omega)
            rw [← HM.out] at h2
            rw [h2] at h1
            rw [← HST.out]
            exact h1
          clear hX hZ hy hsh hX1 hX2 hd hb1 hb2 hD1 hRun9
          by_cases hlu : k < un
          · have hkl : k < us.length := by rw [← HLU.out]; exact hlu
            have hB9 := hB9.trans (hb9.mono hza)
            obtain ⟨bu, ou, hA, hbB, e0⟩ := IS.at_ (HU.out.grow hB9 hB9.size) (k := k) hkl
            have HS0 : Hid (sh = min 100 (max 0 (us[k]'hkl))) := by show _ = _; rw [HSH.out]; unfold shareAt; rw [List.getElem?_eq_getElem hkl]
            generalize us[k]'hkl = s0 at e0 HS0
            clear hkl
            obtain ⟨M0, hM0⟩ : ∃ M0, M0 = max 0 s0 := ⟨_, rfl⟩
            have hi1 : (if 0 < s0 then s0 else 0) = M0 := by rw [hM0, Int.max_def]; split <;> split <;> omega
            have hi2 : (if M0 < 100 then M0 else 100) = sh := by rw [HS0.out, ← hM0, Int.min_def]; split <;> split <;> omega
            clear hM0
            have gu : decide (k < un) = true := decide_eq_true hlu
            have gu2 : decide ((k : Int) < (un : Int)) = true := decide_eq_true (by omega)
            have hku2 : (k : Int) < (un : Int) := by omega
            clear hsb
            subst hA
            go_wp2_with fail
            go_roundw
            case rel => exact ⟨m, hmN, by go_num, HRN9.out, hb9.setCell (p := ⟨w9.heap.size, m, none⟩) (Nat.le_refl _) _, HRN9.out.lt⟩
            case measure => have := HM.out; simp [intOf]; omega
          · have HS0 : Hid (sh = 0) := by show _ = _; rw [HSH.out]; unfold shareAt; rw [List.getElem?_eq_none (by rw [← HLU.out]; omega)]
            have gu : decide (k < un) = false := decide_eq_false hlu
            have gu2 : decide ((k : Int) < (un : Int)) = false := decide_eq_false (by omega)
            obtain rfl : sh = 0 := HS0.out
            have hX0 : X = 0 := by rw [← hw3, Int.mul_zero]; rfl
            obtain rfl : X = 0 := hX0
            obtain rfl : Z = 0 := by omega
            have HRN8 := HRN9
            rw [Int.add_zero] at HRN8
            clear hsb hw3 hq1 hq2 HRN9 hw4
            have HRN9 := HRN8
            go_wp2_with fail
            go_roundw
            case rel => exact ⟨m, hmN, by go_num, HRN9.out, hb9.setCell (p := ⟨w9.heap.size, m, none⟩) (Nat.le_refl _) _, HRN9.out.lt⟩
            case measure => have := HM.out; simp [intOf]; omega
        obtain rfl : N = k := by omega
        have hRun2 := hRun
        rw [runK_N] at hRun2
        have hRL : SL iC 1 wr wr.heap.size (some ⟨w9.heap.size, 0, none⟩) (N + 1) (runL N (runV S R us)) := by
          have := sl_ints (runL N (runV S R us)) hRun2 hlr
          rw [runL_len] at this
          exact this
        have HRL := Lib.hid hRL
        have HSLr := Lib.hid (HSL.out.grow hbr hbr.size)
        have hxz := HRN.out.bd HS.out HV.out (b := 0) (Nat.zero_le N)
        clear hRun hRun2 hRL hxz
        have x0 := hXr.cell 0
        have x1 := hXr.cell 1
        have x2 := hXr.cell 2
        have y0 := hYr.cell 0
        have y1 := hYr.cell 1
        have y2 := hYr.cell 2
        have y3 := hYr.cell 3
        simp only [List.getElem?_toArray, List.getElem?_cons_zero, List.getElem?_cons_succ] at x0 x1 x2 y0 y1 y2 y3
        go_wp2_with fail
        clear x0 x1 x2 y0 y1 y2 y3
        have HFA : Hid (fitAll S R [] (runL N (runV S R us)) = (true, 0)) := by
          show _ = _
          rw [fitAll_ok (by unfold fitOkB; rw [HVS.out, pB_ok ⟨Nat.zero_le _, fun i hi => absurd hi (Nat.not_lt_zero _)⟩, runL_len, HN.out, Int.toNat_natCast, decide_eq_true rfl]; rfl), runs_fit HRN.out]
        have HRG : Hid (∀ x ∈ runL N (runV S R us), -9223372036854775808 ≤ x ∧ x ≤ 9223372036854775807) := by
          intro x hx
          obtain ⟨i, hi, rfl⟩ := List.getElem_of_mem hx
          rw [runL_len] at hi
          have h1 := HRN.out.bd HS.out HV.out (b := i) (by omega)
          have h2 : (runL N (runV S R us))[i]? = some (runV S R us i) := runL_at (by omega)
          rw [List.getElem?_eq_getElem (by rw [runL_len]; omega)] at h2
          rw [Option.some.inj h2]
          omega
        refine (Fits_all pa pn pc ca cn cc ja jn jc R ra rn rc sa sn sc S none 0 0 [] (some ⟨w9.heap.size, 0, none⟩) (N + 1) (N + 1) (runL N (runV S R us)) _ (HR.out.grow hBr hBr.size) (HD.out.grow hBr hBr.size) SL.nil_ HRL.out (by omega) (by omega) HRG.out).mono ?_
        rintro e w20 ⟨rfl, hk⟩
        rw [HFA.out]
        dsimp only
        have HSL20 := Lib.hid (HSLr.out.grow hk hk.size)
        have HRL20 := Lib.hid (HRL.out.grow hk hk.size)
        clear HRG HFA HSLr HRL
        have hB20 := hBr.trans (hk.mono hBr.size)
        have hX20 := hXr.below hk hXr.lt
        have hY20 := hYr.below hk hYr.lt
        clear hXr hYr hBr hk
        have x0 := hX20.cell 0
        have x1 := hX20.cell 1
        have x2 := hX20.cell 2
        have y0 := hY20.cell 0
        have y1 := hY20.cell 1
        have y2 := hY20.cell 2
        have y3 := hY20.cell 3
        simp only [List.getElem?_toArray, List.getElem?_cons_zero, List.getElem?_cons_succ] at x0 x1 x2 y0 y1 y2 y3
        go_wp2_with fail
        clear x0 x1 x2 y0 y1 y2 y3
        have HSA : Hid (saidAll R cs (trigsL S R cs) (runL N (runV S R us)) = (saidL cs (trigsL S R cs) (runL N (runV S R us)) cs.length, 0)) := by
          show _ = _
          rw [saidAll_ok (by unfold saidOkB; rw [(val_iff R).2 HV.out, cB_ok HC.out, trB_ok HT1.out, HN.out, Int.toNat_natCast, trB_ok (runs_tok HRN.out HS.out HV.out)]; rfl)]
        have hnb : n ≤ 100000 := by rw [HSL20.out.1, HT1.out.l, ← HLK.out]; omega
        refine (Said_all pa pn pc ca cn cc ja jn jc R ka kn kc cs A n c (trigsL S R cs) (some ⟨w9.heap.size, 0, none⟩) (N + 1) (N + 1) (runL N (runV S R us)) w20 (HR.out.grow hB20 hB20.size) (HK.out.grow hB20 hB20.size) HSL20.out HRL20.out (by omega) hnb (by omega)).mono ?_
        rintro e w21 ⟨A3, n3, c3, rfl, hQ21, hk⟩
        rw [HSA.out] at hQ21 ⊢
        dsimp only at hQ21 ⊢
        obtain rfl : kn = n3 := by rw [hQ21.1, saidL_len]; exact HLK.out
        have HSL21 := Lib.hid (HSL20.out.grow hk hk.size)
        have HRL21 := Lib.hid (HRL20.out.grow hk hk.size)
        have HQ21 := Lib.hid hQ21
        clear HSA HSL20 HRL20 hQ21
        have hB21 := hB20.trans (hk.mono hB20.size)
        have hX21 := hX20.below hk hX20.lt
        have hY21 := hY20.below hk hY20.lt
        clear hX20 hY20 hB20 hk
        have x0 := hX21.cell 0
        have x1 := hX21.cell 1
        have x2 := hX21.cell 2
        have y0 := hY21.cell 0
        have y1 := hY21.cell 1
        have y2 := hY21.cell 2
        have y3 := hY21.cell 3
        simp only [List.getElem?_toArray, List.getElem?_cons_zero, List.getElem?_cons_succ] at x0 x1 x2 y0 y1 y2 y3
        go_wp2_with fail
        clear x0 x1 x2 y0 y1 y2 y3
        refine (R3Trig_any ka kn kc A n c (trigsL S R cs) pa pn pc ca cn cc ja jn jc R w21 (HR.out.grow hB21 hB21.size) HV.out HSL21.out hnb).mono ?_
        rintro e w22 ⟨rfl, hk⟩
        have htt : trB (sumL R.ps) kn (trigsL S R cs) = true := by rw [HLK.out]; exact trB_ok HT1.out
        rw [htt]
        have HSL22 := Lib.hid (HSL21.out.grow hk hk.size)
        have HRL22 := Lib.hid (HRL21.out.grow hk hk.size)
        have HQ22 := Lib.hid (HQ21.out.grow hk hk.size)
        clear htt HSL21 HRL21 HQ21
        have hB22 := hB21.trans (hk.mono hB21.size)
        have hX22 := hX21.below hk hX21.lt
        have hY22 := hY21.below hk hY21.lt
        clear hX21 hY21 hB21 hk
        go_wp2_with fail
        have hz22 := hB22.size
        go_loopw [26] (fun i wx => ∃ k : Nat, k ≤ kn ∧ i = .int .i64 k ∧ Below w22.heap.size w22 wx)
          (fun i _ => kn - (intOf i).toNat)
        case atStart => exact ⟨0, Nat.zero_le _, rfl, Below.refl _ _⟩
        case round =>
          obtain ⟨k, hk, rfl, hbx⟩ := hrel
          have hBx := hB22.trans (hbx.mono hz22)
          by_cases hlt : k < kn
          case neg =>
            obtain rfl : k = kn := by omega
            go_wp2_with fail
            have hBX := hBx
            refine (known_any _).mono ?_
            rintro e w9 ⟨rfl, hk⟩
            go_wp2_with fail
            go_ret
            exact ⟨rfl, hBX.trans (hk.mono hBX.size)⟩
          have hkl : k < cs.length := by rw [← HLK.out]; exact hlt
          obtain ⟨q, z, h1, h2, hqN, hzN, h3, h4⟩ := heard HS.out HV.out HN.out HC.out HT1.out HRN.out HG1.out hkl
          have hll : k < ((trigsL S R cs)).length := by rw [HT1.out.l]; exact hkl
          have hsl : k < (saidL cs (trigsL S R cs) (runL N (runV S R us)) cs.length).length := by rw [saidL_len]; exact hkl
          have hql : q < (runL N (runV S R us)).length := by rw [runL_len]; omega
          have hzl : z < (runL N (runV S R us)).length := by rw [runL_len]; omega
          obtain ⟨b1, o1, hA1, _, d0⟩ := IS.at_ (HQ22.out.grow hbx hbx.size) (k := k) hsl
          obtain ⟨b2, o2, hA2, _, e0, e1, e2, e3, e4⟩ := KS5.at_ (HK.out.grow hBx hBx.size) (k := k) hkl
          obtain ⟨b3, o3, hA3, _, f0⟩ := IS.at_ (HRL22.out.grow hbx hbx.size) (k := z) hzl
          obtain ⟨b4, o4, hA4, _, f1⟩ := IS.at_ (HRL22.out.grow hbx hbx.size) (k := q) hql
          obtain ⟨b5, o5, hA5, _, g0⟩ := IS.at_ (HSL22.out.grow hbx hbx.size) (k := k) hll
          rw [Option.some.inj ((List.getElem?_eq_getElem hsl).symm.trans (saidL_at hkl))] at d0
          rw [Option.some.inj ((List.getElem?_eq_getElem hzl).symm.trans (runL_at hzN))] at f0
          rw [Option.some.inj ((List.getElem?_eq_getElem hql).symm.trans (runL_at hqN))] at f1
          rw [Option.some.inj ((List.getElem?_eq_getElem hll).symm.trans h1)] at g0
          rw [h2] at e0
          have hbd := kAt_bd HC.out hkl
          have heb := end_in (ls := (trigsL S R cs)) HC.out (runs_tok HRN.out HS.out HV.out) (k := k + 1) (by omega)
          have hvz := HRN.out.bd HS.out HV.out hzN
          have hvq := HRN.out.bd HS.out HV.out hqN
          generalize cs[k]'hkl = x at e0 e1 e2 e3 e4 h2 h3 h4 hbd
          generalize endAt cs (trigsL S R cs) (runL N (runV S R us)) (k + 1) = E at d0 h3 heb
          generalize runV S R us z = vz at f0 h3 h4 hvz
          generalize runV S R us q = vq at f1 h4 hvq
          obtain ⟨-, -, ⟨p5, p6⟩, -⟩ := hbd
          rw [show maxM = 1125899906842624 from rfl] at p6
          have hw1 : IntKind.i64.wrap (E + x.lead) = E + x.lead := IntWalk.i64_in _ (by omega)
          have hw2 : IntKind.i64.wrap (vz - vq) = vz - vq := IntWalk.i64_in _ (by omega)
          have g1 : decide (vz < IntKind.i64.wrap (E + x.lead)) = false := by rw [hw1]; exact decide_eq_false (by omega)
          have g2 : decide (x.ahead < IntKind.i64.wrap (vz - vq)) = false := by rw [hw2]; exact decide_eq_false (by omega)
          have hi1 : (0 : Int) ≤ (k : Int) := by omega
          have hi2 : (k : Int) < (kn : Int) := by omega
          have hi3 : (0 : Int) ≤ (q : Int) := by omega
          have hi4 : (q : Int) < (N : Int) + 1 := by omega
          have hi5 : (0 : Int) ≤ (z : Int) := by omega
          have hi6 : (z : Int) < (N : Int) + 1 := by omega
          have hi7 : (k : Int) < (n : Int) := by have := HSL22.out.1; have := HT1.out.l; have := HLK.out; omega
          clear hw1 hw2 h1 h2 h3 h4 hkl hll hsl hql hzl heb hvz hvq
          subst hA1
          subst hA2
          cases hA3
          cases hA4
          rw [Nat.zero_add] at f0 f1
          subst hA5
          go_wp2_with fail
          go_quiet (fail)
          go_wp2_with fail
          go_roundw
          case rel => exact ⟨k + 1, by omega, by go_num, below_drewN hbx _⟩
          case measure => simp [intOf]; omega
  have HGA : Hid (∀ j, j < cs.length → goodAt S R cs ls j = true) := fun j hj => by
    have hj' : j < ls.length := by rw [HT.out.l]; exact hj
    rw [← goodJ_at HS.out HV.out HC.out HT.out hj hj']
    exact (goodM_iff HT.out.l).1 hgo j hj hj'
  clear hgo hout
  generalize er = er0 at *
  have HSL := Lib.hid (HL.out.grow hB8 hB8.size)
  have HT1 : Hid (TOK (sumL R.ps) cs.length ls) := HT.out
  have HG1 : Hid (∀ j, j < cs.length → goodAt S R cs ls j = true) := HGA.out
  have x0 := hX8.cell 0
  have x1 := hX8.cell 1
  have x2 := hX8.cell 2
  have y0 := hY8.cell 0
  have y1 := hY8.cell 1
  have y2 := hY8.cell 2
  have y3 := hY8.cell 3
  simp only [List.getElem?_toArray, List.getElem?_cons_zero, List.getElem?_cons_succ] at x0 x1 x2 y0 y1 y2 y3
  go_wp2_with fail
  clear x0 x1 x2 y0 y1 y2 y3
  refine (R3Length_any pa pn pc ca cn cc ja jn jc R w8 (HR.out.grow hB8 hB8.size) HV.out).mono ?_
  rintro e w9 ⟨rfl, hk⟩
  rw [HN.out]
  have HSL := Lib.hid (HSL.out.grow hk hk.size)
  have hB9 := hB8.trans (hk.mono hB8.size)
  have hX9 := hX8.below hk hX8.lt
  have hY9 := hY8.below hk hY8.lt
  clear hX8 hY8 hB8 hk
  have hmk := make_ints N hN1 w9
  have hwN : IntKind.i64.wrap ((N : Int) + 1) = (N : Int) + 1 := IntWalk.i64_in _ (by omega)
  have hRun0 := BK.new w9 3 (blkI (List.replicate (N + 1) 0))
  rw [← runK_0 (v := runV S R us) rfl] at hRun0 hmk
  obtain ⟨wm, hwm⟩ : ∃ wm, wm = w9.alloc (.cells (blkI (runK N (runV S R us) 0)) 3) := ⟨_, rfl⟩
  rw [← hwm] at hRun0 hmk
  have hbm : Below w9.heap.size w9 wm := by rw [hwm]; exact (Below.refl _ _).alloc (Nat.le_refl _) _
  clear hwm
  go_wp2_with fail
  clear hmk hwN
  have HRN := Lib.hid (runV_runs (S := S) HS.out HV.out HN.out us)
  have hza := hB9.size
  have hlX := hX9.lt
  have hlY := hY9.lt
  have hzm := hbm.size
  have hlR := hRun0.lt
  go_loopw [17] (fun i wr => ∃ k : Nat, k ≤ N ∧ i = .int .i64 ((k : Int) + 1) ∧ BK wr w9.heap.size 3 (blkI (runK N (runV S R us) k)) ∧ Below w9.heap.size w9 wr ∧ w9.heap.size < wr.heap.size)
    (fun i _ => N + 1 - (intOf i).toNat)
  case atStart => exact ⟨0, Nat.zero_le _, rfl, hRun0, hbm, hlR⟩
  case round =>
    obtain ⟨k, hk, rfl, hRun, hbr, hlr⟩ := hrel
    have hBr := hB9.trans (hbr.mono hza)
    have hXr := hX9.below hbr hX9.lt
    have hYr := hY9.below hbr hY9.lt
    by_cases hlt : k < N
    case pos =>
      have x0 := hXr.cell 0
      have x1 := hXr.cell 1
      have x2 := hXr.cell 2
      have y0 := hYr.cell 0
      have y1 := hYr.cell 1
      have y2 := hYr.cell 2
      have y3 := hYr.cell 3
      simp only [List.getElem?_toArray, List.getElem?_cons_zero, List.getElem?_cons_succ] at x0 x1 x2 y0 y1 y2 y3
      have g0 : decide ((k : Int) + 1 < (N : Int) + 1) = true := decide_eq_true (by omega)
      have hwk : IntKind.i64.wrap ((k : Int) + 1 - 1) = (k : Int) := (IntWalk.i64_in _ (by omega)).trans (by omega)
      obtain ⟨m, hm⟩ : ∃ m, m = k + 1 := ⟨_, rfl⟩
      have hmi : (k : Int) + 1 = (m : Int) := by omega
      rw [hmi] at g0 hwk ⊢
      have hmN : m ≤ N := by omega
      have HST : Hid (runV S R us m = runV S R us k + (tQ S R.ps m - tQ S R.ps k) + ((tSl S R.ps m - tSl S R.ps k) - (tQ S R.ps m - tQ S R.ps k)) * shareAt us k / 100) := by show _ = _; rw [hm]; exact runV_succ S R us k
      have hd := HRN.out.d k hlt
      rw [← hm] at hd
      have hdq0 := tQ_mono HS.out HV.out (show k ≤ m by omega)
      have hb1 := HRN.out.bd HS.out HV.out (b := k) (by omega)
      have hb2 := HRN.out.bd HS.out HV.out (b := m) hmN
      have hb3 := tSl_bd HS.out HV.out m
      have hb4 := tSl_bd HS.out HV.out k
      have hsb := shareAt_bd us k
      have HM := Lib.hid hm
      have HMN : Hid ((m : Int) ≤ sumL R.ps) := by show _ ≤ _; rw [HN.out]; omega
      have HKM : Hid (k ≤ m) := by show _ ≤ _; omega
      clear hm hmi
      go_wp2_with fail
      clear x0 x1 x2 y0 y1 y2 y3
      refine (Between_any k m pa pn pc ca cn cc ja jn jc R ra rn rc sa sn sc S _ (HR.out.grow hBr hBr.size) (HD.out.grow hBr hBr.size) HV.out HS.out).mono ?_
      rintro e wq ⟨rfl, hk9⟩
      rw [btw_step (S := S) HKM.out HMN.out]
      dsimp only
      have hRun9 := hRun.below hk9 hlr
      have hb9 := hbr.trans (hk9.mono hbr.size)
      have cy := hRun9.cell k
      rw [blkI_at (runK_at (show k ≤ N by omega)), if_pos (Nat.le_refl k)] at cy
      have cm := hRun9.cell m
      rw [blkI_at (runK_at hmN), if_neg (by have := HM.out; omega)] at cm
      have cf := hRun9.frozen m
      obtain ⟨dq, hdq⟩ : ∃ dq, dq = tQ S R.ps m - tQ S R.ps k := ⟨_, rfl⟩
      obtain ⟨ds, hds⟩ : ∃ ds, ds = tSl S R.ps m - tSl S R.ps k := ⟨_, rfl⟩
      have hds1 : ds ≤ 1000070000000 := by omega
      rw [← hdq, ← hds] at hd HST ⊢
      have hdq0 : 0 ≤ dq := by omega
      clear hdq hds hb3 hb4 hRun hbr hBr hXr hYr hlr
      obtain ⟨y, hy⟩ : ∃ y, y = runV S R us k := ⟨_, rfl⟩
      obtain ⟨sh, hsh⟩ : ∃ sh, sh = shareAt us k := ⟨_, rfl⟩
      rw [← hy] at hd HST hb1 cy
      rw [← hsh] at HST hsb
      have hD1 : 0 ≤ ds - dq := by omega
      have hX1 : 0 ≤ (ds - dq) * sh := Int.mul_nonneg hD1 hsb.1
      have hX2 : (ds - dq) * sh ≤ (ds - dq) * 100 := Int.mul_le_mul_of_nonneg_left hsb.2 hD1
      obtain ⟨X, hX⟩ : ∃ X, X = (ds - dq) * sh := ⟨_, rfl⟩
      rw [← hX] at hX1 hX2 HST
      obtain ⟨Z, hZ⟩ : ∃ Z, Z = X / 100 := ⟨_, rfl⟩
      rw [← hZ] at HST
      have hZb : 0 ≤ Z ∧ Z ≤ X := by omega
      have hw1 : IntKind.i64.wrap (y + dq) = y + dq := IntWalk.i64_in _ (by omega)
      have hw2 : IntKind.i64.wrap (ds - dq) = ds - dq := IntWalk.i64_in _ (by omega)
      have hw3 : IntKind.i64.wrap ((ds - dq) * sh) = X := by rw [← hX]; exact IntWalk.i64_in _ (by omega)
      have hw4 : IntKind.i64.wrap (y + dq + Z) = y + dq + Z := IntWalk.i64_in _ (by omega)
      have hq1 : X.tdiv 100 = Z := by rw [hZ, Int.tdiv_eq_ediv_of_nonneg hX1]
      have hq2 : IntKind.i64.wrap Z = Z := IntWalk.i64_in _ (by omega)
      have hmu : (m : Int) < (N : Int) + 1 := by omega
      have hku : (k : Int) < (N : Int) + 1 := by omega
      have hm0 : (0 : Int) ≤ (m : Int) := by omega
      have hk0 : (0 : Int) ≤ (k : Int) := by omega
      have HSH := Lib.hid hsh
      have HRN9 : Hid (BK (wq.setCell ⟨w9.heap.size, m, none⟩ (.int .i64 (y + dq + Z))) w9.heap.size 3 (blkI (runK N (runV S R us) m))) := by
        have h1 := hRun9.set_ m (.int .i64 (y + dq + Z))
        rw [blkI_set, ← HST.out] at h1
        have h2 := runK_set (v := runV S R us) (k := k) (N := N) (by omega)
        rw [← HM.out] at h2
        rw [h2] at h1
        rw [← HST.out]
        exact h1
      clear hX hZ hy hsh hX1 hX2 hd hb1 hb2 hD1 hRun9
      by_cases hlu : k < un
      · have hkl : k < us.length := by rw [← HLU.out]; exact hlu
        have hB9 := hB9.trans (hb9.mono hza)
        obtain ⟨bu, ou, hA, hbB, e0⟩ := IS.at_ (HU.out.grow hB9 hB9.size) (k := k) hkl
        have HS0 : Hid (sh = min 100 (max 0 (us[k]'hkl))) := by show _ = _; rw [HSH.out]; unfold shareAt; rw [List.getElem?_eq_getElem hkl]
        generalize us[k]'hkl = s0 at e0 HS0
        clear hkl
        obtain ⟨M0, hM0⟩ : ∃ M0, M0 = max 0 s0 := ⟨_, rfl⟩
        have hi1 : (if 0 < s0 then s0 else 0) = M0 := by rw [hM0, Int.max_def]; split <;> split <;> omega
        have hi2 : (if M0 < 100 then M0 else 100) = sh := by rw [HS0.out, ← hM0, Int.min_def]; split <;> split <;> omega
        clear hM0
        have gu : decide (k < un) = true := decide_eq_true hlu
        have gu2 : decide ((k : Int) < (un : Int)) = true := decide_eq_true (by omega)
        have hku2 : (k : Int) < (un : Int) := by omega
        clear hsb
        subst hA
        go_wp2_with fail
        go_roundw
        case rel => exact ⟨m, hmN, by go_num, HRN9.out, hb9.setCell (p := ⟨w9.heap.size, m, none⟩) (Nat.le_refl _) _, HRN9.out.lt⟩
        case measure => have := HM.out; simp [intOf]; omega
      · have HS0 : Hid (sh = 0) := by show _ = _; rw [HSH.out]; unfold shareAt; rw [List.getElem?_eq_none (by rw [← HLU.out]; omega)]
        have gu : decide (k < un) = false := decide_eq_false hlu
        have gu2 : decide ((k : Int) < (un : Int)) = false := decide_eq_false (by omega)
        obtain rfl : sh = 0 := HS0.out
        have hX0 : X = 0 := by rw [← hw3, Int.mul_zero]; rfl
        obtain rfl : X = 0 := hX0
        obtain rfl : Z = 0 := by omega
        have HRN8 := HRN9
        rw [Int.add_zero] at HRN8
        clear hsb hw3 hq1 hq2 HRN9 hw4
        have HRN9 := HRN8
        go_wp2_with fail
        go_roundw
        case rel => exact ⟨m, hmN, by go_num, HRN9.out, hb9.setCell (p := ⟨w9.heap.size, m, none⟩) (Nat.le_refl _) _, HRN9.out.lt⟩
        case measure => have := HM.out; simp [intOf]; omega
    obtain rfl : N = k := by omega
    have hRun2 := hRun
    rw [runK_N] at hRun2
    have hRL : SL iC 1 wr wr.heap.size (some ⟨w9.heap.size, 0, none⟩) (N + 1) (runL N (runV S R us)) := by
      have := sl_ints (runL N (runV S R us)) hRun2 hlr
      rw [runL_len] at this
      exact this
    have HRL := Lib.hid hRL
    have HSLr := Lib.hid (HSL.out.grow hbr hbr.size)
    have hxz := HRN.out.bd HS.out HV.out (b := 0) (Nat.zero_le N)
    clear hRun hRun2 hRL hxz
    have x0 := hXr.cell 0
    have x1 := hXr.cell 1
    have x2 := hXr.cell 2
    have y0 := hYr.cell 0
    have y1 := hYr.cell 1
    have y2 := hYr.cell 2
    have y3 := hYr.cell 3
    simp only [List.getElem?_toArray, List.getElem?_cons_zero, List.getElem?_cons_succ] at x0 x1 x2 y0 y1 y2 y3
    go_wp2_with fail
    clear x0 x1 x2 y0 y1 y2 y3
    have HFA : Hid (fitAll S R [] (runL N (runV S R us)) = (true, 0)) := by
      show _ = _
      rw [fitAll_ok (by unfold fitOkB; rw [HVS.out, pB_ok ⟨Nat.zero_le _, fun i hi => absurd hi (Nat.not_lt_zero _)⟩, runL_len, HN.out, Int.toNat_natCast, decide_eq_true rfl]; rfl), runs_fit HRN.out]
    have HRG : Hid (∀ x ∈ runL N (runV S R us), -9223372036854775808 ≤ x ∧ x ≤ 9223372036854775807) := by
      intro x hx
      obtain ⟨i, hi, rfl⟩ := List.getElem_of_mem hx
      rw [runL_len] at hi
      have h1 := HRN.out.bd HS.out HV.out (b := i) (by omega)
      have h2 : (runL N (runV S R us))[i]? = some (runV S R us i) := runL_at (by omega)
      rw [List.getElem?_eq_getElem (by rw [runL_len]; omega)] at h2
      rw [Option.some.inj h2]
      omega
    refine (Fits_all pa pn pc ca cn cc ja jn jc R ra rn rc sa sn sc S none 0 0 [] (some ⟨w9.heap.size, 0, none⟩) (N + 1) (N + 1) (runL N (runV S R us)) _ (HR.out.grow hBr hBr.size) (HD.out.grow hBr hBr.size) SL.nil_ HRL.out (by omega) (by omega) HRG.out).mono ?_
    rintro e w20 ⟨rfl, hk⟩
    rw [HFA.out]
    dsimp only
    have HSL20 := Lib.hid (HSLr.out.grow hk hk.size)
    have HRL20 := Lib.hid (HRL.out.grow hk hk.size)
    clear HRG HFA HSLr HRL
    have hB20 := hBr.trans (hk.mono hBr.size)
    have hX20 := hXr.below hk hXr.lt
    have hY20 := hYr.below hk hYr.lt
    clear hXr hYr hBr hk
    have x0 := hX20.cell 0
    have x1 := hX20.cell 1
    have x2 := hX20.cell 2
    have y0 := hY20.cell 0
    have y1 := hY20.cell 1
    have y2 := hY20.cell 2
    have y3 := hY20.cell 3
    simp only [List.getElem?_toArray, List.getElem?_cons_zero, List.getElem?_cons_succ] at x0 x1 x2 y0 y1 y2 y3
    go_wp2_with fail
    clear x0 x1 x2 y0 y1 y2 y3
    have HSA : Hid (saidAll R cs ls (runL N (runV S R us)) = (saidL cs ls (runL N (runV S R us)) cs.length, 0)) := by
      show _ = _
      rw [saidAll_ok (by unfold saidOkB; rw [(val_iff R).2 HV.out, cB_ok HC.out, trB_ok HT1.out, HN.out, Int.toNat_natCast, trB_ok (runs_tok HRN.out HS.out HV.out)]; rfl)]
    have hnb : ln ≤ 100000 := by rw [HSL20.out.1, HT1.out.l, ← HLK.out]; omega
    refine (Said_all pa pn pc ca cn cc ja jn jc R ka kn kc cs la ln lc ls (some ⟨w9.heap.size, 0, none⟩) (N + 1) (N + 1) (runL N (runV S R us)) w20 (HR.out.grow hB20 hB20.size) (HK.out.grow hB20 hB20.size) HSL20.out HRL20.out (by omega) hnb (by omega)).mono ?_
    rintro e w21 ⟨A3, n3, c3, rfl, hQ21, hk⟩
    rw [HSA.out] at hQ21 ⊢
    dsimp only at hQ21 ⊢
    obtain rfl : kn = n3 := by rw [hQ21.1, saidL_len]; exact HLK.out
    have HSL21 := Lib.hid (HSL20.out.grow hk hk.size)
    have HRL21 := Lib.hid (HRL20.out.grow hk hk.size)
    have HQ21 := Lib.hid hQ21
    clear HSA HSL20 HRL20 hQ21
    have hB21 := hB20.trans (hk.mono hB20.size)
    have hX21 := hX20.below hk hX20.lt
    have hY21 := hY20.below hk hY20.lt
    clear hX20 hY20 hB20 hk
    have x0 := hX21.cell 0
    have x1 := hX21.cell 1
    have x2 := hX21.cell 2
    have y0 := hY21.cell 0
    have y1 := hY21.cell 1
    have y2 := hY21.cell 2
    have y3 := hY21.cell 3
    simp only [List.getElem?_toArray, List.getElem?_cons_zero, List.getElem?_cons_succ] at x0 x1 x2 y0 y1 y2 y3
    go_wp2_with fail
    clear x0 x1 x2 y0 y1 y2 y3
    refine (R3Trig_any ka kn kc la ln lc ls pa pn pc ca cn cc ja jn jc R w21 (HR.out.grow hB21 hB21.size) HV.out HSL21.out hnb).mono ?_
    rintro e w22 ⟨rfl, hk⟩
    have htt : trB (sumL R.ps) kn ls = true := by rw [HLK.out]; exact trB_ok HT1.out
    rw [htt]
    have HSL22 := Lib.hid (HSL21.out.grow hk hk.size)
    have HRL22 := Lib.hid (HRL21.out.grow hk hk.size)
    have HQ22 := Lib.hid (HQ21.out.grow hk hk.size)
    clear htt HSL21 HRL21 HQ21
    have hB22 := hB21.trans (hk.mono hB21.size)
    have hX22 := hX21.below hk hX21.lt
    have hY22 := hY21.below hk hY21.lt
    clear hX21 hY21 hB21 hk
    go_wp2_with fail
    have hz22 := hB22.size
    go_loopw [26] (fun i wx => ∃ k : Nat, k ≤ kn ∧ i = .int .i64 k ∧ Below w22.heap.size w22 wx)
      (fun i _ => kn - (intOf i).toNat)
    case atStart => exact ⟨0, Nat.zero_le _, rfl, Below.refl _ _⟩
    case round =>
      obtain ⟨k, hk, rfl, hbx⟩ := hrel
      have hBx := hB22.trans (hbx.mono hz22)
      by_cases hlt : k < kn
      case neg =>
        obtain rfl : k = kn := by omega
        go_wp2_with fail
        have hBX := hBx
        refine (known_any _).mono ?_
        rintro e w9 ⟨rfl, hk⟩
        go_wp2_with fail
        go_ret
        exact ⟨rfl, hBX.trans (hk.mono hBX.size)⟩
      have hkl : k < cs.length := by rw [← HLK.out]; exact hlt
      obtain ⟨q, z, h1, h2, hqN, hzN, h3, h4⟩ := heard HS.out HV.out HN.out HC.out HT1.out HRN.out HG1.out hkl
      have hll : k < (ls).length := by rw [HT1.out.l]; exact hkl
      have hsl : k < (saidL cs ls (runL N (runV S R us)) cs.length).length := by rw [saidL_len]; exact hkl
      have hql : q < (runL N (runV S R us)).length := by rw [runL_len]; omega
      have hzl : z < (runL N (runV S R us)).length := by rw [runL_len]; omega
      obtain ⟨b1, o1, hA1, _, d0⟩ := IS.at_ (HQ22.out.grow hbx hbx.size) (k := k) hsl
      obtain ⟨b2, o2, hA2, _, e0, e1, e2, e3, e4⟩ := KS5.at_ (HK.out.grow hBx hBx.size) (k := k) hkl
      obtain ⟨b3, o3, hA3, _, f0⟩ := IS.at_ (HRL22.out.grow hbx hbx.size) (k := z) hzl
      obtain ⟨b4, o4, hA4, _, f1⟩ := IS.at_ (HRL22.out.grow hbx hbx.size) (k := q) hql
      obtain ⟨b5, o5, hA5, _, g0⟩ := IS.at_ (HSL22.out.grow hbx hbx.size) (k := k) hll
      rw [Option.some.inj ((List.getElem?_eq_getElem hsl).symm.trans (saidL_at hkl))] at d0
      rw [Option.some.inj ((List.getElem?_eq_getElem hzl).symm.trans (runL_at hzN))] at f0
      rw [Option.some.inj ((List.getElem?_eq_getElem hql).symm.trans (runL_at hqN))] at f1
      rw [Option.some.inj ((List.getElem?_eq_getElem hll).symm.trans h1)] at g0
      rw [h2] at e0
      have hbd := kAt_bd HC.out hkl
      have heb := end_in (ls := ls) HC.out (runs_tok HRN.out HS.out HV.out) (k := k + 1) (by omega)
      have hvz := HRN.out.bd HS.out HV.out hzN
      have hvq := HRN.out.bd HS.out HV.out hqN
      generalize cs[k]'hkl = x at e0 e1 e2 e3 e4 h2 h3 h4 hbd
      generalize endAt cs ls (runL N (runV S R us)) (k + 1) = E at d0 h3 heb
      generalize runV S R us z = vz at f0 h3 h4 hvz
      generalize runV S R us q = vq at f1 h4 hvq
      obtain ⟨-, -, ⟨p5, p6⟩, -⟩ := hbd
      rw [show maxM = 1125899906842624 from rfl] at p6
      have hw1 : IntKind.i64.wrap (E + x.lead) = E + x.lead := IntWalk.i64_in _ (by omega)
      have hw2 : IntKind.i64.wrap (vz - vq) = vz - vq := IntWalk.i64_in _ (by omega)
      have g1 : decide (vz < IntKind.i64.wrap (E + x.lead)) = false := by rw [hw1]; exact decide_eq_false (by omega)
      have g2 : decide (x.ahead < IntKind.i64.wrap (vz - vq)) = false := by rw [hw2]; exact decide_eq_false (by omega)
      have hi1 : (0 : Int) ≤ (k : Int) := by omega
      have hi2 : (k : Int) < (kn : Int) := by omega
      have hi3 : (0 : Int) ≤ (q : Int) := by omega
      have hi4 : (q : Int) < (N : Int) + 1 := by omega
      have hi5 : (0 : Int) ≤ (z : Int) := by omega
      have hi6 : (z : Int) < (N : Int) + 1 := by omega
      have hi7 : (k : Int) < (ln : Int) := by have := HSL22.out.1; have := HT1.out.l; have := HLK.out; omega
      clear hw1 hw2 h1 h2 h3 h4 hkl hll hsl hql hzl heb hvz hvq
      subst hA1
      subst hA2
      cases hA3
      cases hA4
      rw [Nat.zero_add] at f0 f1
      subst hA5
      go_wp2_with fail
      go_quiet (fail)
      go_wp2_with fail
      go_roundw
      case rel => exact ⟨k + 1, by omega, by go_num, below_drewN hbx _⟩
      case measure => simp [intOf]; omega
end Go.Proofs.YtijcbfhlhgjedaaDoor
