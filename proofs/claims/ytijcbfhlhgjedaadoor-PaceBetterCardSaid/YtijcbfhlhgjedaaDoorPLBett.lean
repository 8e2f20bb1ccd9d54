/- The law function PaceBetter, walked: it returns true. -/
import Derived.Test.YtijcbfhlhgjedaaDoorPKnown3
import Derived.Test.YtijcbfhlhgjedaaDoorPCBBase
import Derived.Test.YtijcbfhlhgjedaaDoorPCBRoad
import Derived.Test.YtijcbfhlhgjedaaDoorPCBLeaf
import Derived.Test.YtijcbfhlhgjedaaDoorPCBCheck
import Derived.Test.YtijcbfhlhgjedaaDoorPCBValid
import Derived.Test.YtijcbfhlhgjedaaDoorPCBFind
import Derived.Test.YtijcbfhlhgjedaaDoorPCBReg
import Derived.Test.YtijcbfhlhgjedaaDoorPCBGrouped
import Derived.Test.YtijcbfhlhgjedaaDoorPCBPG
import Derived.Test.YtijcbfhlhgjedaaDoorPCBBackM
import Derived.Test.YtijcbfhlhgjedaaDoorPCBStr
import Derived.Test.YtijcbfhlhgjedaaDoorPCBOpen
import Derived.Test.YtijcbfhlhgjedaaDoorPCBReg7
import Derived.Test.YtijcbfhlhgjedaaDoorPCSpd
import Derived.Test.YtijcbfhlhgjedaaDoorPCPRow
import Derived.Test.YtijcbfhlhgjedaaDoorPCMtr
import Derived.Test.YtijcbfhlhgjedaaDoorPCReg8
import Derived.Test.YtijcbfhlhgjedaaDoorPCSpCk
import Derived.Test.YtijcbfhlhgjedaaDoorPCPlanM
import Derived.Test.YtijcbfhlhgjedaaDoorPCLast
import Derived.Test.YtijcbfhlhgjedaaDoorPCBeg
import Derived.Test.YtijcbfhlhgjedaaDoorPCBegB
import Derived.Test.YtijcbfhlhgjedaaDoorPCRoom
import Derived.Test.YtijcbfhlhgjedaaDoorPCCallsB
import Derived.Test.YtijcbfhlhgjedaaDoorPCPlan
import Derived.Test.YtijcbfhlhgjedaaDoorPCBetw
import Derived.Test.YtijcbfhlhgjedaaDoorPCKn03P
import Derived.Test.YtijcbfhlhgjedaaDoorPCRef3
import Derived.Test.YtijcbfhlhgjedaaDoorPCRCallsB
import Derived.Test.YtijcbfhlhgjedaaDoorPCOpenK
import Derived.Test.YtijcbfhlhgjedaaDoorPResu
import Derived.Test.YtijcbfhlhgjedaaDoorPRLeft
namespace Go.Proofs.YtijcbfhlhgjedaaDoor
open Go.RowKit Go.Shelf Go.Sort Go.Proofs

set_option maxRecDepth 100000 in
set_option maxHeartbeats 8000000 in
theorem LBetter_walk (q : Int) (pa : Option Addr) (pn pc : Nat) (ca : Option Addr) (cn cc : Nat) (ja : Option Addr) (jn jc : Nat) (R : Road) (ra : Option Addr) (rn rc : Nat) (sa : Option Addr) (sn sc : Nat) (S : Spd) (ka : Option Addr) (kn kc : Nat) (cs : List CallR) (ua : Option Addr) (un uc : Nat) (us : List Int) (w : World)
    (h : RD w w.heap.size pa pn ca cn ja jn R) (hD : SD w w.heap.size ra rn sa sn S) (hK : SL caC 5 w w.heap.size ka kn cs) (hU : SL iC 1 w w.heap.size ua un us) (hmx : pn ≤ 9223372036854775807) (hcap : kn ≤ kc) :
    Calls Tryd.prog 14 #[.agg #[.slice pa pn pc, .slice ca cn cc, .slice ja jn jc], .agg #[.int .i64 S.least, .int .i64 S.most, .slice ra rn rc, .slice sa sn sc], .slice ka kn kc, .int .i64 q, .slice ua un uc] w fun e w' => e = .returned (.bool true) ∧ Below w.heap.size w w' := by
  have HLK := Lib.hid hK.1
  have HLU := Lib.hid hU.1
  have HR := Lib.hid h
  have HD := Lib.hid hD
  have HK := Lib.hid hK
  have HU := Lib.hid hU
  clear h hD hK hU
  obtain ⟨w0, hw0⟩ : ∃ w0, w0 = (w.alloc (.cells #[.slice pa pn pc, .slice ca cn cc, .slice ja jn jc] 26)).alloc (.cells #[.int .i64 S.least, .int .i64 S.most, .slice ra rn rc, .slice sa sn sc] 30) := ⟨_, rfl⟩
  have hB0 : Below w.heap.size w w0 := by rw [hw0]; exact ((Below.refl w.heap.size w).alloc (Nat.le_refl _) _).alloc (by simp) _
  have hX0 : BK w0 (w.heap.size) 26 #[.slice pa pn pc, .slice ca cn cc, .slice ja jn jc] := by rw [hw0]; exact ((BK.new w 26 #[.slice pa pn pc, .slice ca cn cc, .slice ja jn jc])).alloc _
  have hY0 : BK w0 (w.heap.size + 1) 30 #[.int .i64 S.least, .int .i64 S.most, .slice ra rn rc, .slice sa sn sc] := by rw [hw0]; have := BK.new (w.alloc (.cells #[.slice pa pn pc, .slice ca cn cc, .slice ja jn jc] 26)) 30 #[.int .i64 S.least, .int .i64 S.most, .slice ra rn rc, .slice sa sn sc]; rw [World.size_alloc] at this; exact this
  go_enter Tryd.func14, Tryd.ntmps14
  go_wp2_with fail
  rw [← hw0]
  clear hw0
  have x0 := hX0.cell 0
  have x1 := hX0.cell 1
  have x2 := hX0.cell 2
  have y0 := hY0.cell 0
  have y1 := hY0.cell 1
  have y2 := hY0.cell 2
  have y3 := hY0.cell 3
  simp only [List.getElem?_toArray, List.getElem?_cons_zero, List.getElem?_cons_succ] at x0 x1 x2 y0 y1 y2 y3
  go_wp2_with fail
  clear x0 x1 x2 y0 y1 y2 y3
  refine (few_any pa pn pc ca cn cc ja jn jc R w0 (HR.out.grow hB0 hB0.size) hmx).mono ?_
  rintro e w1 ⟨rfl, hk⟩
  have hB1 := hB0.trans (hk.mono hB0.size)
  have hX1 := hX0.below hk hX0.lt
  have hY1 := hY0.below hk hY0.lt
  clear hX0 hY0 hB0 hk
  cases hfew : fewB R
  case false =>
    go_wp2_with fail
    have hBX := hB1
    refine (known_any _).mono ?_
    rintro e w9 ⟨rfl, hk⟩
    go_wp2_with fail
    go_ret
    exact ⟨rfl, hBX.trans (hk.mono hBX.size)⟩
  have x0 := hX1.cell 0
  have x1 := hX1.cell 1
  have x2 := hX1.cell 2
  have y0 := hY1.cell 0
  have y1 := hY1.cell 1
  have y2 := hY1.cell 2
  have y3 := hY1.cell 3
  simp only [List.getElem?_toArray, List.getElem?_cons_zero, List.getElem?_cons_succ] at x0 x1 x2 y0 y1 y2 y3
  go_wp2_with fail
  clear x0 x1 x2 y0 y1 y2 y3
  refine (quick_any3 ra rn rc sa sn sc S w1 (HD.out.grow hB1 hB1.size)).mono ?_
  rintro e w2 ⟨rfl, hk⟩
  have hB2 := hB1.trans (hk.mono hB1.size)
  have hX2 := hX1.below hk hX1.lt
  have hY2 := hY1.below hk hY1.lt
  clear hX1 hY1 hB1 hk
  cases hqu : quickB S
  case false =>
    go_wp2_with fail
    have hBX := hB2
    refine (known_any _).mono ?_
    rintro e w9 ⟨rfl, hk⟩
    go_wp2_with fail
    go_ret
    exact ⟨rfl, hBX.trans (hk.mono hBX.size)⟩
  by_cases gl0 : kn ≤ 40
  case neg =>
    have gl : decide ((40 : Int) < (kn : Int)) = true := decide_eq_true (by omega)
    have x0 := hX2.cell 0
    have x1 := hX2.cell 1
    have x2 := hX2.cell 2
    have y0 := hY2.cell 0
    have y1 := hY2.cell 1
    have y2 := hY2.cell 2
    have y3 := hY2.cell 3
    simp only [List.getElem?_toArray, List.getElem?_cons_zero, List.getElem?_cons_succ] at x0 x1 x2 y0 y1 y2 y3
    go_wp2_with fail
    have hBX := hB2
    refine (known_any _).mono ?_
    rintro e w9 ⟨rfl, hk⟩
    go_wp2_with fail
    go_ret
    exact ⟨rfl, hBX.trans (hk.mono hBX.size)⟩
  have gl : decide ((40 : Int) < (kn : Int)) = false := decide_eq_false (by omega)
  by_cases gm0 : un ≤ 60
  case neg =>
    have gm : decide ((60 : Int) < (un : Int)) = true := decide_eq_true (by omega)
    have x0 := hX2.cell 0
    have x1 := hX2.cell 1
    have x2 := hX2.cell 2
    have y0 := hY2.cell 0
    have y1 := hY2.cell 1
    have y2 := hY2.cell 2
    have y3 := hY2.cell 3
    simp only [List.getElem?_toArray, List.getElem?_cons_zero, List.getElem?_cons_succ] at x0 x1 x2 y0 y1 y2 y3
    go_wp2_with fail
    have hBX := hB2
    refine (known_any _).mono ?_
    rintro e w9 ⟨rfl, hk⟩
    go_wp2_with fail
    go_ret
    exact ⟨rfl, hBX.trans (hk.mono hBX.size)⟩
  have gm : decide ((60 : Int) < (un : Int)) = false := decide_eq_false (by omega)
  clear hfew hqu
  have x0 := hX2.cell 0
  have x1 := hX2.cell 1
  have x2 := hX2.cell 2
  have y0 := hY2.cell 0
  have y1 := hY2.cell 1
  have y2 := hY2.cell 2
  have y3 := hY2.cell 3
  simp only [List.getElem?_toArray, List.getElem?_cons_zero, List.getElem?_cons_succ] at x0 x1 x2 y0 y1 y2 y3
  go_wp2_with fail
  clear x0 x1 x2 y0 y1 y2 y3
  refine (fine_any pa pn pc ca cn cc ja jn jc R ra rn rc sa sn sc S w2 (HR.out.grow hB2 hB2.size) (HD.out.grow hB2 hB2.size)).mono ?_
  rintro e w3 ⟨rfl, hk⟩
  have hB3 := hB2.trans (hk.mono hB2.size)
  have hX3 := hX2.below hk hX2.lt
  have hY3 := hY2.below hk hY2.lt
  clear hX2 hY2 hB2 hk
  cases hvs : val R && spB S
  case false =>
    go_wp2_with fail
    have hBX := hB3
    refine (known_any _).mono ?_
    rintro e w9 ⟨rfl, hk⟩
    go_wp2_with fail
    go_ret
    exact ⟨rfl, hBX.trans (hk.mono hBX.size)⟩
  have HVS := Lib.hid hvs
  have HV : Hid (OK R) := by have := hvs; rw [Bool.and_eq_true] at this; exact (val_iff R).1 this.1
  have HS : Hid (SOK S) := by have := hvs; rw [Bool.and_eq_true] at this; exact (spB_iff S).1 this.2
  clear hvs
  have x0 := hX3.cell 0
  have x1 := hX3.cell 1
  have x2 := hX3.cell 2
  have y0 := hY3.cell 0
  have y1 := hY3.cell 1
  have y2 := hY3.cell 2
  have y3 := hY3.cell 3
  simp only [List.getElem?_toArray, List.getElem?_cons_zero, List.getElem?_cons_succ] at x0 x1 x2 y0 y1 y2 y3
  go_wp2_with fail
  clear x0 x1 x2 y0 y1 y2 y3
  refine (RLeft_any q pa pn pc ca cn cc ja jn jc R ka kn kc cs w3 (HR.out.grow hB3 hB3.size) HV.out (HK.out.grow hB3 hB3.size) (by omega)).mono ?_
  rintro e w4 ⟨rfl, hk⟩
  have hB4 := hB3.trans (hk.mono hB3.size)
  have hX4 := hX3.below hk hX3.lt
  have hY4 := hY3.below hk hY3.lt
  clear hX3 hY3 hB3 hk
  cases hrm : remB (sumL R.ps) cs q
  case false =>
    go_wp2_with fail
    have hBX := hB4
    refine (known_any _).mono ?_
    rintro e w9 ⟨rfl, hk⟩
    go_wp2_with fail
    go_ret
    exact ⟨rfl, hBX.trans (hk.mono hBX.size)⟩
  have HRM := Lib.hid hrm
  have HRO := Lib.hid ((remB_iff _ _ _).1 hrm)
  have HC : Hid (COK (sumL R.ps) cs) := HRO.out.c
  clear hrm
  have HOK : Hid ((val R && spB S && remB (sumL R.ps) cs q) = true) := by show _ = _; rw [HVS.out, HRM.out]; rfl
  have HR0 : Hid (remB (sumL R.ps) cs 0 = true) := (remB_iff _ _ _).2 ⟨⟨Int.le_refl _, by have := HRO.out.a; omega⟩, HRO.out.c, HRO.out.l, fun c hc => by
    have := (HRO.out.c.k 0 (List.getElem?_eq_some_iff.1 hc).1 c hc).1
    simp only [inR, Bool.and_eq_true, decide_eq_true_eq] at this
    exact this.1⟩
  have x0 := hX4.cell 0
  have x1 := hX4.cell 1
  have x2 := hX4.cell 2
  have y0 := hY4.cell 0
  have y1 := hY4.cell 1
  have y2 := hY4.cell 2
  have y3 := hY4.cell 3
  simp only [List.getElem?_toArray, List.getElem?_cons_zero, List.getElem?_cons_succ] at x0 x1 x2 y0 y1 y2 y3
  go_wp2_with fail
  clear x0 x1 x2 y0 y1 y2 y3
  clear gl gm
  refine (Resume_all q pa pn pc ca cn cc ja jn jc R ra rn rc sa sn sc S ka kn kc cs w4 (HR.out.grow hB4 hB4.size) (HD.out.grow hB4 hB4.size) (HK.out.grow hB4 hB4.size) (by omega) hcap).mono ?_
  rintro e w5 ⟨A, n, c, G, er, rfl, hG, hres, hk⟩
  have hB5 := hB4.trans (hk.mono hB4.size)
  have hX5 := hX4.below hk hX4.lt
  have hY5 := hY4.below hk hY4.lt
  clear hX4 hY4 hB4 hk
  unfold resP at hres
  rw [HOK.out, if_pos rfl] at hres
  obtain ⟨rfl, hgr⟩ := hres
  obtain ⟨hb1, hb2⟩ := better hgr
  obtain ⟨B, hB⟩ : ∃ B, B = bv (qS S R) q cs 0 := ⟨_, rfl⟩
  rw [← hB] at hb1 hb2
  have HE1 : Hid (itAll S R cs q G = (B, true)) := by show _ = _; rw [itAll_ok HOK.out, hb1]; rfl
  have HB2 := Lib.hid hb2
  have HG5 := Lib.hid hG
  clear hgr hb1 hb2 hB hG
  have x0 := hX5.cell 0
  have x1 := hX5.cell 1
  have x2 := hX5.cell 2
  have y0 := hY5.cell 0
  have y1 := hY5.cell 1
  have y2 := hY5.cell 2
  have y3 := hY5.cell 3
  simp only [List.getElem?_toArray, List.getElem?_cons_zero, List.getElem?_cons_succ] at x0 x1 x2 y0 y1 y2 y3
  go_wp2_with fail
  clear x0 x1 x2 y0 y1 y2 y3
  refine (InTime_all q pa pn pc ca cn cc ja jn jc R ra rn rc sa sn sc S ka kn kc cs A n c G w5 (HR.out.grow hB5 hB5.size) (HD.out.grow hB5 hB5.size) (HK.out.grow hB5 hB5.size) HG5.out (by omega)).mono ?_
  rintro e w6 ⟨rfl, hk⟩
  rw [HE1.out]
  dsimp only
  have HG6 := Lib.hid (HG5.out.grow hk hk.size)
  have hB6 := hB5.trans (hk.mono hB5.size)
  have hX6 := hX5.below hk hX5.lt
  have hY6 := hY5.below hk hY5.lt
  clear hX5 hY5 hB5 hk
  clear HG5 HE1
  have x0 := hX6.cell 0
  have x1 := hX6.cell 1
  have x2 := hX6.cell 2
  have y0 := hY6.cell 0
  have y1 := hY6.cell 1
  have y2 := hY6.cell 2
  have y3 := hY6.cell 3
  simp only [List.getElem?_toArray, List.getElem?_cons_zero, List.getElem?_cons_succ] at x0 x1 x2 y0 y1 y2 y3
  go_wp2_with fail
  clear x0 x1 x2 y0 y1 y2 y3
  refine (InTime_all q pa pn pc ca cn cc ja jn jc R ra rn rc sa sn sc S ka kn kc cs ua un uc us w6 (HR.out.grow hB6 hB6.size) (HD.out.grow hB6 hB6.size) (HK.out.grow hB6 hB6.size) (HU.out.grow hB6 hB6.size) (by omega)).mono ?_
  rintro e w7 ⟨rfl, hk⟩
  rw [itAll_ok HOK.out]
  have HG7 := Lib.hid (HG6.out.grow hk hk.size)
  have hB7 := hB6.trans (hk.mono hB6.size)
  have hX7 := hX6.below hk hX6.lt
  have hY7 := hY6.below hk hY6.lt
  clear hX6 hY6 hB6 hk
  clear HG6
  cases hit : itC (qS S R) q cs us 0 0 0 with
  | none =>
    clear hit
    dsimp only [itRes]
    as_aux_lemma =>
      go_wp2_with fail
      have hzz := hB7.size
      have HZ0 := Lib.hid hzz
      go_loopw [17, 18] (fun oo ii wr => ∃ (k : Nat) (A' : Option Addr) (n' c' : Nat), k ≤ kn ∧ ii = .int .i64 k ∧ oo = .slice A' n' c' ∧ n' ≤ k ∧ OW iC 1 3 w7.heap.size wr A' n' c' (allL k) ∧ Below w7.heap.size w7 wr)
        (fun _ ii _ => kn - (intOf ii).toNat)
      case atStart => exact ⟨0, none, 0, 0, Nat.zero_le _, rfl, rfl, Nat.le_refl _, OW.nil_, Below.refl _ _⟩
      case round =>
        obtain ⟨k, A', n', c', hk9, rfl, rfl, hnk, hO, hbr⟩ := hrel
        by_cases hlt : k < kn
        case pos =>
          have hNew : BK (wr.alloc (.cells #[.int .i64 (k : Int)] 3)) wr.heap.size 3 #[.int .i64 (k : Int)] := BK.new wr _ _
          have hzr := hbr.size
          have HAL : Hid (allL (k + 1) = allL k ++ [(k : Int)]) := allL_succ k
          have gk : decide ((k : Int) < (kn : Int)) = true := decide_eq_true (by omega)
          have gkN : decide (k < kn) = true := decide_eq_true hlt
          go_wp2_with (at_builtin; refine wpList_app rfl _ _ 28 rfl w7.heap.size 3 _ 1 8 Tryd.underlying28 infoI rfl (by decide) iC A' n' c' (allL k) rfl (hO.alloc _) (k : Int) #[.int .i64 (k : Int)] rfl rfl 3 wr.heap.size rfl hNew (by simp [iC, Value.oneCell']) (by omega) (by omega) (by simp; omega) ?_; intro g' c' w8 hap; have HAP := Lib.hid hap; clear hap)
          have hbN := (hbr.alloc (by omega) (.cells #[.int .i64 (k : Int)] 3)).trans HAP.out.bel
          go_roundw
          case rel => exact ⟨k + 1, some ⟨g', 0, none⟩, n' + 1, c', by omega, by go_num, rfl, by omega, by rw [HAL.out]; exact HAP.out.own, hbN⟩
          case measure => simp [intOf]; omega
        obtain rfl : kn = k := by omega
        obtain ⟨wE, hwE⟩ : ∃ wE, wE = wr := ⟨_, rfl⟩
        rw [← hwE] at hO hbr ⊢
        have hBE := hB7.trans (hbr.mono hzz)
        have hXE := hX7.below hbr hX7.lt
        have hYE := hY7.below hbr hY7.lt
        have HSA := Lib.hid (hO.sl (fun _ => rfl))
        clear hO hbr hwE hlt
        have x0 := hXE.cell 0
        have x1 := hXE.cell 1
        have x2 := hXE.cell 2
        have y0 := hYE.cell 0
        have y1 := hYE.cell 1
        have y2 := hYE.cell 2
        have y3 := hYE.cell 3
        simp only [List.getElem?_toArray, List.getElem?_cons_zero, List.getElem?_cons_succ] at x0 x1 x2 y0 y1 y2 y3
        go_wp2_with fail
        clear x0 x1 x2 y0 y1 y2 y3
        refine (InTime_all 0 pa pn pc ca cn cc ja jn jc R ra rn rc sa sn sc S ka kn kc cs A' n' c' (allL kn) wE (HR.out.grow hBE hBE.size) (HD.out.grow hBE hBE.size) (HK.out.grow hBE hBE.size) HSA.out (by omega)).mono ?_
        rintro e w8 ⟨rfl, hk⟩
        rw [itAll_ok (by rw [HVS.out, HR0.out]; rfl)]
        have hB8 := hBE.trans (hk.mono hBE.size)
        have hX8 := hXE.below hk hXE.lt
        have hY8 := hYE.below hk hYE.lt
        clear hXE hYE hBE hk
        cases hev : itC (qS S R) 0 cs (allL kn) 0 0 0 with
        | none =>
          clear hev
          dsimp only [itRes]
          have x0 := hX8.cell 0
          have x1 := hX8.cell 1
          have x2 := hX8.cell 2
          have y0 := hY8.cell 0
          have y1 := hY8.cell 1
          have y2 := hY8.cell 2
          have y3 := hY8.cell 3
          simp only [List.getElem?_toArray, List.getElem?_cons_zero, List.getElem?_cons_succ] at x0 x1 x2 y0 y1 y2 y3
          go_wp2_with fail
          clear x0 x1 x2 y0 y1 y2 y3
          refine (Plan_any pa pn pc ca cn cc ja jn jc R ra rn rc sa sn sc S ka kn kc cs w8 (HR.out.grow hB8 hB8.size) (HD.out.grow hB8 hB8.size) (HK.out.grow hB8 hB8.size) HV.out HS.out HC.out).mono ?_
          rintro e w9 ⟨A9, n9, c9, rfl, -, hk⟩
          have hB9 := hB8.trans (hk.mono hB8.size)
          have hX9 := hX8.below hk hX8.lt
          have hY9 := hY8.below hk hY8.lt
          clear hX8 hY8 hB8 hk
          generalize (planR (qS S R) (sS S R) cs).2.1.first = cf at *
          generalize (planR (qS S R) (sS S R) cs).2.1.last = cl at *
          generalize (planR (qS S R) (sS S R) cs).2.1.early = ce at *
          generalize (planR (qS S R) (sS S R) cs).2.2 = er at *
          have hU9 := BK.new w9 58 #[.int .i64 cf, .int .i64 cl, .bool ce]
          have u0 := hU9.cell 0
          have u1 := hU9.cell 1
          have u2 := hU9.cell 2
          simp only [List.getElem?_toArray, List.getElem?_cons_zero, List.getElem?_cons_succ] at u0 u1 u2
          go_wp2_with fail
          have hBX := hB9.alloc hB9.size (.cells #[.int .i64 cf, .int .i64 cl, .bool ce] 58)
          refine (known_any _).mono ?_
          rintro e w9 ⟨rfl, hk⟩
          go_wp2_with fail
          go_ret
          exact ⟨rfl, hBX.trans (hk.mono hBX.size)⟩
        | some vv =>
          have HEV : Hid (itC (qS S R) 0 cs (allL cs.length) 0 0 0 = some vv) := by show _ = _; rw [← HLK.out]; exact hev
          clear hev
          dsimp only [itRes]
          have x0 := hX8.cell 0
          have x1 := hX8.cell 1
          have x2 := hX8.cell 2
          have y0 := hY8.cell 0
          have y1 := hY8.cell 1
          have y2 := hY8.cell 2
          have y3 := hY8.cell 3
          simp only [List.getElem?_toArray, List.getElem?_cons_zero, List.getElem?_cons_succ] at x0 x1 x2 y0 y1 y2 y3
          go_wp2_with fail
          clear x0 x1 x2 y0 y1 y2 y3
          refine (Plan_any pa pn pc ca cn cc ja jn jc R ra rn rc sa sn sc S ka kn kc cs w8 (HR.out.grow hB8 hB8.size) (HD.out.grow hB8 hB8.size) (HK.out.grow hB8 hB8.size) HV.out HS.out HC.out).mono ?_
          rintro e w9 ⟨A9, n9, c9, rfl, -, hk⟩
          have hB9 := hB8.trans (hk.mono hB8.size)
          have hX9 := hX8.below hk hX8.lt
          have hY9 := hY8.below hk hY8.lt
          clear hX8 hY8 hB8 hk
          have HEP := Lib.hid (every_plan (S := S) (R := R) HC.out HEV.out)
          generalize (planR (qS S R) (sS S R) cs).2.1.first = cf at *
          generalize (planR (qS S R) (sS S R) cs).2.1.last = cl at *
          generalize (planR (qS S R) (sS S R) cs).2.1.early = ce at *
          generalize (planR (qS S R) (sS S R) cs).2.2 = er at *
          by_cases her : er = 0
          case pos =>
            have ge : (er == 0) = true := by simpa using her
            subst her
            have hU9 := BK.new w9 58 #[.int .i64 cf, .int .i64 cl, .bool ce]
            have u0 := hU9.cell 0
            have u1 := hU9.cell 1
            have u2 := hU9.cell 2
            simp only [List.getElem?_toArray, List.getElem?_cons_zero, List.getElem?_cons_succ] at u0 u1 u2
            go_wp2_with fail
            have hBX := hB9.alloc hB9.size (.cells #[.int .i64 cf, .int .i64 cl, .bool ce] 58)
            refine (known_any _).mono ?_
            rintro e w9 ⟨rfl, hk⟩
            go_wp2_with fail
            go_ret
            exact ⟨rfl, hBX.trans (hk.mono hBX.size)⟩
          have ge : (er == 0) = false := by simpa using her
          obtain rfl : ce = true := HEP.out.resolve_left her
          have hU9 := BK.new w9 58 #[.int .i64 cf, .int .i64 cl, .bool true]
          have u0 := hU9.cell 0
          have u1 := hU9.cell 1
          have u2 := hU9.cell 2
          simp only [List.getElem?_toArray, List.getElem?_cons_zero, List.getElem?_cons_succ] at u0 u1 u2
          go_wp2_with fail
          have hBX := hB9.alloc hB9.size (.cells #[.int .i64 cf, .int .i64 cl, .bool true] 58)
          refine (known_any _).mono ?_
          rintro e w9 ⟨rfl, hk⟩
          go_wp2_with fail
          go_ret
          exact ⟨rfl, hBX.trans (hk.mono hBX.size)⟩
  | some v =>
    obtain ⟨hvb, hvf⟩ := HB2.out us v hit
    have gv : decide (B < v) = false := decide_eq_false (by omega)
    clear hit
    dsimp only [itRes]
    by_cases hvB : v = B
    case neg =>
      have ge : (v == B) = false := by simpa using hvB
      clear hvB hvf hvb
      as_aux_lemma =>
        go_wp2_with fail
        have hzz := hB7.size
        have HZ0 := Lib.hid hzz
        go_loopw [17, 18] (fun oo ii wr => ∃ (k : Nat) (A' : Option Addr) (n' c' : Nat), k ≤ kn ∧ ii = .int .i64 k ∧ oo = .slice A' n' c' ∧ n' ≤ k ∧ OW iC 1 3 w7.heap.size wr A' n' c' (allL k) ∧ Below w7.heap.size w7 wr)
          (fun _ ii _ => kn - (intOf ii).toNat)
        case atStart => exact ⟨0, none, 0, 0, Nat.zero_le _, rfl, rfl, Nat.le_refl _, OW.nil_, Below.refl _ _⟩
        case round =>
          obtain ⟨k, A', n', c', hk9, rfl, rfl, hnk, hO, hbr⟩ := hrel
          by_cases hlt : k < kn
          case pos =>
            have hNew : BK (wr.alloc (.cells #[.int .i64 (k : Int)] 3)) wr.heap.size 3 #[.int .i64 (k : Int)] := BK.new wr _ _
            have hzr := hbr.size
            have HAL : Hid (allL (k + 1) = allL k ++ [(k : Int)]) := allL_succ k
            have gk : decide ((k : Int) < (kn : Int)) = true := decide_eq_true (by omega)
            have gkN : decide (k < kn) = true := decide_eq_true hlt
            go_wp2_with (at_builtin; refine wpList_app rfl _ _ 28 rfl w7.heap.size 3 _ 1 8 Tryd.underlying28 infoI rfl (by decide) iC A' n' c' (allL k) rfl (hO.alloc _) (k : Int) #[.int .i64 (k : Int)] rfl rfl 3 wr.heap.size rfl hNew (by simp [iC, Value.oneCell']) (by omega) (by omega) (by simp; omega) ?_; intro g' c' w8 hap; have HAP := Lib.hid hap; clear hap)
            have hbN := (hbr.alloc (by omega) (.cells #[.int .i64 (k : Int)] 3)).trans HAP.out.bel
            go_roundw
            case rel => exact ⟨k + 1, some ⟨g', 0, none⟩, n' + 1, c', by omega, by go_num, rfl, by omega, by rw [HAL.out]; exact HAP.out.own, hbN⟩
            case measure => simp [intOf]; omega
          obtain rfl : kn = k := by omega
          obtain ⟨wE, hwE⟩ : ∃ wE, wE = wr := ⟨_, rfl⟩
          rw [← hwE] at hO hbr ⊢
          have hBE := hB7.trans (hbr.mono hzz)
          have hXE := hX7.below hbr hX7.lt
          have hYE := hY7.below hbr hY7.lt
          have HSA := Lib.hid (hO.sl (fun _ => rfl))
          clear hO hbr hwE hlt
          have x0 := hXE.cell 0
          have x1 := hXE.cell 1
          have x2 := hXE.cell 2
          have y0 := hYE.cell 0
          have y1 := hYE.cell 1
          have y2 := hYE.cell 2
          have y3 := hYE.cell 3
          simp only [List.getElem?_toArray, List.getElem?_cons_zero, List.getElem?_cons_succ] at x0 x1 x2 y0 y1 y2 y3
          go_wp2_with fail
          clear x0 x1 x2 y0 y1 y2 y3
          refine (InTime_all 0 pa pn pc ca cn cc ja jn jc R ra rn rc sa sn sc S ka kn kc cs A' n' c' (allL kn) wE (HR.out.grow hBE hBE.size) (HD.out.grow hBE hBE.size) (HK.out.grow hBE hBE.size) HSA.out (by omega)).mono ?_
          rintro e w8 ⟨rfl, hk⟩
          rw [itAll_ok (by rw [HVS.out, HR0.out]; rfl)]
          have hB8 := hBE.trans (hk.mono hBE.size)
          have hX8 := hXE.below hk hXE.lt
          have hY8 := hYE.below hk hYE.lt
          clear hXE hYE hBE hk
          cases hev : itC (qS S R) 0 cs (allL kn) 0 0 0 with
          | none =>
            clear hev
            dsimp only [itRes]
            have x0 := hX8.cell 0
            have x1 := hX8.cell 1
            have x2 := hX8.cell 2
            have y0 := hY8.cell 0
            have y1 := hY8.cell 1
            have y2 := hY8.cell 2
            have y3 := hY8.cell 3
            simp only [List.getElem?_toArray, List.getElem?_cons_zero, List.getElem?_cons_succ] at x0 x1 x2 y0 y1 y2 y3
            go_wp2_with fail
            clear x0 x1 x2 y0 y1 y2 y3
            refine (Plan_any pa pn pc ca cn cc ja jn jc R ra rn rc sa sn sc S ka kn kc cs w8 (HR.out.grow hB8 hB8.size) (HD.out.grow hB8 hB8.size) (HK.out.grow hB8 hB8.size) HV.out HS.out HC.out).mono ?_
            rintro e w9 ⟨A9, n9, c9, rfl, -, hk⟩
            have hB9 := hB8.trans (hk.mono hB8.size)
            have hX9 := hX8.below hk hX8.lt
            have hY9 := hY8.below hk hY8.lt
            clear hX8 hY8 hB8 hk
            generalize (planR (qS S R) (sS S R) cs).2.1.first = cf at *
            generalize (planR (qS S R) (sS S R) cs).2.1.last = cl at *
            generalize (planR (qS S R) (sS S R) cs).2.1.early = ce at *
            generalize (planR (qS S R) (sS S R) cs).2.2 = er at *
            have hU9 := BK.new w9 58 #[.int .i64 cf, .int .i64 cl, .bool ce]
            have u0 := hU9.cell 0
            have u1 := hU9.cell 1
            have u2 := hU9.cell 2
            simp only [List.getElem?_toArray, List.getElem?_cons_zero, List.getElem?_cons_succ] at u0 u1 u2
            go_wp2_with fail
            have hBX := hB9.alloc hB9.size (.cells #[.int .i64 cf, .int .i64 cl, .bool ce] 58)
            refine (known_any _).mono ?_
            rintro e w9 ⟨rfl, hk⟩
            go_wp2_with fail
            go_ret
            exact ⟨rfl, hBX.trans (hk.mono hBX.size)⟩
          | some vv =>
            have HEV : Hid (itC (qS S R) 0 cs (allL cs.length) 0 0 0 = some vv) := by show _ = _; rw [← HLK.out]; exact hev
            clear hev
            dsimp only [itRes]
            have x0 := hX8.cell 0
            have x1 := hX8.cell 1
            have x2 := hX8.cell 2
            have y0 := hY8.cell 0
            have y1 := hY8.cell 1
            have y2 := hY8.cell 2
            have y3 := hY8.cell 3
            simp only [List.getElem?_toArray, List.getElem?_cons_zero, List.getElem?_cons_succ] at x0 x1 x2 y0 y1 y2 y3
            go_wp2_with fail
            clear x0 x1 x2 y0 y1 y2 y3
            refine (Plan_any pa pn pc ca cn cc ja jn jc R ra rn rc sa sn sc S ka kn kc cs w8 (HR.out.grow hB8 hB8.size) (HD.out.grow hB8 hB8.size) (HK.out.grow hB8 hB8.size) HV.out HS.out HC.out).mono ?_
            rintro e w9 ⟨A9, n9, c9, rfl, -, hk⟩
            have hB9 := hB8.trans (hk.mono hB8.size)
            have hX9 := hX8.below hk hX8.lt
            have hY9 := hY8.below hk hY8.lt
            clear hX8 hY8 hB8 hk
            have HEP := Lib.hid (every_plan (S := S) (R := R) HC.out HEV.out)
            generalize (planR (qS S R) (sS S R) cs).2.1.first = cf at *
            generalize (planR (qS S R) (sS S R) cs).2.1.last = cl at *
            generalize (planR (qS S R) (sS S R) cs).2.1.early = ce at *
            generalize (planR (qS S R) (sS S R) cs).2.2 = er at *
            by_cases her : er = 0
            case pos =>
              have ge : (er == 0) = true := by simpa using her
              subst her
              have hU9 := BK.new w9 58 #[.int .i64 cf, .int .i64 cl, .bool ce]
              have u0 := hU9.cell 0
              have u1 := hU9.cell 1
              have u2 := hU9.cell 2
              simp only [List.getElem?_toArray, List.getElem?_cons_zero, List.getElem?_cons_succ] at u0 u1 u2
              go_wp2_with fail
              have hBX := hB9.alloc hB9.size (.cells #[.int .i64 cf, .int .i64 cl, .bool ce] 58)
              refine (known_any _).mono ?_
              rintro e w9 ⟨rfl, hk⟩
              go_wp2_with fail
              go_ret
              exact ⟨rfl, hBX.trans (hk.mono hBX.size)⟩
            have ge : (er == 0) = false := by simpa using her
            obtain rfl : ce = true := HEP.out.resolve_left her
            have hU9 := BK.new w9 58 #[.int .i64 cf, .int .i64 cl, .bool true]
            have u0 := hU9.cell 0
            have u1 := hU9.cell 1
            have u2 := hU9.cell 2
            simp only [List.getElem?_toArray, List.getElem?_cons_zero, List.getElem?_cons_succ] at u0 u1 u2
            go_wp2_with fail
            have hBX := hB9.alloc hB9.size (.cells #[.int .i64 cf, .int .i64 cl, .bool true] 58)
            refine (known_any _).mono ?_
            rintro e w9 ⟨rfl, hk⟩
            go_wp2_with fail
            go_ret
            exact ⟨rfl, hBX.trans (hk.mono hBX.size)⟩
    have HBF := Lib.hid (hvf hvB)
    have ge : (v == B) = true := by simpa using hvB
    clear hvB hvf hvb
    go_wp2_with fail
    refine (RBefore_any ua un uc us A n c G w7 (HU.out.grow hB7 hB7.size) HG7.out (by omega)).mono ?_
    rintro e w8 ⟨rfl, hk⟩
    rw [HBF.out]
    have hB8 := hB7.trans (hk.mono hB7.size)
    have hX8 := hX7.below hk hX7.lt
    have hY8 := hY7.below hk hY7.lt
    clear hX7 hY7 hB7 hk
    as_aux_lemma =>
      go_wp2_with fail
      have hzz := hB8.size
      have HZ0 := Lib.hid hzz
      go_loopw [17, 18] (fun oo ii wr => ∃ (k : Nat) (A' : Option Addr) (n' c' : Nat), k ≤ kn ∧ ii = .int .i64 k ∧ oo = .slice A' n' c' ∧ n' ≤ k ∧ OW iC 1 3 w8.heap.size wr A' n' c' (allL k) ∧ Below w8.heap.size w8 wr)
        (fun _ ii _ => kn - (intOf ii).toNat)
      case atStart => exact ⟨0, none, 0, 0, Nat.zero_le _, rfl, rfl, Nat.le_refl _, OW.nil_, Below.refl _ _⟩
      case round =>
        obtain ⟨k, A', n', c', hk9, rfl, rfl, hnk, hO, hbr⟩ := hrel
        by_cases hlt : k < kn
        case pos =>
          have hNew : BK (wr.alloc (.cells #[.int .i64 (k : Int)] 3)) wr.heap.size 3 #[.int .i64 (k : Int)] := BK.new wr _ _
          have hzr := hbr.size
          have HAL : Hid (allL (k + 1) = allL k ++ [(k : Int)]) := allL_succ k
          have gk : decide ((k : Int) < (kn : Int)) = true := decide_eq_true (by omega)
          have gkN : decide (k < kn) = true := decide_eq_true hlt
          go_wp2_with (at_builtin; refine wpList_app rfl _ _ 28 rfl w8.heap.size 3 _ 1 8 Tryd.underlying28 infoI rfl (by decide) iC A' n' c' (allL k) rfl (hO.alloc _) (k : Int) #[.int .i64 (k : Int)] rfl rfl 3 wr.heap.size rfl hNew (by simp [iC, Value.oneCell']) (by omega) (by omega) (by simp; omega) ?_; intro g' c' w8 hap; have HAP := Lib.hid hap; clear hap)
          have hbN := (hbr.alloc (by omega) (.cells #[.int .i64 (k : Int)] 3)).trans HAP.out.bel
          go_roundw
          case rel => exact ⟨k + 1, some ⟨g', 0, none⟩, n' + 1, c', by omega, by go_num, rfl, by omega, by rw [HAL.out]; exact HAP.out.own, hbN⟩
          case measure => simp [intOf]; omega
        obtain rfl : kn = k := by omega
        obtain ⟨wE, hwE⟩ : ∃ wE, wE = wr := ⟨_, rfl⟩
        rw [← hwE] at hO hbr ⊢
        have hBE := hB8.trans (hbr.mono hzz)
        have hXE := hX8.below hbr hX8.lt
        have hYE := hY8.below hbr hY8.lt
        have HSA := Lib.hid (hO.sl (fun _ => rfl))
        clear hO hbr hwE hlt
        have x0 := hXE.cell 0
        have x1 := hXE.cell 1
        have x2 := hXE.cell 2
        have y0 := hYE.cell 0
        have y1 := hYE.cell 1
        have y2 := hYE.cell 2
        have y3 := hYE.cell 3
        simp only [List.getElem?_toArray, List.getElem?_cons_zero, List.getElem?_cons_succ] at x0 x1 x2 y0 y1 y2 y3
        go_wp2_with fail
        clear x0 x1 x2 y0 y1 y2 y3
        refine (InTime_all 0 pa pn pc ca cn cc ja jn jc R ra rn rc sa sn sc S ka kn kc cs A' n' c' (allL kn) wE (HR.out.grow hBE hBE.size) (HD.out.grow hBE hBE.size) (HK.out.grow hBE hBE.size) HSA.out (by omega)).mono ?_
        rintro e w9 ⟨rfl, hk⟩
        rw [itAll_ok (by rw [HVS.out, HR0.out]; rfl)]
        have hB9 := hBE.trans (hk.mono hBE.size)
        have hX9 := hXE.below hk hXE.lt
        have hY9 := hYE.below hk hYE.lt
        clear hXE hYE hBE hk
        cases hev : itC (qS S R) 0 cs (allL kn) 0 0 0 with
        | none =>
          clear hev
          dsimp only [itRes]
          have x0 := hX9.cell 0
          have x1 := hX9.cell 1
          have x2 := hX9.cell 2
          have y0 := hY9.cell 0
          have y1 := hY9.cell 1
          have y2 := hY9.cell 2
          have y3 := hY9.cell 3
          simp only [List.getElem?_toArray, List.getElem?_cons_zero, List.getElem?_cons_succ] at x0 x1 x2 y0 y1 y2 y3
          go_wp2_with fail
          clear x0 x1 x2 y0 y1 y2 y3
          refine (Plan_any pa pn pc ca cn cc ja jn jc R ra rn rc sa sn sc S ka kn kc cs w9 (HR.out.grow hB9 hB9.size) (HD.out.grow hB9 hB9.size) (HK.out.grow hB9 hB9.size) HV.out HS.out HC.out).mono ?_
          rintro e w10 ⟨A9, n9, c9, rfl, -, hk⟩
          have hB10 := hB9.trans (hk.mono hB9.size)
          have hX10 := hX9.below hk hX9.lt
          have hY10 := hY9.below hk hY9.lt
          clear hX9 hY9 hB9 hk
          generalize (planR (qS S R) (sS S R) cs).2.1.first = cf at *
          generalize (planR (qS S R) (sS S R) cs).2.1.last = cl at *
          generalize (planR (qS S R) (sS S R) cs).2.1.early = ce at *
          generalize (planR (qS S R) (sS S R) cs).2.2 = er at *
          have hU9 := BK.new w10 58 #[.int .i64 cf, .int .i64 cl, .bool ce]
          have u0 := hU9.cell 0
          have u1 := hU9.cell 1
          have u2 := hU9.cell 2
          simp only [List.getElem?_toArray, List.getElem?_cons_zero, List.getElem?_cons_succ] at u0 u1 u2
          go_wp2_with fail
          have hBX := hB10.alloc hB10.size (.cells #[.int .i64 cf, .int .i64 cl, .bool ce] 58)
          refine (known_any _).mono ?_
          rintro e w9 ⟨rfl, hk⟩
          go_wp2_with fail
          go_ret
          exact ⟨rfl, hBX.trans (hk.mono hBX.size)⟩
        | some vv =>
          have HEV : Hid (itC (qS S R) 0 cs (allL cs.length) 0 0 0 = some vv) := by show _ = _; rw [← HLK.out]; exact hev
          clear hev
          dsimp only [itRes]
          have x0 := hX9.cell 0
          have x1 := hX9.cell 1
          have x2 := hX9.cell 2
          have y0 := hY9.cell 0
          have y1 := hY9.cell 1
          have y2 := hY9.cell 2
          have y3 := hY9.cell 3
          simp only [List.getElem?_toArray, List.getElem?_cons_zero, List.getElem?_cons_succ] at x0 x1 x2 y0 y1 y2 y3
          go_wp2_with fail
          clear x0 x1 x2 y0 y1 y2 y3
          refine (Plan_any pa pn pc ca cn cc ja jn jc R ra rn rc sa sn sc S ka kn kc cs w9 (HR.out.grow hB9 hB9.size) (HD.out.grow hB9 hB9.size) (HK.out.grow hB9 hB9.size) HV.out HS.out HC.out).mono ?_
          rintro e w10 ⟨A9, n9, c9, rfl, -, hk⟩
          have hB10 := hB9.trans (hk.mono hB9.size)
          have hX10 := hX9.below hk hX9.lt
          have hY10 := hY9.below hk hY9.lt
          clear hX9 hY9 hB9 hk
          have HEP := Lib.hid (every_plan (S := S) (R := R) HC.out HEV.out)
          generalize (planR (qS S R) (sS S R) cs).2.1.first = cf at *
          generalize (planR (qS S R) (sS S R) cs).2.1.last = cl at *
          generalize (planR (qS S R) (sS S R) cs).2.1.early = ce at *
          generalize (planR (qS S R) (sS S R) cs).2.2 = er at *
          by_cases her : er = 0
          case pos =>
            have ge : (er == 0) = true := by simpa using her
            subst her
            have hU9 := BK.new w10 58 #[.int .i64 cf, .int .i64 cl, .bool ce]
            have u0 := hU9.cell 0
            have u1 := hU9.cell 1
            have u2 := hU9.cell 2
            simp only [List.getElem?_toArray, List.getElem?_cons_zero, List.getElem?_cons_succ] at u0 u1 u2
            go_wp2_with fail
            have hBX := hB10.alloc hB10.size (.cells #[.int .i64 cf, .int .i64 cl, .bool ce] 58)
            refine (known_any _).mono ?_
            rintro e w9 ⟨rfl, hk⟩
            go_wp2_with fail
            go_ret
            exact ⟨rfl, hBX.trans (hk.mono hBX.size)⟩
          have ge : (er == 0) = false := by simpa using her
          obtain rfl : ce = true := HEP.out.resolve_left her
          have hU9 := BK.new w10 58 #[.int .i64 cf, .int .i64 cl, .bool true]
          have u0 := hU9.cell 0
          have u1 := hU9.cell 1
          have u2 := hU9.cell 2
          simp only [List.getElem?_toArray, List.getElem?_cons_zero, List.getElem?_cons_succ] at u0 u1 u2
          go_wp2_with fail
          have hBX := hB10.alloc hB10.size (.cells #[.int .i64 cf, .int .i64 cl, .bool true] 58)
          refine (known_any _).mono ?_
          rintro e w9 ⟨rfl, hk⟩
          go_wp2_with fail
          go_ret
          exact ⟨rfl, hBX.trans (hk.mono hBX.size)⟩
end Go.Proofs.YtijcbfhlhgjedaaDoor
