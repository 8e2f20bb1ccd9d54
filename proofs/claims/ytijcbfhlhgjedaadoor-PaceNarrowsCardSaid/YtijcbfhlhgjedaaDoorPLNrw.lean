/- The law function PaceNarrows, walked: it returns true. -/
import Derived.Test.YtijcbfhlhgjedaaDoorPKnown3
import Derived.Test.YtijcbfhlhgjedaaDoorPCBBase
import Derived.Test.YtijcbfhlhgjedaaDoorPCBRoad
import Derived.Test.YtijcbfhlhgjedaaDoorPCBLeaf
import Derived.Test.YtijcbfhlhgjedaaDoorPCBCheck
import Derived.Test.YtijcbfhlhgjedaaDoorPCBValid
import Derived.Test.YtijcbfhlhgjedaaDoorPCBFind
import Derived.Test.YtijcbfhlhgjedaaDoorPCBReg
import Derived.Test.YtijcbfhlhgjedaaDoorPCBGrouped
import Derived.Test.YtijcbfhlhgjedaaDoorPCBPG
import Derived.Test.YtijcbfhlhgjedaaDoorPCBBackM
import Derived.Test.YtijcbfhlhgjedaaDoorPCBStr
import Derived.Test.YtijcbfhlhgjedaaDoorPCBOpen
import Derived.Test.YtijcbfhlhgjedaaDoorPCBReg7
import Derived.Test.YtijcbfhlhgjedaaDoorPCSpd
import Derived.Test.YtijcbfhlhgjedaaDoorPCPRow
import Derived.Test.YtijcbfhlhgjedaaDoorPCMtr
import Derived.Test.YtijcbfhlhgjedaaDoorPCReg8
import Derived.Test.YtijcbfhlhgjedaaDoorPCSpCk
import Derived.Test.YtijcbfhlhgjedaaDoorPCPlanM
import Derived.Test.YtijcbfhlhgjedaaDoorPCLast
import Derived.Test.YtijcbfhlhgjedaaDoorPCBeg
import Derived.Test.YtijcbfhlhgjedaaDoorPCBegB
import Derived.Test.YtijcbfhlhgjedaaDoorPCRoom
import Derived.Test.YtijcbfhlhgjedaaDoorPCCallsB
import Derived.Test.YtijcbfhlhgjedaaDoorPCPlan
import Derived.Test.YtijcbfhlhgjedaaDoorPCBetw
import Derived.Test.YtijcbfhlhgjedaaDoorPCKn03P
import Derived.Test.YtijcbfhlhgjedaaDoorPCRef3
import Derived.Test.YtijcbfhlhgjedaaDoorPCRMtP
import Derived.Test.YtijcbfhlhgjedaaDoorPRNrw
namespace Go.Proofs.YtijcbfhlhgjedaaDoor
open Go.RowKit Go.Shelf Go.Sort Go.Proofs

set_option maxRecDepth 100000 in
set_option maxHeartbeats 8000000 in
theorem LNrw_walk (pa : Option Addr) (pn pc : Nat) (ca : Option Addr) (cn cc : Nat) (ja : Option Addr) (jn jc : Nat) (R : Road) (ra : Option Addr) (rn rc : Nat) (sa : Option Addr) (sn sc : Nat) (S : Spd) (la : Option Addr) (ln lc : Nat) (ls : List PassR) (w : World)
    (h : RD w w.heap.size pa pn ca cn ja jn R) (hD : SD w w.heap.size ra rn sa sn S) (hL : SL paC 3 w w.heap.size la ln ls) (hmx : pn ≤ 9223372036854775807) :
    Calls Tryd.prog 10 #[.agg #[.slice pa pn pc, .slice ca cn cc, .slice ja jn jc], .agg #[.int .i64 S.least, .int .i64 S.most, .slice ra rn rc, .slice sa sn sc], .slice la ln lc] w fun e w' => e = .returned (.bool true) ∧ Below w.heap.size w w' := by
  have HR := Lib.hid h
  have HD := Lib.hid hD
  have HL := Lib.hid hL
  clear h hD hL
  obtain ⟨w0, hw0⟩ : ∃ w0, w0 = (w.alloc (.cells #[.slice pa pn pc, .slice ca cn cc, .slice ja jn jc] 26)).alloc (.cells #[.int .i64 S.least, .int .i64 S.most, .slice ra rn rc, .slice sa sn sc] 30) := ⟨_, rfl⟩
  have hB0 : Below w.heap.size w w0 := by rw [hw0]; exact ((Below.refl w.heap.size w).alloc (Nat.le_refl _) _).alloc (by simp) _
  have hX0 : BK w0 (w.heap.size) 26 #[.slice pa pn pc, .slice ca cn cc, .slice ja jn jc] := by rw [hw0]; exact ((BK.new w 26 #[.slice pa pn pc, .slice ca cn cc, .slice ja jn jc])).alloc _
  have hY0 : BK w0 (w.heap.size + 1) 30 #[.int .i64 S.least, .int .i64 S.most, .slice ra rn rc, .slice sa sn sc] := by rw [hw0]; have := BK.new (w.alloc (.cells #[.slice pa pn pc, .slice ca cn cc, .slice ja jn jc] 26)) 30 #[.int .i64 S.least, .int .i64 S.most, .slice ra rn rc, .slice sa sn sc]; rw [World.size_alloc] at this; exact this
  go_enter Tryd.func10, Tryd.ntmps10
  go_wp2_with fail
  rw [← hw0]
  clear hw0
  have x0 := hX0.cell 0
  have x1 := hX0.cell 1
  have x2 := hX0.cell 2
  have y0 := hY0.cell 0
  have y1 := hY0.cell 1
  have y2 := hY0.cell 2
  have y3 := hY0.cell 3
  simp only [List.getElem?_toArray, List.getElem?_cons_zero, List.getElem?_cons_succ] at x0 x1 x2 y0 y1 y2 y3
  go_wp2_with fail
  clear x0 x1 x2 y0 y1 y2 y3
  refine (few_any pa pn pc ca cn cc ja jn jc R w0 (HR.out.grow hB0 hB0.size) hmx).mono ?_
  rintro e w1 ⟨rfl, hk⟩
  have hB1 := hB0.trans (hk.mono hB0.size)
  have hX1 := hX0.below hk hX0.lt
  have hY1 := hY0.below hk hY0.lt
  clear hX0 hY0 hB0 hk
  cases hfew : fewB R
  case false =>
    go_wp2_with fail
    have hBX := hB1
    refine (known_any _).mono ?_
    rintro e w9 ⟨rfl, hk⟩
    go_wp2_with fail
    go_ret
    exact ⟨rfl, hBX.trans (hk.mono hBX.size)⟩
  have x0 := hX1.cell 0
  have x1 := hX1.cell 1
  have x2 := hX1.cell 2
  have y0 := hY1.cell 0
  have y1 := hY1.cell 1
  have y2 := hY1.cell 2
  have y3 := hY1.cell 3
  simp only [List.getElem?_toArray, List.getElem?_cons_zero, List.getElem?_cons_succ] at x0 x1 x2 y0 y1 y2 y3
  go_wp2_with fail
  clear x0 x1 x2 y0 y1 y2 y3
  refine (quick_any3 ra rn rc sa sn sc S w1 (HD.out.grow hB1 hB1.size)).mono ?_
  rintro e w2 ⟨rfl, hk⟩
  have hB2 := hB1.trans (hk.mono hB1.size)
  have hX2 := hX1.below hk hX1.lt
  have hY2 := hY1.below hk hY1.lt
  clear hX1 hY1 hB1 hk
  cases hqu : quickB S
  case false =>
    go_wp2_with fail
    have hBX := hB2
    refine (known_any _).mono ?_
    rintro e w9 ⟨rfl, hk⟩
    go_wp2_with fail
    go_ret
    exact ⟨rfl, hBX.trans (hk.mono hBX.size)⟩
  by_cases gl0 : ln ≤ 220
  case neg =>
    have gl : decide ((220 : Int) < (ln : Int)) = true := decide_eq_true (by omega)
    have x0 := hX2.cell 0
    have x1 := hX2.cell 1
    have x2 := hX2.cell 2
    have y0 := hY2.cell 0
    have y1 := hY2.cell 1
    have y2 := hY2.cell 2
    have y3 := hY2.cell 3
    simp only [List.getElem?_toArray, List.getElem?_cons_zero, List.getElem?_cons_succ] at x0 x1 x2 y0 y1 y2 y3
    go_wp2_with fail
    have hBX := hB2
    refine (known_any _).mono ?_
    rintro e w9 ⟨rfl, hk⟩
    go_wp2_with fail
    go_ret
    exact ⟨rfl, hBX.trans (hk.mono hBX.size)⟩
  have gl : decide ((220 : Int) < (ln : Int)) = false := decide_eq_false (by omega)
  clear hfew hqu
  have x0 := hX2.cell 0
  have x1 := hX2.cell 1
  have x2 := hX2.cell 2
  have y0 := hY2.cell 0
  have y1 := hY2.cell 1
  have y2 := hY2.cell 2
  have y3 := hY2.cell 3
  simp only [List.getElem?_toArray, List.getElem?_cons_zero, List.getElem?_cons_succ] at x0 x1 x2 y0 y1 y2 y3
  go_wp2_with fail
  clear x0 x1 x2 y0 y1 y2 y3
  refine (Narrow_all pa pn pc ca cn cc ja jn jc R ra rn rc sa sn sc S la ln lc ls w2 (HR.out.grow hB2 hB2.size) (HD.out.grow hB2 hB2.size) (HL.out.grow hB2 hB2.size) (by omega)).mono ?_
  rintro e w3 ⟨A, n, c, rfl, hQ, hk⟩
  have hB3 := hB2.trans (hk.mono hB2.size)
  have hX3 := hX2.below hk hX2.lt
  have hY3 := hY2.below hk hY2.lt
  clear hX2 hY2 hB2 hk
  cases hvs : val R && spB S
  case false =>
    have HVS := Lib.hid hvs
    clear hvs
    rw [nrwAll_bad (by rw [HVS.out]; rfl)] at hQ ⊢
    dsimp only at hQ ⊢
    obtain rfl : n = 0 := hQ.1
    clear hQ
    have x0 := hX3.cell 0
    have x1 := hX3.cell 1
    have x2 := hX3.cell 2
    have y0 := hY3.cell 0
    have y1 := hY3.cell 1
    have y2 := hY3.cell 2
    have y3 := hY3.cell 3
    simp only [List.getElem?_toArray, List.getElem?_cons_zero, List.getElem?_cons_succ] at x0 x1 x2 y0 y1 y2 y3
    go_wp2_with fail
    clear x0 x1 x2 y0 y1 y2 y3
    refine (fine_any pa pn pc ca cn cc ja jn jc R ra rn rc sa sn sc S w3 (HR.out.grow hB3 hB3.size) (HD.out.grow hB3 hB3.size)).mono ?_
    rintro e w4 ⟨rfl, hk⟩
    have hB4 := hB3.trans (hk.mono hB3.size)
    have hX4 := hX3.below hk hX3.lt
    have hY4 := hY3.below hk hY3.lt
    clear hX3 hY3 hB3 hk
    rw [HVS.out]
    go_wp2_with fail
    have hBX := hB4
    refine (known_any _).mono ?_
    rintro e w9 ⟨rfl, hk⟩
    go_wp2_with fail
    go_ret
    exact ⟨rfl, hBX.trans (hk.mono hBX.size)⟩
  have HVS := Lib.hid hvs
  have HV : Hid (OK R) := by have := hvs; rw [Bool.and_eq_true] at this; exact (val_iff R).1 this.1
  have HS : Hid (SOK S) := by have := hvs; rw [Bool.and_eq_true] at this; exact (spB_iff S).1 this.2
  clear hvs
  cases hpb : pB (sumL R.ps) ls
  case false =>
    have HPB := Lib.hid hpb
    clear hpb
    rw [nrwAll_bad (by rw [HVS.out, HPB.out]; rfl)] at hQ ⊢
    dsimp only at hQ ⊢
    obtain rfl : n = 0 := hQ.1
    clear hQ
    have x0 := hX3.cell 0
    have x1 := hX3.cell 1
    have x2 := hX3.cell 2
    have y0 := hY3.cell 0
    have y1 := hY3.cell 1
    have y2 := hY3.cell 2
    have y3 := hY3.cell 3
    simp only [List.getElem?_toArray, List.getElem?_cons_zero, List.getElem?_cons_succ] at x0 x1 x2 y0 y1 y2 y3
    go_wp2_with fail
    clear x0 x1 x2 y0 y1 y2 y3
    refine (fine_any pa pn pc ca cn cc ja jn jc R ra rn rc sa sn sc S w3 (HR.out.grow hB3 hB3.size) (HD.out.grow hB3 hB3.size)).mono ?_
    rintro e w4 ⟨rfl, hk⟩
    have hB4 := hB3.trans (hk.mono hB3.size)
    have hX4 := hX3.below hk hX3.lt
    have hY4 := hY3.below hk hY3.lt
    clear hX3 hY3 hB3 hk
    rw [HVS.out]
    have x0 := hX4.cell 0
    have x1 := hX4.cell 1
    have x2 := hX4.cell 2
    have y0 := hY4.cell 0
    have y1 := hY4.cell 1
    have y2 := hY4.cell 2
    have y3 := hY4.cell 3
    simp only [List.getElem?_toArray, List.getElem?_cons_zero, List.getElem?_cons_succ] at x0 x1 x2 y0 y1 y2 y3
    go_wp2_with fail
    clear x0 x1 x2 y0 y1 y2 y3
    refine (RPassings_any la ln lc ls pa pn pc ca cn cc ja jn jc R w4 (HR.out.grow hB4 hB4.size) HV.out (HL.out.grow hB4 hB4.size) (by omega)).mono ?_
    rintro e w5 ⟨rfl, hk⟩
    have hB5 := hB4.trans (hk.mono hB4.size)
    have hX5 := hX4.below hk hX4.lt
    have hY5 := hY4.below hk hY4.lt
    clear hX4 hY4 hB4 hk
    rw [HPB.out]
    go_wp2_with fail
    have hBX := hB5
    refine (known_any _).mono ?_
    rintro e w9 ⟨rfl, hk⟩
    go_wp2_with fail
    go_ret
    exact ⟨rfl, hBX.trans (hk.mono hBX.size)⟩
  have HPB := Lib.hid hpb
  have HPO := Lib.hid ((pB_iff _ _).1 hpb)
  clear hpb
  rw [nrwAll_ok (by rw [HVS.out, HPB.out]; rfl)] at hQ ⊢
  cases hnk : nrwOk (nrwR S R ls)
  case false =>
    have HNK := Lib.hid hnk
    rw [hnk] at hQ
    rw [if_neg (by decide)] at hQ ⊢
    dsimp only at hQ ⊢
    obtain rfl : n = 0 := hQ.1
    clear hQ hnk
    have x0 := hX3.cell 0
    have x1 := hX3.cell 1
    have x2 := hX3.cell 2
    have y0 := hY3.cell 0
    have y1 := hY3.cell 1
    have y2 := hY3.cell 2
    have y3 := hY3.cell 3
    simp only [List.getElem?_toArray, List.getElem?_cons_zero, List.getElem?_cons_succ] at x0 x1 x2 y0 y1 y2 y3
    go_wp2_with fail
    clear x0 x1 x2 y0 y1 y2 y3
    refine (fine_any pa pn pc ca cn cc ja jn jc R ra rn rc sa sn sc S w3 (HR.out.grow hB3 hB3.size) (HD.out.grow hB3 hB3.size)).mono ?_
    rintro e w4 ⟨rfl, hk⟩
    have hB4 := hB3.trans (hk.mono hB3.size)
    have hX4 := hX3.below hk hX3.lt
    have hY4 := hY3.below hk hY3.lt
    clear hX3 hY3 hB3 hk
    rw [HVS.out]
    have x0 := hX4.cell 0
    have x1 := hX4.cell 1
    have x2 := hX4.cell 2
    have y0 := hY4.cell 0
    have y1 := hY4.cell 1
    have y2 := hY4.cell 2
    have y3 := hY4.cell 3
    simp only [List.getElem?_toArray, List.getElem?_cons_zero, List.getElem?_cons_succ] at x0 x1 x2 y0 y1 y2 y3
    go_wp2_with fail
    clear x0 x1 x2 y0 y1 y2 y3
    refine (RPassings_any la ln lc ls pa pn pc ca cn cc ja jn jc R w4 (HR.out.grow hB4 hB4.size) HV.out (HL.out.grow hB4 hB4.size) (by omega)).mono ?_
    rintro e w5 ⟨rfl, hk⟩
    have hB5 := hB4.trans (hk.mono hB4.size)
    have hX5 := hX4.below hk hX4.lt
    have hY5 := hY4.below hk hY4.lt
    clear hX4 hY4 hB4 hk
    rw [HPB.out]
    have x0 := hX5.cell 0
    have x1 := hX5.cell 1
    have x2 := hX5.cell 2
    have y0 := hY5.cell 0
    have y1 := hY5.cell 1
    have y2 := hY5.cell 2
    have y3 := hY5.cell 3
    simp only [List.getElem?_toArray, List.getElem?_cons_zero, List.getElem?_cons_succ] at x0 x1 x2 y0 y1 y2 y3
    go_wp2_with fail
    clear x0 x1 x2 y0 y1 y2 y3
    refine (RNarrow_any pa pn pc ca cn cc ja jn jc R ra rn rc sa sn sc S la ln lc ls w5 (HR.out.grow hB5 hB5.size) (HD.out.grow hB5 hB5.size) (HL.out.grow hB5 hB5.size) HV.out HS.out HPO.out).mono ?_
    rintro e w6 ⟨A2, n2, c2, rfl, hQ2, hk⟩
    have hB6 := hB5.trans (hk.mono hB5.size)
    have hX6 := hX5.below hk hX5.lt
    have hY6 := hY5.below hk hY5.lt
    clear hX5 hY5 hB5 hk
    rw [HNK.out]
    clear hQ2
    go_wp2_with fail
    have hBX := hB6
    refine (known_any _).mono ?_
    rintro e w9 ⟨rfl, hk⟩
    go_wp2_with fail
    go_ret
    exact ⟨rfl, hBX.trans (hk.mono hBX.size)⟩
  have HNK := Lib.hid hnk
  rw [hnk] at hQ
  rw [if_pos rfl] at hQ ⊢
  dsimp only at hQ ⊢
  have HQ := Lib.hid hQ
  clear hQ hnk

  have x0 := hX3.cell 0
  have x1 := hX3.cell 1
  have x2 := hX3.cell 2
  have y0 := hY3.cell 0
  have y1 := hY3.cell 1
  have y2 := hY3.cell 2
  have y3 := hY3.cell 3
  simp only [List.getElem?_toArray, List.getElem?_cons_zero, List.getElem?_cons_succ] at x0 x1 x2 y0 y1 y2 y3
  go_wp2_with fail
  clear x0 x1 x2 y0 y1 y2 y3
  refine (fine_any pa pn pc ca cn cc ja jn jc R ra rn rc sa sn sc S w3 (HR.out.grow hB3 hB3.size) (HD.out.grow hB3 hB3.size)).mono ?_
  rintro e w4 ⟨rfl, hk⟩
  have HQ4 := Lib.hid (HQ.out.grow hk hk.size)
  have hB4 := hB3.trans (hk.mono hB3.size)
  have hX4 := hX3.below hk hX3.lt
  have hY4 := hY3.below hk hY3.lt
  clear hX3 hY3 hB3 hk
  rw [HVS.out]
  have x0 := hX4.cell 0
  have x1 := hX4.cell 1
  have x2 := hX4.cell 2
  have y0 := hY4.cell 0
  have y1 := hY4.cell 1
  have y2 := hY4.cell 2
  have y3 := hY4.cell 3
  simp only [List.getElem?_toArray, List.getElem?_cons_zero, List.getElem?_cons_succ] at x0 x1 x2 y0 y1 y2 y3
  go_wp2_with fail
  clear x0 x1 x2 y0 y1 y2 y3
  refine (RPassings_any la ln lc ls pa pn pc ca cn cc ja jn jc R w4 (HR.out.grow hB4 hB4.size) HV.out (HL.out.grow hB4 hB4.size) (by omega)).mono ?_
  rintro e w5 ⟨rfl, hk⟩
  have HQ5 := Lib.hid (HQ4.out.grow hk hk.size)
  have hB5 := hB4.trans (hk.mono hB4.size)
  have hX5 := hX4.below hk hX4.lt
  have hY5 := hY4.below hk hY4.lt
  clear hX4 hY4 hB4 hk
  rw [HPB.out]
  have x0 := hX5.cell 0
  have x1 := hX5.cell 1
  have x2 := hX5.cell 2
  have y0 := hY5.cell 0
  have y1 := hY5.cell 1
  have y2 := hY5.cell 2
  have y3 := hY5.cell 3
  simp only [List.getElem?_toArray, List.getElem?_cons_zero, List.getElem?_cons_succ] at x0 x1 x2 y0 y1 y2 y3
  go_wp2_with fail
  clear x0 x1 x2 y0 y1 y2 y3
  refine (RNarrow_any pa pn pc ca cn cc ja jn jc R ra rn rc sa sn sc S la ln lc ls w5 (HR.out.grow hB5 hB5.size) (HD.out.grow hB5 hB5.size) (HL.out.grow hB5 hB5.size) HV.out HS.out HPO.out).mono ?_
  rintro e w6 ⟨A2, n2, c2, rfl, hQ2, hk⟩
  have HQ6 := Lib.hid (HQ5.out.grow hk hk.size)
  have HW := Lib.hid (hQ2 HNK.out)
  have hB6 := hB5.trans (hk.mono hB5.size)
  have hX6 := hX5.below hk hX5.lt
  have hY6 := hY5.below hk hY5.lt
  clear hX5 hY5 hB5 hk
  rw [HNK.out]
  clear hQ2 HQ HQ4 HQ5
  obtain ⟨L, hL⟩ : ∃ L, L = nrwR S R ls := ⟨_, rfl⟩
  rw [← hL] at HQ6 HW
  have hn1 : n = L.length := HQ6.out.1
  have hn2 : n2 = L.length := HW.out.1
  obtain rfl : n = n2 := by omega
  have hn3 : L.length ≤ 1000 := by rw [hL]; unfold nrwR; rw [nrw_len]; have := HPO.out.l1; omega
  have gnn : ((n : Int) != (n : Int)) = false := by simp
  have HLN := Lib.hid hn1
  clear hL hn2
  go_wp2_with fail
  have hz6 := hB6.size
  go_loopw [11] (fun i wx => ∃ k : Nat, k ≤ n ∧ i = .int .i64 k ∧ Below w6.heap.size w6 wx)
    (fun i _ => n - (intOf i).toNat)
  case atStart => exact ⟨0, Nat.zero_le _, rfl, Below.refl _ _⟩
  case round =>
    obtain ⟨k, hk, rfl, hbx⟩ := hrel
    have hBx := hB6.trans (hbx.mono hz6)
    by_cases hlt : k < n
    case neg =>
      obtain rfl : k = n := by omega
      go_wp2_with fail
      have hBX := hBx
      refine (known_any _).mono ?_
      rintro e w9 ⟨rfl, hk⟩
      go_wp2_with fail
      go_ret
      exact ⟨rfl, hBX.trans (hk.mono hBX.size)⟩
    have hkl : k < L.length := by rw [← HLN.out]; exact hlt
    obtain ⟨b1, o1, hA1, _, d0, d1, d2⟩ := PA3.at_ (HQ6.out.grow hbx hbx.size) (k := k) hkl
    obtain ⟨b2, o2, hA2, _, e0, e1, e2⟩ := PA3.at_ (HW.out.grow hbx hbx.size) (k := k) hkl
    generalize L[k]'hkl = x at d0 d1 d2 e0 e1 e2
    obtain ⟨xp, xe, xl⟩ := x
    dsimp only at d0 d1 d2 e0 e1 e2
    have hi1 : (0 : Int) ≤ (k : Int) := by omega
    have hi2 : (k : Int) < (n : Int) := by omega
    clear hkl
    subst hA1
    subst hA2
    go_wp2_with fail
    go_quiet (fail)
    go_wp2_with fail
    go_roundw
    case rel => exact ⟨k + 1, by omega, by go_num, below_drewN hbx _⟩
    case measure => simp [intOf]; omega
end Go.Proofs.YtijcbfhlhgjedaaDoor
