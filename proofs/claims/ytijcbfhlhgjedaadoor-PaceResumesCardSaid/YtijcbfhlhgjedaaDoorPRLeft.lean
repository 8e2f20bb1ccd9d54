/- The document's Left and Before, walked. -/
import Derived.Test.YtijcbfhlhgjedaaDoorPPas
import Derived.Test.YtijcbfhlhgjedaaDoorPCBBase
import Derived.Test.YtijcbfhlhgjedaaDoorPCBRoad
import Derived.Test.YtijcbfhlhgjedaaDoorPCBLeaf
import Derived.Test.YtijcbfhlhgjedaaDoorPCBCheck
import Derived.Test.YtijcbfhlhgjedaaDoorPCBValid
import Derived.Test.YtijcbfhlhgjedaaDoorPCBFind
import Derived.Test.YtijcbfhlhgjedaaDoorPCBReg
import Derived.Test.YtijcbfhlhgjedaaDoorPCBGrouped
import Derived.Test.YtijcbfhlhgjedaaDoorPCBPG
import Derived.Test.YtijcbfhlhgjedaaDoorPCBBackM
import Derived.Test.YtijcbfhlhgjedaaDoorPCBStr
import Derived.Test.YtijcbfhlhgjedaaDoorPCBOpen
import Derived.Test.YtijcbfhlhgjedaaDoorPCBReg7
import Derived.Test.YtijcbfhlhgjedaaDoorPCSpd
import Derived.Test.YtijcbfhlhgjedaaDoorPCPRow
import Derived.Test.YtijcbfhlhgjedaaDoorPCMtr
import Derived.Test.YtijcbfhlhgjedaaDoorPCReg8
import Derived.Test.YtijcbfhlhgjedaaDoorPCSpCk
import Derived.Test.YtijcbfhlhgjedaaDoorPCPlanM
import Derived.Test.YtijcbfhlhgjedaaDoorPCLast
import Derived.Test.YtijcbfhlhgjedaaDoorPCBeg
import Derived.Test.YtijcbfhlhgjedaaDoorPCBegB
import Derived.Test.YtijcbfhlhgjedaaDoorPCRoom
import Derived.Test.YtijcbfhlhgjedaaDoorPCCallsB
import Derived.Test.YtijcbfhlhgjedaaDoorPCPlan
import Derived.Test.YtijcbfhlhgjedaaDoorPCBetw
import Derived.Test.YtijcbfhlhgjedaaDoorPCKn03P
import Derived.Test.YtijcbfhlhgjedaaDoorPCRef3
import Derived.Test.YtijcbfhlhgjedaaDoorPCRCallsB
namespace Go.Proofs.YtijcbfhlhgjedaaDoor
open Go.RowKit Go.Shelf Go.Sort Go.Proofs

set_option maxRecDepth 100000 in
set_option maxHeartbeats 8000000 in
theorem RLeft_any (q : Int) (pa : Option Addr) (pn pc : Nat) (ca : Option Addr) (cn cc : Nat) (ja : Option Addr) (jn jc : Nat) (R : Road) (ka : Option Addr) (kn kc : Nat) (cs : List CallR) (w : World) (h : RD w w.heap.size pa pn ca cn ja jn R) (hv : OK R) (hK : SL caC 5 w w.heap.size ka kn cs) (hkn : kn ≤ 1000) :
    Calls Tryd.prog 49 #[.agg #[.slice pa pn pc, .slice ca cn cc, .slice ja jn jc], .slice ka kn kc, .int .i64 q] w fun e w' => e = .returned (.bool (remB (sumL R.ps) cs q)) ∧ Below w.heap.size w w' := by
  have HR := Lib.hid h
  have HV := Lib.hid hv
  have HK := Lib.hid hK
  have HLK := Lib.hid hK.1
  clear h hv hK
  obtain ⟨w0, hw0⟩ : ∃ w0, w0 = w.alloc (.cells #[.slice pa pn pc, .slice ca cn cc, .slice ja jn jc] 26) := ⟨_, rfl⟩
  have hB0 : Below w.heap.size w w0 := by rw [hw0]; exact (Below.refl w.heap.size w).alloc (Nat.le_refl _) _
  have hX0 : BK w0 (w.heap.size) 26 #[.slice pa pn pc, .slice ca cn cc, .slice ja jn jc] := by rw [hw0]; exact (BK.new w 26 #[.slice pa pn pc, .slice ca cn cc, .slice ja jn jc])
  go_enter Tryd.func49, Tryd.ntmps49
  go_wp2_with fail
  rw [← hw0]
  clear hw0
  have x0 := hX0.cell 0
  have x1 := hX0.cell 1
  have x2 := hX0.cell 2
  simp only [List.getElem?_toArray, List.getElem?_cons_zero, List.getElem?_cons_succ] at x0 x1 x2
  go_wp2_with fail
  refine (R3Length_any pa pn pc ca cn cc ja jn jc R w0 (HR.out.grow hB0 hB0.size) HV.out).mono ?_
  rintro e w1 ⟨rfl, hk⟩
  have hB1 := hB0.trans (hk.mono hB0.size)
  have hX1 := hX0.below hk hX0.lt
  clear hX0 hB0 hk
  go_wp2_with fail
  refine (in3_any _ _ _ _).mono ?_
  rintro e w' ⟨rfl, rfl⟩
  clear x0 x1 x2
  cases hin : inR q 0 (sumL R.ps)
  case false =>
    have hE : Hid (remB (sumL R.ps) cs q = false) := by show _ = _; unfold remB; rw [hin]; rfl
    go_wp2_with fail
    go_ret
    exact ⟨ret_bool hE.out.symm, hB1⟩
  have HIN := Lib.hid hin
  clear hin
  have x0 := hX1.cell 0
  have x1 := hX1.cell 1
  have x2 := hX1.cell 2
  simp only [List.getElem?_toArray, List.getElem?_cons_zero, List.getElem?_cons_succ] at x0 x1 x2
  go_wp2_with fail
  clear x0 x1 x2
  refine (RCalls_any ka kn kc cs pa pn pc ca cn cc ja jn jc R w1 (HR.out.grow hB1 hB1.size) HV.out (HK.out.grow hB1 hB1.size) (by omega)).mono ?_
  rintro e w2 ⟨rfl, hk⟩
  have hB2 := hB1.trans (hk.mono hB1.size)
  have hX2 := hX1.below hk hX1.lt
  clear hX1 hB1 hk
  cases hcb : cB (sumL R.ps) cs
  case false =>
    have hE : Hid (remB (sumL R.ps) cs q = false) := by show _ = _; unfold remB; rw [HIN.out, hcb]; rfl
    go_wp2_with fail
    go_ret
    exact ⟨ret_bool hE.out.symm, hB2⟩
  have HCB := Lib.hid hcb
  clear hcb
  by_cases h60 : kn ≤ 60
  case neg =>
    have hE : Hid (remB (sumL R.ps) cs q = false) := by show _ = _; unfold remB; rw [HIN.out, HCB.out, decide_eq_false (by rw [← HLK.out]; exact h60)]; rfl
    have g1 : decide ((kn : Int) ≤ 60) = false := decide_eq_false (by omega)
    go_wp2_with fail
    go_ret
    exact ⟨ret_bool hE.out.symm, hB2⟩
  have g1 : decide ((kn : Int) ≤ 60) = true := decide_eq_true (by omega)
  by_cases h0 : kn = 0
  case pos =>
    have hE : Hid (remB (sumL R.ps) cs q = true) := by
      show _ = _
      have hn : cs = [] := List.eq_nil_of_length_eq_zero (by rw [← HLK.out]; exact h0)
      unfold remB
      rw [HIN.out, HCB.out, hn]
      rfl
    have g2 : ((kn : Int) == 0) = true := by simp; omega
    go_wp2_with fail
    go_ret
    exact ⟨ret_bool hE.out.symm, hB2⟩
  have g2 : ((kn : Int) == 0) = false := by simp; omega
  have hkl : 0 < cs.length := by rw [← HLK.out]; omega
  obtain ⟨b, off, hA, hbB, c0, -, -, -, -⟩ := KS5.at_ (HK.out.grow hB2 hB2.size) (k := 0) hkl
  have hE : Hid (remB (sumL R.ps) cs q = decide (q ≤ (cs[0]'hkl).place)) := by
    show _ = _
    unfold remB
    rw [HIN.out, HCB.out, decide_eq_true (by rw [← HLK.out]; exact h60)]
    cases cs with
    | nil => exact absurd hkl (Nat.lt_irrefl _)
    | cons d ds => rfl
  generalize (cs[0]'hkl).place = p at c0 hE
  have hk0 : (0 : Int) < (kn : Int) := by omega
  simp only [Nat.zero_mul, Nat.add_zero] at c0
  subst hA
  clear hkl h0
  go_wp2_with fail
  go_ret
  exact ⟨ret_bool hE.out.symm, hB2⟩
set_option maxRecDepth 100000 in
set_option maxHeartbeats 8000000 in
theorem RBefore_any (xa : Option Addr) (xn xc : Nat) (xs : List Int) (ya : Option Addr) (yn yc : Nat) (ys : List Int) (w : World) (hX : SL iC 1 w w.heap.size xa xn xs) (hY : SL iC 1 w w.heap.size ya yn ys) (hxn : xn ≤ 1000) :
    Calls Tryd.prog 53 #[.slice xa xn xc, .slice ya yn yc] w fun e w' => e = .returned (.bool (bfL xs ys)) ∧ Below w.heap.size w w' := by
  have HX := Lib.hid hX
  have HY := Lib.hid hY
  have HLX := Lib.hid hX.1
  have HLY := Lib.hid hY.1
  clear hX hY
  go_enter Tryd.func53, Tryd.ntmps53
  go_wp2_with fail
  go_loopw [5] (fun i wr => ∃ k : Nat, k ≤ xn ∧ k ≤ yn ∧ i = .int .i64 k ∧ Below w.heap.size w wr ∧ Hid (bfL xs ys = bfL (xs.drop k) (ys.drop k)))
    (fun i _ => xn - (intOf i).toNat)
  case atStart => exact ⟨0, Nat.zero_le _, Nat.zero_le _, rfl, Below.refl _ _, rfl⟩
  case round =>
    obtain ⟨k, hkx, hky, rfl, hbr, he⟩ := hrel
    by_cases h1 : k < xn
    case neg =>
      obtain rfl : xn = k := by omega
      have hE : Hid (bfL xs ys = decide ((xn : Int) < (yn : Int))) := by
        show _ = _
        rw [he.out, List.drop_eq_nil_of_le (by have := HLX.out; omega)]
        by_cases hy : xn < yn
        · have hyl : xn < ys.length := by rw [← HLY.out]; exact hy
          rw [List.drop_eq_getElem_cons hyl, decide_eq_true (by omega)]
          rfl
        · rw [List.drop_eq_nil_of_le (by have := HLY.out; omega), decide_eq_false (by omega)]
          rfl
      have g1 : decide ((xn : Int) < (xn : Int)) = false := by simp
      clear he h1
      go_wp2_with fail
      go_ret
      exact ⟨ret_bool (by rw [hE.out]; first | rfl | simp), hbr⟩
    have hkl : k < xs.length := by rw [← HLX.out]; exact h1
    have g1 : decide ((k : Int) < (xn : Int)) = true := decide_eq_true (by omega)
    have g1N : decide (k < xn) = true := decide_eq_true h1
    by_cases h2 : k < yn
    case neg =>
      obtain rfl : yn = k := by omega
      have hE : Hid (bfL xs ys = decide ((xn : Int) < (yn : Int))) := by
        show _ = _
        rw [he.out, List.drop_eq_getElem_cons hkl, List.drop_eq_nil_of_le (show ys.length ≤ yn by have := HLY.out; omega), decide_eq_false (by omega)]
        rfl
      have g2 : decide ((yn : Int) < (yn : Int)) = false := by simp
      clear he h2 hkl
      go_wp2_with fail
      go_ret
      exact ⟨ret_bool (by rw [hE.out]; first | rfl | simp), hbr⟩
    have hkl2 : k < ys.length := by rw [← HLY.out]; exact h2
    have g2 : decide ((k : Int) < (yn : Int)) = true := decide_eq_true (by omega)
    have g2N : decide (k < yn) = true := decide_eq_true h2
    obtain ⟨b, off, hA, -, c0⟩ := IS.at_ (HX.out.grow hbr hbr.size) (k := k) hkl
    obtain ⟨b2, off2, hA2, -, d0⟩ := IS.at_ (HY.out.grow hbr hbr.size) (k := k) hkl2
    have hs : bfL (xs.drop k) (ys.drop k) = if (xs[k]'hkl) = (ys[k]'hkl2) then bfL (xs.drop (k + 1)) (ys.drop (k + 1)) else decide ((xs[k]'hkl) < (ys[k]'hkl2)) := by
      rw [List.drop_eq_getElem_cons hkl, List.drop_eq_getElem_cons hkl2, bfL]
    have HSS := Lib.hid hs
    clear hs
    generalize xs[k]'hkl = x at c0 HSS
    generalize ys[k]'hkl2 = y at d0 HSS
    subst hA
    subst hA2
    have hi1 : (0 : Int) ≤ (k : Int) := by omega
    have hi2 : (k : Int) < (xn : Int) := by omega
    have hi3 : (k : Int) < (yn : Int) := by omega
    clear hkl hkl2
    by_cases hxy : x = y
    case pos =>
      have hE : Hid (bfL xs ys = bfL (xs.drop (k + 1)) (ys.drop (k + 1))) := by show _ = _; rw [he.out, HSS.out, if_pos hxy]
      subst hxy
      have gx : (x != x) = false := by simp
      clear he HSS
      go_wp2_with fail
      go_quiet (fail)
      go_wp2_with fail
      go_roundw
      case rel => exact ⟨k + 1, by omega, by omega, by go_num, below_drewN hbr _, hE⟩
      case measure => simp [intOf]; omega
    have hE : Hid (bfL xs ys = decide (x < y)) := by show _ = _; rw [he.out, HSS.out, if_neg hxy]
    have gx : (x != y) = true := by simpa using hxy
    have gx2 : (x == y) = false := by simpa using hxy
    obtain ⟨d, hd⟩ : ∃ d, d = decide (x < y) := ⟨_, rfl⟩
    have HD2 : Hid (bfL xs ys = d) := by show _ = _; rw [hE.out, hd]
    have gd : decide (x < y) = d := hd.symm
    have c0' := fun n => (World.cell?_drewN wr n _).trans c0
    have d0' := fun n => (World.cell?_drewN wr n _).trans d0
    clear he HSS hxy hE hd
    go_wp2_with fail
    go_quiet (fail)
    go_wp2_with fail
    go_quiet (fail)
    go_wp2_with fail
    go_ret
    exact ⟨ret_bool HD2.out.symm, below_drewN (below_drewN hbr _) _⟩
end Go.Proofs.YtijcbfhlhgjedaaDoor
