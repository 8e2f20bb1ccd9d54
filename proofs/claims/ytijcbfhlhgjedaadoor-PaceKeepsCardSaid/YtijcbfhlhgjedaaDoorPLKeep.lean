/- The law function PaceKeeps, walked: it returns true. -/
import Derived.Test.YtijcbfhlhgjedaaDoorPRunK
import Derived.Test.YtijcbfhlhgjedaaDoorPCBBase
import Derived.Test.YtijcbfhlhgjedaaDoorPCBRoad
import Derived.Test.YtijcbfhlhgjedaaDoorPCBLeaf
import Derived.Test.YtijcbfhlhgjedaaDoorPCBCheck
import Derived.Test.YtijcbfhlhgjedaaDoorPCBValid
import Derived.Test.YtijcbfhlhgjedaaDoorPCBFind
import Derived.Test.YtijcbfhlhgjedaaDoorPCBReg
import Derived.Test.YtijcbfhlhgjedaaDoorPCBGrouped
import Derived.Test.YtijcbfhlhgjedaaDoorPCBPG
import Derived.Test.YtijcbfhlhgjedaaDoorPCBBackM
import Derived.Test.YtijcbfhlhgjedaaDoorPCBStr
import Derived.Test.YtijcbfhlhgjedaaDoorPCBOpen
import Derived.Test.YtijcbfhlhgjedaaDoorPCBReg7
import Derived.Test.YtijcbfhlhgjedaaDoorPCSpd
import Derived.Test.YtijcbfhlhgjedaaDoorPCPRow
import Derived.Test.YtijcbfhlhgjedaaDoorPCMtr
import Derived.Test.YtijcbfhlhgjedaaDoorPCReg8
import Derived.Test.YtijcbfhlhgjedaaDoorPCSpCk
import Derived.Test.YtijcbfhlhgjedaaDoorPCPlanM
import Derived.Test.YtijcbfhlhgjedaaDoorPCLast
import Derived.Test.YtijcbfhlhgjedaaDoorPCBeg
import Derived.Test.YtijcbfhlhgjedaaDoorPCBegB
import Derived.Test.YtijcbfhlhgjedaaDoorPCRoom
import Derived.Test.YtijcbfhlhgjedaaDoorPCCallsB
import Derived.Test.YtijcbfhlhgjedaaDoorPCPlan
import Derived.Test.YtijcbfhlhgjedaaDoorPCBetw
import Derived.Test.YtijcbfhlhgjedaaDoorPCKn03P
import Derived.Test.YtijcbfhlhgjedaaDoorPCRef3
import Derived.Test.YtijcbfhlhgjedaaDoorPCRCallsB
import Derived.Test.YtijcbfhlhgjedaaDoorPKeepP
namespace Go.Proofs.YtijcbfhlhgjedaaDoor
open Go.RowKit Go.Shelf Go.Sort Go.Proofs

theorem btw_stp {S : Spd} {R : Road} {f t : Nat} (h1 : f ≤ t) (h2 : (t : Int) ≤ sumL R.ps) : btw S R f t = (tQ S R.ps t - tQ S R.ps f, tSl S R.ps t - tSl S R.ps f, 0) := by
  unfold btw
  rw [if_pos (by simp [inR]; omega), Int.toNat_natCast, Int.toNat_natCast]
theorem getD_blk {xs : List Int} {j : Nat} (h : j < xs.length) : (blkI xs)[j]? = some (.int .i64 (xs.getD j 0)) := blkI_at (by rw [List.getD_eq_getElem?_getD, List.getElem?_eq_getElem h]; rfl)
/-- What is wanted at the passings: as early or as late as possible. -/
def wantW (L : List PassR) (t : Nat) (i : Nat) : Int := if t = 1 then (L.getD i zP).late else (L.getD i zP).early
theorem GI.rg {S : Spd} {R : Road} {N : Nat} {ps : List PassR} {W : Nat → Int} {xs : List Int} {i : Nat} (h : GI S R N ps W xs i N) (hS : SOK S) (hv : OK R) : ∀ x ∈ xs, -9223372036854775808 ≤ x ∧ x ≤ 9223372036854775807 := by
  intro x hx
  obtain ⟨j, hj, rfl⟩ := List.getElem_of_mem hx
  have hr : Runs S R j (fun j => xs.getD j 0) := ⟨h.z, fun k hk => h.s k (by have := h.l; omega)⟩
  have := hr.bd hS hv (Nat.le_refl j)
  rw [List.getD_eq_getElem?_getD, List.getElem?_eq_getElem hj] at this
  simp only [Option.getD_some] at this
  omega
theorem GI.up {S : Spd} {R : Road} {N : Nat} {ps : List PassR} {W : Nat → Int} {xs : List Int} {i k : Nat} (h : GI S R N ps W xs i k) : xs.length = N + 1 := h.l
set_option maxRecDepth 100000 in
set_option maxHeartbeats 8000000 in
theorem LKeep_walk (pa : Option Addr) (pn pc : Nat) (ca : Option Addr) (cn cc : Nat) (ja : Option Addr) (jn jc : Nat) (R : Road) (ra : Option Addr) (rn rc : Nat) (sa : Option Addr) (sn sc : Nat) (S : Spd) (la : Option Addr) (ln lc : Nat) (ls : List PassR) (ua : Option Addr) (un uc : Nat) (us : List Int) (w : World)
    (h : RD w w.heap.size pa pn ca cn ja jn R) (hD : SD w w.heap.size ra rn sa sn S) (hL : SL paC 3 w w.heap.size la ln ls) (hU : SL iC 1 w w.heap.size ua un us) (hmx : pn ≤ 9223372036854775807) (hrg : ∀ x ∈ us, -9223372036854775808 ≤ x ∧ x ≤ 9223372036854775807) :
    Calls Tryd.prog 11 #[.agg #[.slice pa pn pc, .slice ca cn cc, .slice ja jn jc], .agg #[.int .i64 S.least, .int .i64 S.most, .slice ra rn rc, .slice sa sn sc], .slice la ln lc, .slice ua un uc] w fun e w' => e = .returned (.bool true) ∧ Below w.heap.size w w' := by
  have hmo : Tryd.prog.follows .mixedOrders = true := by kernel_rfl
  have HRG := Lib.hid hrg
  clear hrg
  have HR := Lib.hid h
  have HD := Lib.hid hD
  have HL := Lib.hid hL
  have HU := Lib.hid hU
  clear h hD hL hU
  obtain ⟨w0, hw0⟩ : ∃ w0, w0 = (w.alloc (.cells #[.slice pa pn pc, .slice ca cn cc, .slice ja jn jc] 26)).alloc (.cells #[.int .i64 S.least, .int .i64 S.most, .slice ra rn rc, .slice sa sn sc] 30) := ⟨_, rfl⟩
  have hB0 : Below w.heap.size w w0 := by rw [hw0]; exact ((Below.refl w.heap.size w).alloc (Nat.le_refl _) _).alloc (by simp) _
  have hX0 : BK w0 (w.heap.size) 26 #[.slice pa pn pc, .slice ca cn cc, .slice ja jn jc] := by rw [hw0]; exact ((BK.new w 26 #[.slice pa pn pc, .slice ca cn cc, .slice ja jn jc])).alloc _
  have hY0 : BK w0 (w.heap.size + 1) 30 #[.int .i64 S.least, .int .i64 S.most, .slice ra rn rc, .slice sa sn sc] := by rw [hw0]; have := BK.new (w.alloc (.cells #[.slice pa pn pc, .slice ca cn cc, .slice ja jn jc] 26)) 30 #[.int .i64 S.least, .int .i64 S.most, .slice ra rn rc, .slice sa sn sc]; rw [World.size_alloc] at this; exact this
  go_enter Tryd.func11, Tryd.ntmps11
  go_wp2_with fail
  rw [← hw0]
  clear hw0
  have x0 := hX0.cell 0
  have x1 := hX0.cell 1
  have x2 := hX0.cell 2
  have y0 := hY0.cell 0
  have y1 := hY0.cell 1
  have y2 := hY0.cell 2
  have y3 := hY0.cell 3
  simp only [List.getElem?_toArray, List.getElem?_cons_zero, List.getElem?_cons_succ] at x0 x1 x2 y0 y1 y2 y3
  go_wp2_with fail
  clear x0 x1 x2 y0 y1 y2 y3
  refine (few_any pa pn pc ca cn cc ja jn jc R w0 (HR.out.grow hB0 hB0.size) hmx).mono ?_
  rintro e w1 ⟨rfl, hk⟩
  have hB1 := hB0.trans (hk.mono hB0.size)
  have hX1 := hX0.below hk hX0.lt
  have hY1 := hY0.below hk hY0.lt
  clear hX0 hY0 hB0 hk
  cases hfew : fewB R
  case false =>
    go_wp2_with fail
    have hBX := hB1
    refine (known_any _).mono ?_
    rintro e w9 ⟨rfl, hk⟩
    go_wp2_with fail
    go_ret
    exact ⟨rfl, hBX.trans (hk.mono hBX.size)⟩
  have x0 := hX1.cell 0
  have x1 := hX1.cell 1
  have x2 := hX1.cell 2
  have y0 := hY1.cell 0
  have y1 := hY1.cell 1
  have y2 := hY1.cell 2
  have y3 := hY1.cell 3
  simp only [List.getElem?_toArray, List.getElem?_cons_zero, List.getElem?_cons_succ] at x0 x1 x2 y0 y1 y2 y3
  go_wp2_with fail
  clear x0 x1 x2 y0 y1 y2 y3
  refine (quick_any3 ra rn rc sa sn sc S w1 (HD.out.grow hB1 hB1.size)).mono ?_
  rintro e w2 ⟨rfl, hk⟩
  have hB2 := hB1.trans (hk.mono hB1.size)
  have hX2 := hX1.below hk hX1.lt
  have hY2 := hY1.below hk hY1.lt
  clear hX1 hY1 hB1 hk
  cases hqu : quickB S
  case false =>
    go_wp2_with fail
    have hBX := hB2
    refine (known_any _).mono ?_
    rintro e w9 ⟨rfl, hk⟩
    go_wp2_with fail
    go_ret
    exact ⟨rfl, hBX.trans (hk.mono hBX.size)⟩
  clear hfew hqu
  have x0 := hX2.cell 0
  have x1 := hX2.cell 1
  have x2 := hX2.cell 2
  have y0 := hY2.cell 0
  have y1 := hY2.cell 1
  have y2 := hY2.cell 2
  have y3 := hY2.cell 3
  simp only [List.getElem?_toArray, List.getElem?_cons_zero, List.getElem?_cons_succ] at x0 x1 x2 y0 y1 y2 y3
  go_wp2_with fail
  clear x0 x1 x2 y0 y1 y2 y3
  refine (fine_any pa pn pc ca cn cc ja jn jc R ra rn rc sa sn sc S w2 (HR.out.grow hB2 hB2.size) (HD.out.grow hB2 hB2.size)).mono ?_
  rintro e w3 ⟨rfl, hk⟩
  have hB3 := hB2.trans (hk.mono hB2.size)
  have hX3 := hX2.below hk hX2.lt
  have hY3 := hY2.below hk hY2.lt
  clear hX2 hY2 hB2 hk
  cases hvs : val R && spB S
  case false =>
    go_wp2_with fail
    have hBX := hB3
    refine (known_any _).mono ?_
    rintro e w9 ⟨rfl, hk⟩
    go_wp2_with fail
    go_ret
    exact ⟨rfl, hBX.trans (hk.mono hBX.size)⟩
  have HVS := Lib.hid hvs
  have HV : Hid (OK R) := by have := hvs; rw [Bool.and_eq_true] at this; exact (val_iff R).1 this.1
  have HS : Hid (SOK S) := by have := hvs; rw [Bool.and_eq_true] at this; exact (spB_iff S).1 this.2
  clear hvs
  by_cases gl0 : ln ≤ 20
  case neg =>
    have gl : decide ((20 : Int) < (ln : Int)) = true := decide_eq_true (by omega)
    have x0 := hX3.cell 0
    have x1 := hX3.cell 1
    have x2 := hX3.cell 2
    have y0 := hY3.cell 0
    have y1 := hY3.cell 1
    have y2 := hY3.cell 2
    have y3 := hY3.cell 3
    simp only [List.getElem?_toArray, List.getElem?_cons_zero, List.getElem?_cons_succ] at x0 x1 x2 y0 y1 y2 y3
    go_wp2_with fail
    have hBX := hB3
    refine (known_any _).mono ?_
    rintro e w9 ⟨rfl, hk⟩
    go_wp2_with fail
    go_ret
    exact ⟨rfl, hBX.trans (hk.mono hBX.size)⟩
  have gl : decide ((20 : Int) < (ln : Int)) = false := decide_eq_false (by omega)
  have x0 := hX3.cell 0
  have x1 := hX3.cell 1
  have x2 := hX3.cell 2
  have y0 := hY3.cell 0
  have y1 := hY3.cell 1
  have y2 := hY3.cell 2
  have y3 := hY3.cell 3
  simp only [List.getElem?_toArray, List.getElem?_cons_zero, List.getElem?_cons_succ] at x0 x1 x2 y0 y1 y2 y3
  go_wp2_with fail
  clear x0 x1 x2 y0 y1 y2 y3
  refine (RPassings_any la ln lc ls pa pn pc ca cn cc ja jn jc R w3 (HR.out.grow hB3 hB3.size) HV.out (HL.out.grow hB3 hB3.size) (by omega)).mono ?_
  rintro e w4 ⟨rfl, hk⟩
  have hB4 := hB3.trans (hk.mono hB3.size)
  have hX4 := hX3.below hk hX3.lt
  have hY4 := hY3.below hk hY3.lt
  clear hX3 hY3 hB3 hk
  cases hpb : pB (sumL R.ps) ls
  case false =>
    go_wp2_with fail
    have hBX := hB4
    refine (known_any _).mono ?_
    rintro e w9 ⟨rfl, hk⟩
    go_wp2_with fail
    go_ret
    exact ⟨rfl, hBX.trans (hk.mono hBX.size)⟩
  have HPB := Lib.hid hpb
  have HPO := Lib.hid ((pB_iff _ _).1 hpb)
  clear hpb
  by_cases gm0 : un ≤ 200
  case neg =>
    have gm : decide ((200 : Int) < (un : Int)) = true := decide_eq_true (by omega)
    have x0 := hX4.cell 0
    have x1 := hX4.cell 1
    have x2 := hX4.cell 2
    have y0 := hY4.cell 0
    have y1 := hY4.cell 1
    have y2 := hY4.cell 2
    have y3 := hY4.cell 3
    simp only [List.getElem?_toArray, List.getElem?_cons_zero, List.getElem?_cons_succ] at x0 x1 x2 y0 y1 y2 y3
    go_wp2_with fail
    have hBX := hB4
    refine (known_any _).mono ?_
    rintro e w9 ⟨rfl, hk⟩
    go_wp2_with fail
    go_ret
    exact ⟨rfl, hBX.trans (hk.mono hBX.size)⟩
  have gm : decide ((200 : Int) < (un : Int)) = false := decide_eq_false (by omega)
  have x0 := hX4.cell 0
  have x1 := hX4.cell 1
  have x2 := hX4.cell 2
  have y0 := hY4.cell 0
  have y1 := hY4.cell 1
  have y2 := hY4.cell 2
  have y3 := hY4.cell 3
  simp only [List.getElem?_toArray, List.getElem?_cons_zero, List.getElem?_cons_succ] at x0 x1 x2 y0 y1 y2 y3
  go_wp2_with fail
  clear x0 x1 x2 y0 y1 y2 y3
  refine (R3Length_any pa pn pc ca cn cc ja jn jc R w4 (HR.out.grow hB4 hB4.size) HV.out).mono ?_
  rintro e w5 ⟨rfl, hk⟩
  have hB5 := hB4.trans (hk.mono hB4.size)
  have hX5 := hX4.below hk hX4.lt
  have hY5 := hY4.below hk hY4.lt
  clear hX4 hY4 hB4 hk
  obtain ⟨N, hN⟩ : ∃ N : Nat, sumL R.ps = (N : Int) := ⟨(sumL R.ps).toNat, by have := (sumL_bd R.ps HV.out.pk).1; omega⟩
  have hN1 : N ≤ 100000 := by have := HV.out.n1; omega
  have HN := Lib.hid hN
  rw [hN]
  clear hN
  by_cases hnu : un = N + 1
  case neg =>
    have g0 : ((un : Int) == (N : Int) + 1) = false := by simp; omega
    have g0' : ((un : Int) != (N : Int) + 1) = true := by simp; omega
    go_wp2_with fail
    have hBX := hB5
    refine (known_any _).mono ?_
    rintro e w9 ⟨rfl, hk⟩
    go_wp2_with fail
    go_ret
    exact ⟨rfl, hBX.trans (hk.mono hBX.size)⟩
  have g0 : ((un : Int) == (N : Int) + 1) = true := by simp; omega
  have g0' : ((un : Int) != (N : Int) + 1) = false := by simp; omega
  have HNU := Lib.hid hnu
  clear hnu
  have HLU := Lib.hid HU.out.1
  have HLL := Lib.hid HL.out.1
  have x0 := hX5.cell 0
  have x1 := hX5.cell 1
  have x2 := hX5.cell 2
  have y0 := hY5.cell 0
  have y1 := hY5.cell 1
  have y2 := hY5.cell 2
  have y3 := hY5.cell 3
  simp only [List.getElem?_toArray, List.getElem?_cons_zero, List.getElem?_cons_succ] at x0 x1 x2 y0 y1 y2 y3
  go_wp2_with fail
  clear x0 x1 x2 y0 y1 y2 y3
  clear g0 g0' gl gm
  have HFA : ∀ ps : List PassR, pB (sumL R.ps) ps = true → fitAll S R ps us = (fitM S R ps us, 0) := fun ps h => fitAll_ok (by unfold fitOkB; rw [HVS.out, h, HN.out, Int.toNat_natCast, decide_eq_true (by rw [← HLU.out]; exact HNU.out)]; rfl)
  have HFK := Lib.hid (fit_keeps (us := us) (N := N) HS.out HV.out HN.out HPO.out (by rw [← HLU.out]; exact HNU.out))
  obtain ⟨gd, hgd⟩ : ∃ gd, gd = fitM S R ls us := ⟨_, rfl⟩
  have HFA1 : Hid (fitAll S R ls us = (gd, 0)) := by show _ = _; rw [hgd]; exact HFA ls HPB.out
  rw [← hgd] at HFK
  refine (Fits_all pa pn pc ca cn cc ja jn jc R ra rn rc sa sn sc S la ln lc ls ua un uc us w5 (HR.out.grow hB5 hB5.size) (HD.out.grow hB5 hB5.size) (HL.out.grow hB5 hB5.size) (HU.out.grow hB5 hB5.size) (by omega) (by omega) HRG.out).mono ?_
  rintro e w6 ⟨rfl, hk⟩
  rw [HFA1.out]
  dsimp only
  have hB6 := hB5.trans (hk.mono hB5.size)
  have hX6 := hX5.below hk hX5.lt
  have hY6 := hY5.below hk hY5.lt
  clear hX5 hY5 hB5 hk
  have HFA' := Lib.hid HFA
  clear HFA hgd
  have x0 := hX6.cell 0
  have x1 := hX6.cell 1
  have x2 := hX6.cell 2
  have y0 := hY6.cell 0
  have y1 := hY6.cell 1
  have y2 := hY6.cell 2
  have y3 := hY6.cell 3
  simp only [List.getElem?_toArray, List.getElem?_cons_zero, List.getElem?_cons_succ] at x0 x1 x2 y0 y1 y2 y3
  go_wp2_with fail
  clear x0 x1 x2 y0 y1 y2 y3
  refine (Narrow_all pa pn pc ca cn cc ja jn jc R ra rn rc sa sn sc S la ln lc ls w6 (HR.out.grow hB6 hB6.size) (HD.out.grow hB6 hB6.size) (HL.out.grow hB6 hB6.size) (by omega)).mono ?_
  rintro e w7 ⟨A, n, c, rfl, hQ, hk⟩
  rw [nrwAll_ok (by rw [HVS.out, HPB.out]; rfl)] at hQ ⊢
  have hQ7 := hQ
  have hB7 := hB6.trans (hk.mono hB6.size)
  have hX7 := hX6.below hk hX6.lt
  have hY7 := hY6.below hk hY6.lt
  clear hX6 hY6 hB6 hk
  cases hnk : nrwOk (nrwR S R ls)
  case false =>
    rw [hnk] at hQ7
    rw [if_neg (by decide)] at hQ7 ⊢
    dsimp only
    obtain rfl : gd = false := by
      rw [Bool.eq_false_iff]
      intro h
      have := HFK.out.2 h
      rw [hnk] at this
      cases this
    clear hQ7 hnk
    go_wp2_with fail
    have hBX := hB7
    refine (known_any _).mono ?_
    rintro e w9 ⟨rfl, hk⟩
    go_wp2_with fail
    go_ret
    exact ⟨rfl, hBX.trans (hk.mono hBX.size)⟩
  have HNI := Lib.hid (nrw_inv (qm_of HS.out HV.out) HPO.out)
  have HNA : Hid (nrwR S R (nrwR S R ls) = nrwR S R ls) := nrw_again (qm_of HS.out HV.out) HPO.out
  have HPK : Hid (POK (sumL R.ps) (nrwR S R ls)) := nrw_pok HPO.out HNI.out hnk
  have HNE : Hid (RunSeq (qS S R) (sS S R) ls fun i => ((nrwR S R ls).getD i zP).early) := early_seq HNI.out hnk
  have HNL : Hid (RunSeq (qS S R) (sS S R) ls fun i => ((nrwR S R ls).getD i zP).late) := late_seq HNI.out hnk
  have HNN : Hid (nrwAll S R (nrwR S R ls) = (nrwR S R ls, 0)) := by
    show _ = _
    rw [nrwAll_ok (by rw [HVS.out, pB_ok HPK.out]; rfl), HNA.out, hnk]
    rfl
  have HFN : Hid (fitAll S R (nrwR S R ls) us = (gd, 0)) := by
    show _ = _
    rw [HFA'.out _ (pB_ok HPK.out), HFK.out.1]
  have HNI' : Hid (NI (qS S R) (sS S R) ls (nrwR S R ls) ls.length 0) := HNI.out
  rw [hnk] at hQ7
  rw [if_pos rfl] at hQ7 ⊢
  dsimp only at hQ7 ⊢
  obtain ⟨L, hL⟩ : ∃ L, L = nrwR S R ls := ⟨_, rfl⟩
  rw [← hL] at hQ7 HPK HNE HNL HNN HFN HNI'
  clear hL HNA HNI hnk
  have HQ := Lib.hid hQ7
  have hn1 : n = ln := by rw [HQ.out.1, HNI'.out.l, ← HLL.out]
  subst hn1
  clear hQ7 HFK HFA' HFA1
  have x0 := hX7.cell 0
  have x1 := hX7.cell 1
  have x2 := hX7.cell 2
  have y0 := hY7.cell 0
  have y1 := hY7.cell 1
  have y2 := hY7.cell 2
  have y3 := hY7.cell 3
  simp only [List.getElem?_toArray, List.getElem?_cons_zero, List.getElem?_cons_succ] at x0 x1 x2 y0 y1 y2 y3
  go_wp2_with fail
  clear x0 x1 x2 y0 y1 y2 y3
  refine (Fits_all pa pn pc ca cn cc ja jn jc R ra rn rc sa sn sc S A n c L ua un uc us w7 (HR.out.grow hB7 hB7.size) (HD.out.grow hB7 hB7.size) HQ.out (HU.out.grow hB7 hB7.size) (by omega) (by omega) HRG.out).mono ?_
  rintro e w8 ⟨rfl, hk⟩
  rw [HFN.out]
  dsimp only
  have HQ8 := Lib.hid (HQ.out.grow hk hk.size)
  have hB8 := hB7.trans (hk.mono hB7.size)
  have hX8 := hX7.below hk hX7.lt
  have hY8 := hY7.below hk hY7.lt
  clear hX7 hY7 hB7 hk
  have x0 := hX8.cell 0
  have x1 := hX8.cell 1
  have x2 := hX8.cell 2
  have y0 := hY8.cell 0
  have y1 := hY8.cell 1
  have y2 := hY8.cell 2
  have y3 := hY8.cell 3
  simp only [List.getElem?_toArray, List.getElem?_cons_zero, List.getElem?_cons_succ] at x0 x1 x2 y0 y1 y2 y3
  go_wp2_with fail
  clear x0 x1 x2 y0 y1 y2 y3
  refine (Narrow_all pa pn pc ca cn cc ja jn jc R ra rn rc sa sn sc S A n c L w8 (HR.out.grow hB8 hB8.size) (HD.out.grow hB8 hB8.size) HQ8.out (by omega)).mono ?_
  rintro e w9 ⟨A2, n2, c2, rfl, hQ2, hk⟩
  rw [HNN.out] at hQ2 ⊢
  dsimp only at hQ2 ⊢
  have HQ9 := Lib.hid (HQ8.out.grow hk hk.size)
  have HR2 := Lib.hid hQ2
  have hB9 := hB8.trans (hk.mono hB8.size)
  have hX9 := hX8.below hk hX8.lt
  have hY9 := hY8.below hk hY8.lt
  clear hX8 hY8 hB8 hk
  obtain rfl : n = n2 := by rw [HQ9.out.1, HR2.out.1]
  have gnn : ((n : Int) != (n : Int)) = false := by simp
  have ggd : (gd != gd) = false := by simp
  have gnn' : ((n : Int) == (n : Int)) = true := by simp
  have ggd' : (gd == gd) = true := by simp
  clear hQ2 HQ HQ8 HFN HNN
  go_wp2_with fail
  clear gnn ggd gnn' ggd'
  have hz9 := hB9.size
  have HLN := Lib.hid HQ9.out.1
  go_loopw [17] (fun i wx => ∃ k : Nat, k ≤ n ∧ i = .int .i64 k ∧ Below w9.heap.size w9 wx)
    (fun i _ => n - (intOf i).toNat)
  case atStart => exact ⟨0, Nat.zero_le _, rfl, Below.refl _ _⟩
  case round =>
    obtain ⟨k, hk, rfl, hbx⟩ := hrel
    have hBx := hB9.trans (hbx.mono hz9)
    by_cases hlt : k < n
    case pos =>
      have hkl : k < L.length := by rw [← HLN.out]; exact hlt
      have hkl2 : k < ls.length := by rw [← HLL.out]; exact hlt
      obtain ⟨b1, o1, hA1, _, d0, d1, d2⟩ := PA3.at_ (HQ9.out.grow hbx hbx.size) (k := k) hkl
      obtain ⟨b2, o2, hA2, _, e0, e1, e2⟩ := PA3.at_ (HR2.out.grow hbx hbx.size) (k := k) hkl
      obtain ⟨b3, o3, hA3, _, f0, f1, f2⟩ := PA3.at_ (HL.out.grow hBx hBx.size) (k := k) hkl2
      have hp := HNI'.out.p k
      have hr := HNI'.out.r k hkl2
      rw [getD_at hkl, getD_at hkl2] at hp hr
      generalize L[k]'hkl = x at d0 d1 d2 e0 e1 e2 hp hr
      generalize ls[k]'hkl2 = y at f0 f1 f2 hp hr
      obtain ⟨xp, xe, xl⟩ := x
      obtain ⟨yp, ye, yl⟩ := y
      dsimp only at d0 d1 d2 e0 e1 e2 f0 f1 f2 hp hr
      subst hp
      have g1 : decide (xe < ye) = false := decide_eq_false (by omega)
      have g2 : decide (yl < xl) = false := decide_eq_false (by omega)
      have g3 : (xp != xp) = false := by simp
      have g4 : (xp == xp) = true := by simp
      have hi1 : (0 : Int) ≤ (k : Int) := by omega
      have hi2 : (k : Int) < (n : Int) := by omega
      clear hkl hkl2 hr
      subst hA1
      subst hA2
      subst hA3
      go_wp2_with fail
      go_quiet (fail)
      go_wp2_with fail
      go_roundw
      case rel => exact ⟨k + 1, by omega, by go_num, below_drewN hbx _⟩
      case measure => simp [intOf]; omega
    obtain rfl : n = k := by omega
    obtain ⟨wB, hwB⟩ : ∃ wB, wB = wr := ⟨_, rfl⟩
    rw [← hwB] at hbx hBx ⊢
    have hXB := hX9.below hbx hX9.lt
    have hYB := hY9.below hbx hY9.lt
    have HQB := Lib.hid (HQ9.out.grow hbx hbx.size)
    have hBB := hBx
    clear hwB hX9 hY9 hbx hBx hlt hk
    have hzB := hBB.size
    go_wp2_with fail
    go_loopw [18] (fun i wr => ∃ t : Nat, t ≤ 2 ∧ i = .int .i64 t ∧ Below wB.heap.size wB wr)
      (fun i _ => 2 - (intOf i).toNat)
    case atStart => exact ⟨0, Nat.zero_le _, rfl, Below.refl _ _⟩
    case round =>
      obtain ⟨t, ht, rfl, hbr⟩ := hrel
      obtain ⟨wL, hwL⟩ : ∃ wL, wL = wr := ⟨_, rfl⟩
      rw [← hwL] at hbr ⊢
      clear hwL
      have hBr := hBB.trans (hbr.mono hzB)
      by_cases hlt : t < 2
      case neg =>
        obtain rfl : t = 2 := by omega
        go_wp2_with fail
        have hBX := hBr
        refine (known_any _).mono ?_
        rintro e w9 ⟨rfl, hk⟩
        go_wp2_with fail
        go_ret
        exact ⟨rfl, hBX.trans (hk.mono hBX.size)⟩
      obtain ⟨W, hW⟩ : ∃ W, W = wantW L t := ⟨_, rfl⟩
      have HW : Hid (W = wantW L t) := hW
      have HSQ : Hid (RunSeq (qS S R) (sS S R) ls W) := by
        show RunSeq _ _ _ _
        rw [hW]
        rcases (show t = 0 ∨ t = 1 by omega) with rfl | rfl
        · exact HNE.out
        · exact HNL.out
      clear hW
      have hzr := hBr.size
      have hmk := make_ints N hN1 wL
      rw [show (N : Int) + 1 = (un : Int) by have := HNU.out; omega] at hmk
      have hRun0 := BK.new wL 3 (blkI (List.replicate (N + 1) 0))
      obtain ⟨wm, hwm⟩ : ∃ wm, wm = wL.alloc (.cells (blkI (List.replicate (N + 1) 0)) 3) := ⟨_, rfl⟩
      rw [← hwm] at hRun0 hmk
      have hbm : Below wL.heap.size wL wm := by rw [hwm]; exact (Below.refl _ _).alloc (Nat.le_refl _) _
      clear hwm
      have g0 : decide ((t : Int) < 2) = true := decide_eq_true (by omega)
      have HT := Lib.hid hlt
      clear ht hlt
      go_wp2_with fail
      clear hmk g0
      have hlR := hRun0.lt
      have HG0 : Hid (GI S R N ls W (List.replicate (N + 1) 0) 0 0 ∧ (0 < n → LeftT S R ls W 0 0 0)) := ⟨GI.start, fun h => left_start HPO.out HSQ.out (by rw [← HLL.out]; exact h)⟩
      have hz0 : (List.replicate (N + 1) (0 : Int)).getD 0 0 = 0 := (GI.start (S := S) (R := R) (N := N) (ps := ls) (W := W)).z
      go_loopw [20, 21, 22] (fun a pl i wx => ∃ (j k : Nat) (xs : List Int), j ≤ n ∧ i = .int .i64 j ∧ pl = .int .i64 k ∧ a = .int .i64 (xs.getD k 0) ∧ k ≤ N ∧ BK wx wL.heap.size 3 (blkI xs) ∧ Hid (GI S R N ls W xs j k ∧ (j < n → LeftT S R ls W (xs.getD k 0) j k)) ∧ Below wL.heap.size wL wx ∧ wL.heap.size < wx.heap.size)
        (fun _ _ i _ => n - (intOf i).toNat)
      case atStart => exact ⟨0, 0, _, Nat.zero_le _, rfl, rfl, by rw [hz0], Nat.zero_le _, hRun0, by show _ ∧ _; rw [hz0]; exact HG0.out, hbm, hlR⟩
      clear hRun0 hbm hlR HG0 hz0 wm
      case round =>
        obtain ⟨j, k, xs, hj, rfl, rfl, rfl, hkN, hXs, hg, hbx, hlx⟩ := hrel
        have hBx := hBr.trans (hbx.mono hzr)
        by_cases hlt : j < n
        case pos =>
          have HJN := Lib.hid hlt
          have hjl : j < L.length := by rw [← HLN.out]; exact hlt
          have hjl2 : j < ls.length := by rw [← HLL.out]; exact hlt
          obtain ⟨b1, o1, hA1, -, d0, d1, d2⟩ := PA3.at_ (HQB.out.grow (hbr.trans (hbx.mono hbr.size)) (hbr.trans (hbx.mono hbr.size)).size) (k := j) hjl
          have hpl := pl_at HPO.out hjl2
          have hp := HNI'.out.p j
          obtain ⟨z, hz⟩ : ∃ z : Nat, (ls.getD j zP).place = (z : Int) := ⟨(ls.getD j zP).place.toNat, by omega⟩
          have HZ : Hid ((ls.getD j zP).place.toNat = z) := by show _ = _; rw [hz, Int.toNat_natCast]
          have HZN : Hid ((z : Int) ≤ sumL R.ps) := by show _ ≤ _; rw [← hz]; exact hpl.2
          rw [hz] at hp
          have HPZ : Hid ((L.getD j zP).place = (z : Int)) := hp
          rw [← getD_at hjl] at d0 d1 d2
          obtain ⟨e1, hE1⟩ : ∃ e1, e1 = (L.getD j zP).early := ⟨_, rfl⟩
          obtain ⟨e2, hE2⟩ : ∃ e2, e2 = (L.getD j zP).late := ⟨_, rfl⟩
          rw [hp] at d0
          rw [← hE1] at d1
          rw [← hE2] at d2
          have hi1 : (0 : Int) ≤ (j : Int) := by omega
          have hi2 : (j : Int) < (n : Int) := by omega
          subst hA1
          clear hpl hp hz hjl hjl2 hlt
          rcases (show t = 0 ∨ t = 1 by have := HT.out; omega) with ht0 | ht1
          · as_aux_lemma =>
              have HWj : Hid (W j = e1) := by show _ = _; rw [HW.out]; unfold wantW; rw [if_neg (by omega)]; exact hE1.symm
              have gt : ((t : Int) == 1) = false := by simp; omega
              clear hE1 hE2 ht0
              go_wp2_with fail
              clear d0 d1 d2
              go_loopw [20, 21] (fun a pl wy => ∃ (k : Nat) (xs : List Int), pl = .int .i64 k ∧ a = .int .i64 (xs.getD k 0) ∧ k ≤ N ∧ BK wy wL.heap.size 3 (blkI xs) ∧ Hid (GI S R N ls W xs j k ∧ LeftT S R ls W (xs.getD k 0) j k) ∧ Below wL.heap.size wL wy ∧ wL.heap.size < wy.heap.size)
                (fun _ pl _ => z - (intOf pl).toNat)
              case atStart => exact ⟨k, xs, rfl, rfl, hkN, hXs, ⟨hg.out.1, hg.out.2 HJN.out⟩, hbx, hlx⟩
              clear hXs hg hbx hlx hkN hBx
              case round =>
                obtain ⟨k, xs, rfl, rfl, hkN, hXs, hg, hby, hly⟩ := hrel
                have hBy := hBr.trans (hby.mono hzr)
                have hXy := hXB.below (hbr.trans (hby.mono hbr.size)) hXB.lt
                have hYy := hYB.below (hbr.trans (hby.mono hbr.size)) hYB.lt
                have hjl : j < L.length := by rw [← HLN.out]; exact HJN.out
                obtain ⟨b1, o1, hA1, -, d0, -, -⟩ := PA3.at_ (HQB.out.grow (hbr.trans (hby.mono hbr.size)) (hbr.trans (hby.mono hbr.size)).size) (k := j) hjl
                rw [← getD_at hjl, HPZ.out] at d0
                clear hjl
                cases hA1
                by_cases hkz : k < z
                case neg =>
                  obtain ⟨hkz', hat⟩ := left_done HZ.out hg.out.2 hkz
                  have hgt := hg.out.1.next (i := j) (by rw [HZ.out]; exact hkz') hat
                  have HG9 : Hid (GI S R N ls W xs (j + 1) k ∧ (j + 1 < n → LeftT S R ls W (xs.getD k 0) (j + 1) k)) := ⟨hgt, fun h => by rw [hat]; exact left_next HPO.out HSQ.out (by rw [← HLL.out]; exact h) (by rw [HZ.out]; exact hkz')⟩
                  have gz : decide ((k : Int) < (z : Int)) = false := decide_eq_false (by omega)
                  have gzN : decide (k < z) = false := decide_eq_false (by omega)
                  have hat2 : xs.getD k 0 = e1 := hat.trans HWj.out
                  have HAT : Hid (xs.getD k 0 = e1) := hat2
                  have gat : (e1 != e1) = false := by simp
                  have gat2 : (e1 == e1) = true := by simp
                  rw [hat2]
                  clear hat hat2 hgt hkz' hkz
                  go_wp2_with fail
                  go_roundw
                  case rel => exact ⟨j + 1, k, xs, HJN.out, by go_num, rfl, by rw [HAT.out], hkN, hXs, HG9, hby, hly⟩
                  case measure => simp [intOf]; omega
                have HKZ := Lib.hid hkz
                have hzN : z ≤ N := by have := HZN.out; have := HN.out; omega
                obtain ⟨m, hm⟩ : ∃ m, m = k + 1 := ⟨_, rfl⟩
                have hmi : (k : Int) + 1 = (m : Int) := by omega
                have hmN : m ≤ N := by omega
                have HMN : Hid ((m : Int) ≤ sumL R.ps) := by show _ ≤ _; rw [HN.out]; omega
                have HKM : Hid (k ≤ m) := by show _ ≤ _; omega
                have HM := Lib.hid hm
                obtain ⟨a, ha⟩ : ∃ a, a = tQ S R.ps m - tQ S R.ps k := ⟨_, rfl⟩
                obtain ⟨cc', hcc⟩ : ∃ cc', cc' = tSl S R.ps m - tSl S R.ps k := ⟨_, rfl⟩
                have hac : 0 ≤ a ∧ a ≤ cc' := by
                  have h1 := (qm_of HS.out HV.out).q k m (by omega) (by omega) HMN.out
                  simp only [qS, sS, Int.toNat_natCast] at h1
                  omega
                have hbd1 := tSl_bd HS.out HV.out m
                have hbd2 := tSl_bd HS.out HV.out k
                have hbd3 := tQ_bd HS.out HV.out m
                have hbd4 := tQ_bd HS.out HV.out k
                have HBT : Hid (btw S R k m = (a, cc', 0)) := by show _ = _; rw [btw_stp HKM.out HMN.out, ha, hcc]
                have hgb := hg.out.1.bd HS.out HV.out
                have hxl := hg.out.1.l
                obtain ⟨b, hb⟩ : ∃ b, b = tSl S R.ps z - tSl S R.ps m := ⟨_, rfl⟩
                have hmz : m ≤ z := by omega
                have hqs : tQ S R.ps z - tQ S R.ps m ≤ b := by
                  have h1 := (qm_of HS.out HV.out).q m z (by omega) (by omega) (by rw [HN.out]; omega)
                  simp only [qS, sS, Int.toNat_natCast] at h1
                  omega
                have hbd5 := tSl_bd HS.out HV.out z
                have hbd6 := tQ_bd HS.out HV.out z
                have hst := left_step (W := W) (a := a) (b := b) (c := cc') HZ.out hg.out.2 hkz (by rw [ha, hm]) (by rw [hcc, hm]) (by rw [hb, hm]) hac.2 (by rw [← hm]; exact hqs)
                have hle := hg.out.2
                unfold LeftT at hle
                rw [HZ.out] at hle
                rw [HWj.out] at hst hle
                have HB2 : Hid (btw S R m z = (tQ S R.ps z - tQ S R.ps m, b, 0)) := by show _ = _; rw [btw_stp hmz (by rw [HN.out]; omega), hb]
                obtain ⟨D, hD9⟩ : ∃ D, D = min cc' (max a (e1 - xs.getD k 0 - b)) := ⟨_, rfl⟩
                rw [← hD9] at hst
                have HGS : Hid (GI S R N ls W (xs.set m (xs.getD k 0 + D)) j m) := by
                  have := hg.out.1.step (by omega) (d := D) (by rw [← hm, ← ha]; exact hst.1) (by rw [← hm, ← hcc]; exact hst.2.1)
                  rw [← hm] at this
                  exact this
                have HGT : Hid (LeftT S R ls W (xs.getD k 0 + D) j m) := by have := hst.2.2; rw [← hm] at this; exact this
                have hgm : (xs.set m (xs.getD k 0 + D)).getD m 0 = xs.getD k 0 + D := by rw [gi_set _ _ _ _ (by omega), if_pos rfl]
                obtain ⟨v, hv⟩ : ∃ v, v = xs.getD k 0 := ⟨_, rfl⟩
                have HVX : Hid (v = xs.getD k 0) := hv
                rw [← hv] at hgb hst hle HGS HGT hD9 hgm ⊢
                obtain ⟨M, hM⟩ : ∃ M, M = max a (e1 - v - b) := ⟨_, rfl⟩
                rw [← hM] at hD9
                obtain ⟨nv, hnv⟩ : ∃ nv, nv = v + D := ⟨_, rfl⟩
                rw [← hnv] at HGS HGT hgm
                have HGM := Lib.hid hgm
                have hw1 : IntKind.i64.wrap (e1 - v) = e1 - v := IntWalk.i64_in _ (by omega)
                have hw2 : IntKind.i64.wrap (e1 - v - b) = e1 - v - b := IntWalk.i64_in _ (by omega)
                have hi1 : (if a < e1 - v - b then e1 - v - b else a) = M := by rw [hM, Int.max_def]; split <;> split <;> omega
                have hi2 : (if M < cc' then M else cc') = D := by rw [hD9, Int.min_def]; split <;> split <;> omega
                have hw3 : IntKind.i64.wrap (v + D) = nv := (IntWalk.i64_in _ (by omega)).trans hnv.symm
                have hwk : IntKind.i64.wrap ((k : Int) + 1) = (m : Int) := (IntWalk.i64_in _ (by omega)).trans hmi
                have gz : decide ((k : Int) < (z : Int)) = true := decide_eq_true (by omega)
                have gzN : decide (k < z) = true := decide_eq_true hkz
                have hwm : IntKind.i64.wrap (m : Int) = (m : Int) := IntWalk.i64_in _ (by omega)
                have HMZ := Lib.hid hmz
                have hxm : m < xs.length := by omega
                have hlX := hXy.lt
                have hlY := hYy.lt
                clear ha hcc hbd1 hbd2 hbd3 hbd4 hbd5 hbd6 hb hqs hst hle hD9 hM hnv hgm hm hv hgb hac
                have x0 := hXy.cell 0
                have x1 := hXy.cell 1
                have x2 := hXy.cell 2
                have y0 := hYy.cell 0
                have y1 := hYy.cell 1
                have y2 := hYy.cell 2
                have y3 := hYy.cell 3
                simp only [List.getElem?_toArray, List.getElem?_cons_zero, List.getElem?_cons_succ] at x0 x1 x2 y0 y1 y2 y3
                go_wp2_with fail
                clear x0 x1 x2 y0 y1 y2 y3
                refine (Between_any (k : Int) (m : Int) pa pn pc ca cn cc ja jn jc R ra rn rc sa sn sc S _ (HR.out.grow hBy hBy.size) (HD.out.grow hBy hBy.size) HV.out HS.out).mono ?_
                rintro e w11 ⟨rfl, hk9⟩
                rw [HBT.out]
                dsimp only
                have hX11 := hXy.below hk9 hlX
                have hY11 := hYy.below hk9 hlY
                have hR11 := hXs.below hk9 hly
                have hb11 := hby.trans (hk9.mono hby.size)
                have hB11 := hBy.trans (hk9.mono hBy.size)
                have hjl : j < L.length := by rw [← HLN.out]; exact HJN.out
                obtain ⟨b2, o2, hA2, -, d0, -, -⟩ := PA3.at_ (HQB.out.grow (hbr.trans (hb11.mono hbr.size)) (hbr.trans (hb11.mono hbr.size)).size) (k := j) hjl
                rw [← getD_at hjl, HPZ.out] at d0
                clear hjl
                have d0 := fun d os => cell_regrown d0 d os
                cases hA2
                have x0 := fun d os => cell_regrown (hX11.cell 0) d os
                have x1 := fun d os => cell_regrown (hX11.cell 1) d os
                have x2 := fun d os => cell_regrown (hX11.cell 2) d os
                have y0 := fun d os => cell_regrown (hY11.cell 0) d os
                have y1 := fun d os => cell_regrown (hY11.cell 1) d os
                have y2 := fun d os => cell_regrown (hY11.cell 2) d os
                have y3 := fun d os => cell_regrown (hY11.cell 3) d os
                have HGR := Lib.hid (fun d os => HR.out.grow (hB11.trans ((below_regrown w11 d os).mono hB11.size)) (Nat.le_trans hB11.size (below_regrown w11 d os).size))
                have HGD := Lib.hid (fun d os => HD.out.grow (hB11.trans ((below_regrown w11 d os).mono hB11.size)) (Nat.le_trans hB11.size (below_regrown w11 d os).size))
                have hlX := hX11.lt
                have hlY := hY11.lt
                clear hXy hYy hXs hby hBy hk9 hly
                go_wp2_with fail
                refine wp_region_ch 16 [9, 14, 15] hmo (by kernel_rfl) ?_
                simp only [List.take_succ_cons, List.take_zero, List.drop_succ_cons, List.drop_zero]
                repeat (with_reducible refine wpC_q (by decide) (by decide) (fun K hK => ?_); go_simp; (try rw [if_neg (by simp [undef])]); refine hK _ ?_; clear hK K)
                with_reducible refine wpC_cg (ι := Unit) 19 #[.agg #[.slice pa pn pc, .slice ca cn cc, .slice ja jn jc], .agg #[.int .i64 S.least, .int .i64 S.most, .slice ra rn rc, .slice sa sn sc], .int .i64 m, .int .i64 z] (fun _ => .tuple #[.int .i64 (tQ S R.ps z - tQ S R.ps m), .int .i64 b, .int .i64 0]) (fun _ _ => True) (by decide) (by decide) (by go_simp) (fun w => by go_simp) stable_true (fun _ => stable_true) (fun W hW _ => ?_) (fun i0 hs0 => ?_)
                · obtain ⟨pp, rfl⟩ := hW
                  refine (Between_any (m : Int) (z : Int) pa pn pc ca cn cc ja jn jc R ra rn rc sa sn sc S _ (HGR.out _ _) (HGD.out _ _) HV.out HS.out).mono ?_
                  rintro e w' ⟨rfl, hbl⟩
                  exact ⟨(), by rw [HB2.out], trivial, hbl⟩
                repeat (with_reducible refine wpC_q (by decide) (by decide) (fun K hK => ?_); go_simp; (try rw [if_neg (by simp [undef])]); refine hK _ ?_; clear hK K)
                with_reducible refine wpC_vg (ι := Unit) (fun _ => .int .i64 (tQ S R.ps z - tQ S R.ps m)) (fun _ _ => True) (by decide) (by decide) (by go_simp) hs0 (fun _ => stable_true) (fun W _ _ => ⟨(), W, by go_simp, trivial, Below.refl _ _⟩) (fun i1 hs1 => ?_)
                repeat (with_reducible refine wpC_q (by decide) (by decide) (fun K hK => ?_); go_simp; (try rw [if_neg (by simp [undef])]); refine hK _ ?_; clear hK K)
                with_reducible refine wpC_vg (ι := Unit) (fun _ => .int .i64 b) (fun _ _ => True) (by decide) (by decide) (by go_simp) hs1 (fun _ => stable_true) (fun W _ _ => ⟨(), W, by go_simp, trivial, Below.refl _ _⟩) (fun i2 hs2 => ?_)
                repeat (with_reducible refine wpC_q (by decide) (by decide) (fun K hK => ?_); go_simp; (try rw [if_neg (by simp [undef])]); refine hK _ ?_; clear hK K)
                refine wpC_nil ?_
                intro w12 hb12 _
                clear x0 x1 x2 y0 y1 y2 y3 d0 HGR HGD hs0 hs1 hs2
                have hX12 := hX11.below hb12 hlX
                have hY12 := hY11.below hb12 hlY
                have hR12 := hR11.below hb12 hR11.lt
                have hb12' := hb11.trans (hb12.mono hb11.size)
                have hB12 := hB11.trans (hb12.mono hB11.size)
                have hlX := hX12.lt
                have hlY := hY12.lt
                have hlR := hR12.lt
                clear hX11 hY11 hR11 hb11 hb12 hB11
                have x0 := hX12.cell 0
                have x1 := hX12.cell 1
                have x2 := hX12.cell 2
                have y0 := hY12.cell 0
                have y1 := hY12.cell 1
                have y2 := hY12.cell 2
                have y3 := hY12.cell 3
                simp only [List.getElem?_toArray, List.getElem?_cons_zero, List.getElem?_cons_succ] at x0 x1 x2 y0 y1 y2 y3
                go_wp2_with fail
                clear x0 x1 x2 y0 y1 y2 y3
                refine (Between_any (k : Int) (m : Int) pa pn pc ca cn cc ja jn jc R ra rn rc sa sn sc S _ (HR.out.grow hB12 hB12.size) (HD.out.grow hB12 hB12.size) HV.out HS.out).mono ?_
                rintro e w13 ⟨rfl, hk9⟩
                rw [HBT.out]
                dsimp only
                have hR13 := hR12.below hk9 hlR
                have hb13 := hb12'.trans (hk9.mono hb12'.size)
                have cm := hR13.cell m
                rw [getD_blk hxm] at cm
                have cf := hR13.frozen m
                have hmu : (m : Int) < (N : Int) + 1 := by omega
                have hm0 : (0 : Int) ≤ (m : Int) := by omega
                have HR14 : Hid (BK (w13.setCell ⟨wL.heap.size, m, none⟩ (.int .i64 nv)) wL.heap.size 3 (blkI (xs.set m nv))) := by
                  have h1 := hR13.set_ m (.int .i64 nv)
                  rw [blkI_set] at h1
                  exact h1
                clear hX12 hY12 hR12 hb12' hB12 hk9 hlX hlY hlR hR13
                go_wp2_with fail
                go_roundw
                case rel => exact ⟨m, xs.set m nv, by go_num, by rw [HGM.out], hmN, HR14.out, by show _ ∧ _; rw [HGM.out]; exact ⟨HGS.out, HGT.out⟩, hb13.setCell (p := ⟨wL.heap.size, m, none⟩) (Nat.le_refl _) _, HR14.out.lt⟩
                case measure => have := HM.out; have := HKZ.out; simp [intOf]; omega
          · as_aux_lemma =>
              have HWj : Hid (W j = e2) := by show _ = _; rw [HW.out]; unfold wantW; rw [if_pos (by omega)]; exact hE2.symm
              have gt : ((t : Int) == 1) = true := by simp; omega
              clear hE1 hE2 ht1
              go_wp2_with fail
              clear d0 d1 d2
              go_loopw [20, 21] (fun a pl wy => ∃ (k : Nat) (xs : List Int), pl = .int .i64 k ∧ a = .int .i64 (xs.getD k 0) ∧ k ≤ N ∧ BK wy wL.heap.size 3 (blkI xs) ∧ Hid (GI S R N ls W xs j k ∧ LeftT S R ls W (xs.getD k 0) j k) ∧ Below wL.heap.size wL wy ∧ wL.heap.size < wy.heap.size)
                (fun _ pl _ => z - (intOf pl).toNat)
              case atStart => exact ⟨k, xs, rfl, rfl, hkN, hXs, ⟨hg.out.1, hg.out.2 HJN.out⟩, hbx, hlx⟩
              clear hXs hg hbx hlx hkN hBx
              case round =>
                obtain ⟨k, xs, rfl, rfl, hkN, hXs, hg, hby, hly⟩ := hrel
                have hBy := hBr.trans (hby.mono hzr)
                have hXy := hXB.below (hbr.trans (hby.mono hbr.size)) hXB.lt
                have hYy := hYB.below (hbr.trans (hby.mono hbr.size)) hYB.lt
                have hjl : j < L.length := by rw [← HLN.out]; exact HJN.out
                obtain ⟨b1, o1, hA1, -, d0, -, -⟩ := PA3.at_ (HQB.out.grow (hbr.trans (hby.mono hbr.size)) (hbr.trans (hby.mono hbr.size)).size) (k := j) hjl
                rw [← getD_at hjl, HPZ.out] at d0
                clear hjl
                cases hA1
                by_cases hkz : k < z
                case neg =>
                  obtain ⟨hkz', hat⟩ := left_done HZ.out hg.out.2 hkz
                  have hgt := hg.out.1.next (i := j) (by rw [HZ.out]; exact hkz') hat
                  have HG9 : Hid (GI S R N ls W xs (j + 1) k ∧ (j + 1 < n → LeftT S R ls W (xs.getD k 0) (j + 1) k)) := ⟨hgt, fun h => by rw [hat]; exact left_next HPO.out HSQ.out (by rw [← HLL.out]; exact h) (by rw [HZ.out]; exact hkz')⟩
                  have gz : decide ((k : Int) < (z : Int)) = false := decide_eq_false (by omega)
                  have gzN : decide (k < z) = false := decide_eq_false (by omega)
                  have hat2 : xs.getD k 0 = e2 := hat.trans HWj.out
                  have HAT : Hid (xs.getD k 0 = e2) := hat2
                  have gat : (e2 != e2) = false := by simp
                  have gat2 : (e2 == e2) = true := by simp
                  rw [hat2]
                  clear hat hat2 hgt hkz' hkz
                  go_wp2_with fail
                  go_roundw
                  case rel => exact ⟨j + 1, k, xs, HJN.out, by go_num, rfl, by rw [HAT.out], hkN, hXs, HG9, hby, hly⟩
                  case measure => simp [intOf]; omega
                have HKZ := Lib.hid hkz
                have hzN : z ≤ N := by have := HZN.out; have := HN.out; omega
                obtain ⟨m, hm⟩ : ∃ m, m = k + 1 := ⟨_, rfl⟩
                have hmi : (k : Int) + 1 = (m : Int) := by omega
                have hmN : m ≤ N := by omega
                have HMN : Hid ((m : Int) ≤ sumL R.ps) := by show _ ≤ _; rw [HN.out]; omega
                have HKM : Hid (k ≤ m) := by show _ ≤ _; omega
                have HM := Lib.hid hm
                obtain ⟨a, ha⟩ : ∃ a, a = tQ S R.ps m - tQ S R.ps k := ⟨_, rfl⟩
                obtain ⟨cc', hcc⟩ : ∃ cc', cc' = tSl S R.ps m - tSl S R.ps k := ⟨_, rfl⟩
                have hac : 0 ≤ a ∧ a ≤ cc' := by
                  have h1 := (qm_of HS.out HV.out).q k m (by omega) (by omega) HMN.out
                  simp only [qS, sS, Int.toNat_natCast] at h1
                  omega
                have hbd1 := tSl_bd HS.out HV.out m
                have hbd2 := tSl_bd HS.out HV.out k
                have hbd3 := tQ_bd HS.out HV.out m
                have hbd4 := tQ_bd HS.out HV.out k
                have HBT : Hid (btw S R k m = (a, cc', 0)) := by show _ = _; rw [btw_stp HKM.out HMN.out, ha, hcc]
                have hgb := hg.out.1.bd HS.out HV.out
                have hxl := hg.out.1.l
                obtain ⟨b, hb⟩ : ∃ b, b = tSl S R.ps z - tSl S R.ps m := ⟨_, rfl⟩
                have hmz : m ≤ z := by omega
                have hqs : tQ S R.ps z - tQ S R.ps m ≤ b := by
                  have h1 := (qm_of HS.out HV.out).q m z (by omega) (by omega) (by rw [HN.out]; omega)
                  simp only [qS, sS, Int.toNat_natCast] at h1
                  omega
                have hbd5 := tSl_bd HS.out HV.out z
                have hbd6 := tQ_bd HS.out HV.out z
                have hst := left_step (W := W) (a := a) (b := b) (c := cc') HZ.out hg.out.2 hkz (by rw [ha, hm]) (by rw [hcc, hm]) (by rw [hb, hm]) hac.2 (by rw [← hm]; exact hqs)
                have hle := hg.out.2
                unfold LeftT at hle
                rw [HZ.out] at hle
                rw [HWj.out] at hst hle
                have HB2 : Hid (btw S R m z = (tQ S R.ps z - tQ S R.ps m, b, 0)) := by show _ = _; rw [btw_stp hmz (by rw [HN.out]; omega), hb]
                obtain ⟨D, hD9⟩ : ∃ D, D = min cc' (max a (e2 - xs.getD k 0 - b)) := ⟨_, rfl⟩
                rw [← hD9] at hst
                have HGS : Hid (GI S R N ls W (xs.set m (xs.getD k 0 + D)) j m) := by
                  have := hg.out.1.step (by omega) (d := D) (by rw [← hm, ← ha]; exact hst.1) (by rw [← hm, ← hcc]; exact hst.2.1)
                  rw [← hm] at this
                  exact this
                have HGT : Hid (LeftT S R ls W (xs.getD k 0 + D) j m) := by have := hst.2.2; rw [← hm] at this; exact this
                have hgm : (xs.set m (xs.getD k 0 + D)).getD m 0 = xs.getD k 0 + D := by rw [gi_set _ _ _ _ (by omega), if_pos rfl]
                obtain ⟨v, hv⟩ : ∃ v, v = xs.getD k 0 := ⟨_, rfl⟩
                have HVX : Hid (v = xs.getD k 0) := hv
                rw [← hv] at hgb hst hle HGS HGT hD9 hgm ⊢
                obtain ⟨M, hM⟩ : ∃ M, M = max a (e2 - v - b) := ⟨_, rfl⟩
                rw [← hM] at hD9
                obtain ⟨nv, hnv⟩ : ∃ nv, nv = v + D := ⟨_, rfl⟩
                rw [← hnv] at HGS HGT hgm
                have HGM := Lib.hid hgm
                have hw1 : IntKind.i64.wrap (e2 - v) = e2 - v := IntWalk.i64_in _ (by omega)
                have hw2 : IntKind.i64.wrap (e2 - v - b) = e2 - v - b := IntWalk.i64_in _ (by omega)
                have hi1 : (if a < e2 - v - b then e2 - v - b else a) = M := by rw [hM, Int.max_def]; split <;> split <;> omega
                have hi2 : (if M < cc' then M else cc') = D := by rw [hD9, Int.min_def]; split <;> split <;> omega
                have hw3 : IntKind.i64.wrap (v + D) = nv := (IntWalk.i64_in _ (by omega)).trans hnv.symm
                have hwk : IntKind.i64.wrap ((k : Int) + 1) = (m : Int) := (IntWalk.i64_in _ (by omega)).trans hmi
                have gz : decide ((k : Int) < (z : Int)) = true := decide_eq_true (by omega)
                have gzN : decide (k < z) = true := decide_eq_true hkz
                have hwm : IntKind.i64.wrap (m : Int) = (m : Int) := IntWalk.i64_in _ (by omega)
                have HMZ := Lib.hid hmz
                have hxm : m < xs.length := by omega
                have hlX := hXy.lt
                have hlY := hYy.lt
                clear ha hcc hbd1 hbd2 hbd3 hbd4 hbd5 hbd6 hb hqs hst hle hD9 hM hnv hgm hm hv hgb hac
                have x0 := hXy.cell 0
                have x1 := hXy.cell 1
                have x2 := hXy.cell 2
                have y0 := hYy.cell 0
                have y1 := hYy.cell 1
                have y2 := hYy.cell 2
                have y3 := hYy.cell 3
                simp only [List.getElem?_toArray, List.getElem?_cons_zero, List.getElem?_cons_succ] at x0 x1 x2 y0 y1 y2 y3
                go_wp2_with fail
                clear x0 x1 x2 y0 y1 y2 y3
                refine (Between_any (k : Int) (m : Int) pa pn pc ca cn cc ja jn jc R ra rn rc sa sn sc S _ (HR.out.grow hBy hBy.size) (HD.out.grow hBy hBy.size) HV.out HS.out).mono ?_
                rintro e w11 ⟨rfl, hk9⟩
                rw [HBT.out]
                dsimp only
                have hX11 := hXy.below hk9 hlX
                have hY11 := hYy.below hk9 hlY
                have hR11 := hXs.below hk9 hly
                have hb11 := hby.trans (hk9.mono hby.size)
                have hB11 := hBy.trans (hk9.mono hBy.size)
                have hjl : j < L.length := by rw [← HLN.out]; exact HJN.out
                obtain ⟨b2, o2, hA2, -, d0, -, -⟩ := PA3.at_ (HQB.out.grow (hbr.trans (hb11.mono hbr.size)) (hbr.trans (hb11.mono hbr.size)).size) (k := j) hjl
                rw [← getD_at hjl, HPZ.out] at d0
                clear hjl
                have d0 := fun d os => cell_regrown d0 d os
                cases hA2
                have x0 := fun d os => cell_regrown (hX11.cell 0) d os
                have x1 := fun d os => cell_regrown (hX11.cell 1) d os
                have x2 := fun d os => cell_regrown (hX11.cell 2) d os
                have y0 := fun d os => cell_regrown (hY11.cell 0) d os
                have y1 := fun d os => cell_regrown (hY11.cell 1) d os
                have y2 := fun d os => cell_regrown (hY11.cell 2) d os
                have y3 := fun d os => cell_regrown (hY11.cell 3) d os
                have HGR := Lib.hid (fun d os => HR.out.grow (hB11.trans ((below_regrown w11 d os).mono hB11.size)) (Nat.le_trans hB11.size (below_regrown w11 d os).size))
                have HGD := Lib.hid (fun d os => HD.out.grow (hB11.trans ((below_regrown w11 d os).mono hB11.size)) (Nat.le_trans hB11.size (below_regrown w11 d os).size))
                have hlX := hX11.lt
                have hlY := hY11.lt
                clear hXy hYy hXs hby hBy hk9 hly
                go_wp2_with fail
                refine wp_region_ch 16 [9, 14, 15] hmo (by kernel_rfl) ?_
                simp only [List.take_succ_cons, List.take_zero, List.drop_succ_cons, List.drop_zero]
                repeat (with_reducible refine wpC_q (by decide) (by decide) (fun K hK => ?_); go_simp; (try rw [if_neg (by simp [undef])]); refine hK _ ?_; clear hK K)
                with_reducible refine wpC_cg (ι := Unit) 19 #[.agg #[.slice pa pn pc, .slice ca cn cc, .slice ja jn jc], .agg #[.int .i64 S.least, .int .i64 S.most, .slice ra rn rc, .slice sa sn sc], .int .i64 m, .int .i64 z] (fun _ => .tuple #[.int .i64 (tQ S R.ps z - tQ S R.ps m), .int .i64 b, .int .i64 0]) (fun _ _ => True) (by decide) (by decide) (by go_simp) (fun w => by go_simp) stable_true (fun _ => stable_true) (fun W hW _ => ?_) (fun i0 hs0 => ?_)
                · obtain ⟨pp, rfl⟩ := hW
                  refine (Between_any (m : Int) (z : Int) pa pn pc ca cn cc ja jn jc R ra rn rc sa sn sc S _ (HGR.out _ _) (HGD.out _ _) HV.out HS.out).mono ?_
                  rintro e w' ⟨rfl, hbl⟩
                  exact ⟨(), by rw [HB2.out], trivial, hbl⟩
                repeat (with_reducible refine wpC_q (by decide) (by decide) (fun K hK => ?_); go_simp; (try rw [if_neg (by simp [undef])]); refine hK _ ?_; clear hK K)
                with_reducible refine wpC_vg (ι := Unit) (fun _ => .int .i64 (tQ S R.ps z - tQ S R.ps m)) (fun _ _ => True) (by decide) (by decide) (by go_simp) hs0 (fun _ => stable_true) (fun W _ _ => ⟨(), W, by go_simp, trivial, Below.refl _ _⟩) (fun i1 hs1 => ?_)
                repeat (with_reducible refine wpC_q (by decide) (by decide) (fun K hK => ?_); go_simp; (try rw [if_neg (by simp [undef])]); refine hK _ ?_; clear hK K)
                with_reducible refine wpC_vg (ι := Unit) (fun _ => .int .i64 b) (fun _ _ => True) (by decide) (by decide) (by go_simp) hs1 (fun _ => stable_true) (fun W _ _ => ⟨(), W, by go_simp, trivial, Below.refl _ _⟩) (fun i2 hs2 => ?_)
                repeat (with_reducible refine wpC_q (by decide) (by decide) (fun K hK => ?_); go_simp; (try rw [if_neg (by simp [undef])]); refine hK _ ?_; clear hK K)
                refine wpC_nil ?_
                intro w12 hb12 _
                clear x0 x1 x2 y0 y1 y2 y3 d0 HGR HGD hs0 hs1 hs2
                have hX12 := hX11.below hb12 hlX
                have hY12 := hY11.below hb12 hlY
                have hR12 := hR11.below hb12 hR11.lt
                have hb12' := hb11.trans (hb12.mono hb11.size)
                have hB12 := hB11.trans (hb12.mono hB11.size)
                have hlX := hX12.lt
                have hlY := hY12.lt
                have hlR := hR12.lt
                clear hX11 hY11 hR11 hb11 hb12 hB11
                have x0 := hX12.cell 0
                have x1 := hX12.cell 1
                have x2 := hX12.cell 2
                have y0 := hY12.cell 0
                have y1 := hY12.cell 1
                have y2 := hY12.cell 2
                have y3 := hY12.cell 3
                simp only [List.getElem?_toArray, List.getElem?_cons_zero, List.getElem?_cons_succ] at x0 x1 x2 y0 y1 y2 y3
                go_wp2_with fail
                clear x0 x1 x2 y0 y1 y2 y3
                refine (Between_any (k : Int) (m : Int) pa pn pc ca cn cc ja jn jc R ra rn rc sa sn sc S _ (HR.out.grow hB12 hB12.size) (HD.out.grow hB12 hB12.size) HV.out HS.out).mono ?_
                rintro e w13 ⟨rfl, hk9⟩
                rw [HBT.out]
                dsimp only
                have hR13 := hR12.below hk9 hlR
                have hb13 := hb12'.trans (hk9.mono hb12'.size)
                have cm := hR13.cell m
                rw [getD_blk hxm] at cm
                have cf := hR13.frozen m
                have hmu : (m : Int) < (N : Int) + 1 := by omega
                have hm0 : (0 : Int) ≤ (m : Int) := by omega
                have HR14 : Hid (BK (w13.setCell ⟨wL.heap.size, m, none⟩ (.int .i64 nv)) wL.heap.size 3 (blkI (xs.set m nv))) := by
                  have h1 := hR13.set_ m (.int .i64 nv)
                  rw [blkI_set] at h1
                  exact h1
                clear hX12 hY12 hR12 hb12' hB12 hk9 hlX hlY hlR hR13
                go_wp2_with fail
                go_roundw
                case rel => exact ⟨m, xs.set m nv, by go_num, by rw [HGM.out], hmN, HR14.out, by show _ ∧ _; rw [HGM.out]; exact ⟨HGS.out, HGT.out⟩, hb13.setCell (p := ⟨wL.heap.size, m, none⟩) (Nat.le_refl _) _, HR14.out.lt⟩
                case measure => have := HM.out; have := HKZ.out; simp [intOf]; omega
        obtain rfl : n = j := by omega
        as_aux_lemma =>
          have HGE : Hid (GI S R N ls W xs ls.length k) := by have := hg.out.1; rw [HLL.out] at this; exact this
          clear hg hlt hj
          go_wp2_with fail
          go_loopw [20, 21] (fun a pl wy => ∃ (k : Nat) (xs : List Int), pl = .int .i64 k ∧ a = .int .i64 (xs.getD k 0) ∧ k ≤ N ∧ BK wy wL.heap.size 3 (blkI xs) ∧ Hid (GI S R N ls W xs ls.length k) ∧ Below wL.heap.size wL wy ∧ wL.heap.size < wy.heap.size)
            (fun _ pl _ => N - (intOf pl).toNat)
          case atStart => exact ⟨k, xs, rfl, rfl, hkN, hXs, HGE, hbx, hlx⟩
          clear hXs HGE hbx hlx hkN hBx
          case round =>
            obtain ⟨k, xs, rfl, rfl, hkN, hXs, hg, hby, hly⟩ := hrel
            have hBy := hBr.trans (hby.mono hzr)
            have hXy := hXB.below (hbr.trans (hby.mono hbr.size)) hXB.lt
            have hYy := hYB.below (hbr.trans (hby.mono hbr.size)) hYB.lt
            have hwN : IntKind.i64.wrap ((N : Int) + 1 - 1) = (N : Int) := (IntWalk.i64_in _ (by omega)).trans (by omega)
            by_cases hkz : k < N
            case pos =>
              have hg := (show Hid (GI S R N ls W xs ls.length k ∧ True) from ⟨hg.out, trivial⟩)
              obtain ⟨m, hm⟩ : ∃ m, m = k + 1 := ⟨_, rfl⟩
              have hmi : (k : Int) + 1 = (m : Int) := by omega
              have hmN : m ≤ N := by omega
              have HMN : Hid ((m : Int) ≤ sumL R.ps) := by show _ ≤ _; rw [HN.out]; omega
              have HKM : Hid (k ≤ m) := by show _ ≤ _; omega
              have HM := Lib.hid hm
              obtain ⟨a, ha⟩ : ∃ a, a = tQ S R.ps m - tQ S R.ps k := ⟨_, rfl⟩
              obtain ⟨cc', hcc⟩ : ∃ cc', cc' = tSl S R.ps m - tSl S R.ps k := ⟨_, rfl⟩
              have hac : 0 ≤ a ∧ a ≤ cc' := by
                have h1 := (qm_of HS.out HV.out).q k m (by omega) (by omega) HMN.out
                simp only [qS, sS, Int.toNat_natCast] at h1
                omega
              have hbd1 := tSl_bd HS.out HV.out m
              have hbd2 := tSl_bd HS.out HV.out k
              have hbd3 := tQ_bd HS.out HV.out m
              have hbd4 := tQ_bd HS.out HV.out k
              have HBT : Hid (btw S R k m = (a, cc', 0)) := by show _ = _; rw [btw_stp HKM.out HMN.out, ha, hcc]
              have hgb := hg.out.1.bd HS.out HV.out
              have hxl := hg.out.1.l
              have HGS : Hid (GI S R N ls W (xs.set m (xs.getD k 0 + a)) ls.length m) := by
                have := hg.out.1.step (by omega) (d := a) (by rw [← hm, ← ha]; exact Int.le_refl _) (by rw [← hm, ← hcc]; exact hac.2)
                rw [← hm] at this
                exact this
              have hgm : (xs.set m (xs.getD k 0 + a)).getD m 0 = xs.getD k 0 + a := by rw [gi_set _ _ _ _ (by omega), if_pos rfl]
              obtain ⟨v, hv⟩ : ∃ v, v = xs.getD k 0 := ⟨_, rfl⟩
              rw [← hv] at hgb HGS hgm ⊢
              obtain ⟨nv, hnv⟩ : ∃ nv, nv = v + a := ⟨_, rfl⟩
              rw [← hnv] at HGS hgm
              have HGM := Lib.hid hgm
              have hw3 : IntKind.i64.wrap (v + a) = nv := (IntWalk.i64_in _ (by omega)).trans hnv.symm
              have hwk : IntKind.i64.wrap ((k : Int) + 1) = (m : Int) := (IntWalk.i64_in _ (by omega)).trans hmi
              have gz : decide ((k : Int) < (N : Int)) = true := decide_eq_true (by omega)
              have gzN : decide (k < N) = true := decide_eq_true hkz
              have hwm : IntKind.i64.wrap (m : Int) = (m : Int) := IntWalk.i64_in _ (by omega)
              have HKZ := Lib.hid hkz
              have hxm : m < xs.length := by omega
              clear ha hcc hbd1 hbd2 hbd3 hbd4 hgm hm hv hgb hac hnv
              have x0 := hXy.cell 0
              have x1 := hXy.cell 1
              have x2 := hXy.cell 2
              have y0 := hYy.cell 0
              have y1 := hYy.cell 1
              have y2 := hYy.cell 2
              have y3 := hYy.cell 3
              simp only [List.getElem?_toArray, List.getElem?_cons_zero, List.getElem?_cons_succ] at x0 x1 x2 y0 y1 y2 y3
              go_wp2_with fail
              clear x0 x1 x2 y0 y1 y2 y3
              refine (Between_any (k : Int) (m : Int) pa pn pc ca cn cc ja jn jc R ra rn rc sa sn sc S _ (HR.out.grow hBy hBy.size) (HD.out.grow hBy hBy.size) HV.out HS.out).mono ?_
              rintro e w13 ⟨rfl, hk9⟩
              rw [HBT.out]
              dsimp only
              have hR13 := hXs.below hk9 hly
              have hb13 := hby.trans (hk9.mono hby.size)
              have cm := hR13.cell m
              rw [getD_blk hxm] at cm
              have cf := hR13.frozen m
              have hmu : (m : Int) < (N : Int) + 1 := by omega
              have hm0 : (0 : Int) ≤ (m : Int) := by omega
              have HR14 : Hid (BK (w13.setCell ⟨wL.heap.size, m, none⟩ (.int .i64 nv)) wL.heap.size 3 (blkI (xs.set m nv))) := by
                have h1 := hR13.set_ m (.int .i64 nv)
                rw [blkI_set] at h1
                exact h1
              clear hXy hYy hXs hby hBy hk9 hly hR13
              go_wp2_with fail
              go_roundw
              case rel => exact ⟨m, xs.set m nv, by go_num, by rw [HGM.out], hmN, HR14.out, HGS, hb13.setCell (p := ⟨wL.heap.size, m, none⟩) (Nat.le_refl _) _, HR14.out.lt⟩
              case measure => have := HM.out; have := HKZ.out; simp [intOf]; omega
            have gz : decide ((k : Int) < (N : Int)) = false := decide_eq_false (by omega)
            have gzN : decide (k < N) = false := decide_eq_false hkz
            have hkN2 : k = N := by omega
            have HFX : Hid (fitAll S R ls xs = (true, 0)) := by
              show _ = _
              rw [fitAll_ok (by unfold fitOkB; rw [HVS.out, HPB.out, HN.out, Int.toNat_natCast, decide_eq_true hg.out.l]; rfl), (show GI S R N ls W xs ls.length N from hkN2 ▸ hg.out).fit HSQ.out]
            have HRX := Lib.hid ((show GI S R N ls W xs ls.length N from hkN2 ▸ hg.out).rg HS.out HV.out)
            have hSLX : SL iC 1 wr wr.heap.size (some ⟨wL.heap.size, 0, none⟩) (N + 1) xs := by
              have := sl_ints xs hXs hly
              rw [hg.out.l] at this
              exact this
            have HSX := Lib.hid hSLX
            clear hSLX hXs hg hkz hkN2
            have x0 := hXy.cell 0
            have x1 := hXy.cell 1
            have x2 := hXy.cell 2
            have y0 := hYy.cell 0
            have y1 := hYy.cell 1
            have y2 := hYy.cell 2
            have y3 := hYy.cell 3
            simp only [List.getElem?_toArray, List.getElem?_cons_zero, List.getElem?_cons_succ] at x0 x1 x2 y0 y1 y2 y3
            go_wp2_with fail
            clear x0 x1 x2 y0 y1 y2 y3
            refine (Fits_all pa pn pc ca cn cc ja jn jc R ra rn rc sa sn sc S la n lc ls (some ⟨wL.heap.size, 0, none⟩) (N + 1) (N + 1) xs _ (HR.out.grow hBy hBy.size) (HD.out.grow hBy hBy.size) (HL.out.grow hBy hBy.size) HSX.out (by omega) (by omega) HRX.out).mono ?_
            rintro e w15 ⟨rfl, hk9⟩
            rw [HFX.out]
            dsimp only
            have hb15 := hbr.trans ((hby.trans (hk9.mono hby.size)).mono hbr.size)
            clear hby hBy hXy hYy hk9 hly
            have hwt : IntKind.i64.wrap ((t : Int) + 1) = (t : Int) + 1 := IntWalk.i64_in _ (by have := HT.out; omega)
            go_wp2_with fail
            go_roundw
            case rel => exact ⟨t + 1, by have := HT.out; omega, by go_num, hb15⟩
            case measure => simp [intOf]; have := HT.out; omega
end Go.Proofs.YtijcbfhlhgjedaaDoor
