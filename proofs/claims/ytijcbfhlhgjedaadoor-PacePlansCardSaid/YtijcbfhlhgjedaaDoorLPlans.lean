/- The law function PacePlans, walked: it returns true. -/
import Derived.Test.YtijcbfhlhgjedaaDoorKnown3
import Derived.Test.YtijcbfhlhgjedaaDoorPlanB
import Derived.Test.YtijcbfhlhgjedaaDoorRPlanW
import Derived.Test.YtijcbfhlhgjedaaDoorLateP
namespace Go.Proofs.YtijcbfhlhgjedaaDoor
open Go.RowKit Go.Shelf Go.Sort Go.Proofs

theorem some_any (ka : Option Addr) (kn kc : Nat) (w : World) :
    Calls Tryd.prog 30 #[.slice ka kn kc] w fun e w' => e = .returned (.bool (decide (kn ≤ 8))) ∧ w = w' := by
  by_cases h : kn ≤ 8
  · have g : decide ((kn : Int) ≤ 8) = true := decide_eq_true (by omega)
    rw [decide_eq_true h]
    go_enter Tryd.func30, Tryd.ntmps30
    go_wp2_with fail
    go_ret
    exact ⟨rfl, rfl⟩
  · have g : decide ((kn : Int) ≤ 8) = false := decide_eq_false (by omega)
    rw [decide_eq_false h]
    go_enter Tryd.func30, Tryd.ntmps30
    go_wp2_with fail
    go_ret
    exact ⟨rfl, rfl⟩
theorem planA_bad {S : Spd} {R : Road} {cs : List CallR} (h : (val R && spB S && cB (sumL R.ps) cs) = false) : planAll S R cs = ([], ⟨0, 0, false⟩, 2) := by unfold planAll; rw [h]; rfl
theorem planA_good {S : Spd} {R : Road} {cs : List CallR} (h : (val R && spB S && cB (sumL R.ps) cs) = true) : planAll S R cs = planR (qS S R) (sS S R) cs := by unfold planAll; rw [h]; rfl
set_option maxRecDepth 100000 in
set_option maxHeartbeats 8000000 in
theorem LPlans_walk (pa : Option Addr) (pn pc : Nat) (ca : Option Addr) (cn cc : Nat) (ja : Option Addr) (jn jc : Nat) (R : Road) (ra : Option Addr) (rn rc : Nat) (sa : Option Addr) (sn sc : Nat) (S : Spd) (ka : Option Addr) (kn kc : Nat) (cs : List CallR) (w : World)
    (h : RD w w.heap.size pa pn ca cn ja jn R) (hD : SD w w.heap.size ra rn sa sn S) (hK : SL caC 5 w w.heap.size ka kn cs) (hmx : pn ≤ 9223372036854775807) :
    Calls Tryd.prog 5 #[.agg #[.slice pa pn pc, .slice ca cn cc, .slice ja jn jc], .agg #[.int .i64 S.least, .int .i64 S.most, .slice ra rn rc, .slice sa sn sc], .slice ka kn kc] w fun e w' => e = .returned (.bool true) ∧ Below w.heap.size w w' := by
  have HR := Lib.hid h
  have HD := Lib.hid hD
  have HK := Lib.hid hK
  clear h hD hK
  obtain ⟨w0, hw0⟩ : ∃ w0, w0 = (w.alloc (.cells #[.slice pa pn pc, .slice ca cn cc, .slice ja jn jc] 26)).alloc (.cells #[.int .i64 S.least, .int .i64 S.most, .slice ra rn rc, .slice sa sn sc] 30) := ⟨_, rfl⟩
  have hB0 : Below w.heap.size w w0 := by rw [hw0]; exact ((Below.refl w.heap.size w).alloc (Nat.le_refl _) _).alloc (by simp) _
  have hX0 : BK w0 (w.heap.size) 26 #[.slice pa pn pc, .slice ca cn cc, .slice ja jn jc] := by rw [hw0]; exact (BK.new w 26 #[.slice pa pn pc, .slice ca cn cc, .slice ja jn jc]).alloc _
  have hY0 : BK w0 (w.heap.size + 1) 30 #[.int .i64 S.least, .int .i64 S.most, .slice ra rn rc, .slice sa sn sc] := by rw [hw0]; have := BK.new (w.alloc (.cells #[.slice pa pn pc, .slice ca cn cc, .slice ja jn jc] 26)) 30 #[.int .i64 S.least, .int .i64 S.most, .slice ra rn rc, .slice sa sn sc]; rw [World.size_alloc] at this; exact this
  go_enter Tryd.func5, Tryd.ntmps5
  go_wp2_with fail
  rw [← hw0]
  clear hw0
  have x0 := hX0.cell 0
  have x1 := hX0.cell 1
  have x2 := hX0.cell 2
  have y0 := hY0.cell 0
  have y1 := hY0.cell 1
  have y2 := hY0.cell 2
  have y3 := hY0.cell 3
  simp only [List.getElem?_toArray, List.getElem?_cons_zero, List.getElem?_cons_succ] at x0 x1 x2 y0 y1 y2 y3
  go_wp2_with fail
  clear x0 x1 x2 y0 y1 y2 y3
  refine (few_any pa pn pc ca cn cc ja jn jc R w0 (HR.out.grow hB0 hB0.size) hmx).mono ?_
  rintro e w1 ⟨rfl, hk⟩
  have hB1 := hB0.trans (hk.mono hB0.size)
  have hX1 := hX0.below hk hX0.lt
  have hY1 := hY0.below hk hY0.lt
  clear hX0 hY0 hB0 hk
  cases hfew : fewB R
  case false =>
    go_wp2_with fail
    have hBX := hB1
    refine (known_any _).mono ?_
    rintro e w9 ⟨rfl, hk⟩
    go_wp2_with fail
    go_ret
    exact ⟨rfl, hBX.trans (hk.mono hBX.size)⟩
  have x0 := hX1.cell 0
  have x1 := hX1.cell 1
  have x2 := hX1.cell 2
  have y0 := hY1.cell 0
  have y1 := hY1.cell 1
  have y2 := hY1.cell 2
  have y3 := hY1.cell 3
  simp only [List.getElem?_toArray, List.getElem?_cons_zero, List.getElem?_cons_succ] at x0 x1 x2 y0 y1 y2 y3
  go_wp2_with fail
  clear x0 x1 x2 y0 y1 y2 y3
  refine (quick_any3 ra rn rc sa sn sc S w1 (HD.out.grow hB1 hB1.size)).mono ?_
  rintro e w2 ⟨rfl, hk⟩
  have hB2 := hB1.trans (hk.mono hB1.size)
  have hX2 := hX1.below hk hX1.lt
  have hY2 := hY1.below hk hY1.lt
  clear hX1 hY1 hB1 hk
  cases hqu : quickB S
  case false =>
    go_wp2_with fail
    have hBX := hB2
    refine (known_any _).mono ?_
    rintro e w9 ⟨rfl, hk⟩
    go_wp2_with fail
    go_ret
    exact ⟨rfl, hBX.trans (hk.mono hBX.size)⟩
  have x0 := hX2.cell 0
  have x1 := hX2.cell 1
  have x2 := hX2.cell 2
  have y0 := hY2.cell 0
  have y1 := hY2.cell 1
  have y2 := hY2.cell 2
  have y3 := hY2.cell 3
  simp only [List.getElem?_toArray, List.getElem?_cons_zero, List.getElem?_cons_succ] at x0 x1 x2 y0 y1 y2 y3
  go_wp2_with fail
  clear x0 x1 x2 y0 y1 y2 y3
  refine (some_any ka kn kc w2).mono ?_
  rintro e w' ⟨rfl, rfl⟩
  cases hso : decide (kn ≤ 8)
  case false =>
    go_wp2_with fail
    have hBX := hB2
    refine (known_any _).mono ?_
    rintro e w9 ⟨rfl, hk⟩
    go_wp2_with fail
    go_ret
    exact ⟨rfl, hBX.trans (hk.mono hBX.size)⟩
  have hkn : kn ≤ 8 := by simpa using hso
  clear hfew hqu hso
  have x0 := hX2.cell 0
  have x1 := hX2.cell 1
  have x2 := hX2.cell 2
  have y0 := hY2.cell 0
  have y1 := hY2.cell 1
  have y2 := hY2.cell 2
  have y3 := hY2.cell 3
  simp only [List.getElem?_toArray, List.getElem?_cons_zero, List.getElem?_cons_succ] at x0 x1 x2 y0 y1 y2 y3
  go_wp2_with fail
  clear x0 x1 x2 y0 y1 y2 y3
  refine (Plan_all pa pn pc ca cn cc ja jn jc R ra rn rc sa sn sc S ka kn kc cs w2 (HR.out.grow hB2 hB2.size) (HD.out.grow hB2 hB2.size) (HK.out.grow hB2 hB2.size) (by omega)).mono ?_
  rintro e w3 ⟨A, n, c, rfl, hP, hk⟩
  have hB3 := hB2.trans (hk.mono hB2.size)
  have hX3 := hX2.below hk hX2.lt
  have hY3 := hY2.below hk hY2.lt
  clear hX2 hY2 hB2 hk
  cases hvs : val R && spB S
  case false =>
    have HVS := Lib.hid hvs
    clear hvs
    rw [planA_bad (by rw [HVS.out]; rfl)] at hP ⊢
    dsimp only at hP ⊢
    have hX3r := hX3.alloc (.cells #[.int .i64 0, .int .i64 0, .bool false] 58)
    have hY3r := hY3.alloc (.cells #[.int .i64 0, .int .i64 0, .bool false] 58)
    have x0 := hX3r.cell 0
    have x1 := hX3r.cell 1
    have x2 := hX3r.cell 2
    have y0 := hY3r.cell 0
    have y1 := hY3r.cell 1
    have y2 := hY3r.cell 2
    have y3 := hY3r.cell 3
    simp only [List.getElem?_toArray, List.getElem?_cons_zero, List.getElem?_cons_succ] at x0 x1 x2 y0 y1 y2 y3
    have hlX := hX3.lt
    have hlY := hY3.lt
    go_wp2_with fail
    clear x0 x1 x2 y0 y1 y2 y3
    obtain ⟨w4, hw4⟩ : ∃ w4, w4 = w3.alloc (.cells #[.int .i64 0, .int .i64 0, .bool false] 58) := ⟨_, rfl⟩
    have hk : Below w3.heap.size w3 w4 := by rw [hw4]; exact (Below.refl _ _).alloc (Nat.le_refl _) _
    have hZ4 : BK w4 w3.heap.size 58 #[.int .i64 0, .int .i64 0, .bool false] := by rw [hw4]; exact BK.new _ _ _
    have hQ4 := hP.grow hk hk.size
    rw [← hw4]
    clear hw4 hX3r hY3r
    have hB4 := hB3.trans (hk.mono hB3.size)
    have hX4 := hX3.below hk hX3.lt
    have hY4 := hY3.below hk hY3.lt
    clear hX3 hY3 hB3 hk
    refine (fine_any pa pn pc ca cn cc ja jn jc R ra rn rc sa sn sc S w4 (HR.out.grow hB4 hB4.size) (HD.out.grow hB4 hB4.size)).mono ?_
    rintro e w5 ⟨rfl, hk⟩
    have hZ5 := hZ4.below hk hZ4.lt
    have hQ5 := hQ4.grow hk hk.size
    have hB5 := hB4.trans (hk.mono hB4.size)
    have hX5 := hX4.below hk hX4.lt
    have hY5 := hY4.below hk hY4.lt
    clear hX4 hY4 hB4 hk
    rw [HVS.out]
    have hn0 : n = 0 := hQ5.1
    subst hn0
    have z0 := hZ5.cell 0
    have z1 := hZ5.cell 1
    have z2 := hZ5.cell 2
    simp only [List.getElem?_toArray, List.getElem?_cons_zero, List.getElem?_cons_succ] at z0 z1 z2
    go_wp2_with fail
    have hBX := hB5
    refine (known_any _).mono ?_
    rintro e w9 ⟨rfl, hk⟩
    go_wp2_with fail
    go_ret
    exact ⟨rfl, hBX.trans (hk.mono hBX.size)⟩
  have HVS := Lib.hid hvs
  have HV : Hid (OK R) := by have := hvs; rw [Bool.and_eq_true] at this; exact (val_iff R).1 this.1
  have HS : Hid (SOK S) := by have := hvs; rw [Bool.and_eq_true] at this; exact (spB_iff S).1 this.2
  clear hvs
  cases hcb : cB (sumL R.ps) cs
  case false =>
    have HCB := Lib.hid hcb
    clear hcb
    rw [planA_bad (by rw [HVS.out, HCB.out]; rfl)] at hP ⊢
    dsimp only at hP ⊢
    have hX3r := hX3.alloc (.cells #[.int .i64 0, .int .i64 0, .bool false] 58)
    have hY3r := hY3.alloc (.cells #[.int .i64 0, .int .i64 0, .bool false] 58)
    have x0 := hX3r.cell 0
    have x1 := hX3r.cell 1
    have x2 := hX3r.cell 2
    have y0 := hY3r.cell 0
    have y1 := hY3r.cell 1
    have y2 := hY3r.cell 2
    have y3 := hY3r.cell 3
    simp only [List.getElem?_toArray, List.getElem?_cons_zero, List.getElem?_cons_succ] at x0 x1 x2 y0 y1 y2 y3
    have hlX := hX3.lt
    have hlY := hY3.lt
    go_wp2_with fail
    clear x0 x1 x2 y0 y1 y2 y3
    obtain ⟨w4, hw4⟩ : ∃ w4, w4 = w3.alloc (.cells #[.int .i64 0, .int .i64 0, .bool false] 58) := ⟨_, rfl⟩
    have hk : Below w3.heap.size w3 w4 := by rw [hw4]; exact (Below.refl _ _).alloc (Nat.le_refl _) _
    have hZ4 : BK w4 w3.heap.size 58 #[.int .i64 0, .int .i64 0, .bool false] := by rw [hw4]; exact BK.new _ _ _
    have hQ4 := hP.grow hk hk.size
    rw [← hw4]
    clear hw4 hX3r hY3r
    have hB4 := hB3.trans (hk.mono hB3.size)
    have hX4 := hX3.below hk hX3.lt
    have hY4 := hY3.below hk hY3.lt
    clear hX3 hY3 hB3 hk
    refine (fine_any pa pn pc ca cn cc ja jn jc R ra rn rc sa sn sc S w4 (HR.out.grow hB4 hB4.size) (HD.out.grow hB4 hB4.size)).mono ?_
    rintro e w5 ⟨rfl, hk⟩
    have hZ5 := hZ4.below hk hZ4.lt
    have hQ5 := hQ4.grow hk hk.size
    have hB5 := hB4.trans (hk.mono hB4.size)
    have hX5 := hX4.below hk hX4.lt
    have hY5 := hY4.below hk hY4.lt
    clear hX4 hY4 hB4 hk
    rw [HVS.out]
    have x0 := hX5.cell 0
    have x1 := hX5.cell 1
    have x2 := hX5.cell 2
    have y0 := hY5.cell 0
    have y1 := hY5.cell 1
    have y2 := hY5.cell 2
    have y3 := hY5.cell 3
    simp only [List.getElem?_toArray, List.getElem?_cons_zero, List.getElem?_cons_succ] at x0 x1 x2 y0 y1 y2 y3
    go_wp2_with fail
    clear x0 x1 x2 y0 y1 y2 y3
    have hK5 := (HK.out.grow hB5 hB5.size)
    refine (RCalls_any ka kn kc cs pa pn pc ca cn cc ja jn jc R w5 (HR.out.grow hB5 hB5.size) HV.out hK5 (by omega)).mono ?_
    rintro e w6 ⟨rfl, hk⟩
    have hZ6 := hZ5.below hk hZ5.lt
    have hQ6 := hQ5.grow hk hk.size
    clear hK5 hZ5 hQ5
    have hB6 := hB5.trans (hk.mono hB5.size)
    have hX6 := hX5.below hk hX5.lt
    have hY6 := hY5.below hk hY5.lt
    clear hX5 hY5 hB5 hk
    rw [HCB.out]
    have hn0 : n = 0 := hQ6.1
    subst hn0
    have z0 := hZ6.cell 0
    have z1 := hZ6.cell 1
    have z2 := hZ6.cell 2
    simp only [List.getElem?_toArray, List.getElem?_cons_zero, List.getElem?_cons_succ] at z0 z1 z2
    go_wp2_with fail
    have hBX := hB6
    refine (known_any _).mono ?_
    rintro e w9 ⟨rfl, hk⟩
    go_wp2_with fail
    go_ret
    exact ⟨rfl, hBX.trans (hk.mono hBX.size)⟩
  have HCB := Lib.hid hcb
  have HC := Lib.hid ((cB_iff _ _).1 hcb)
  clear hcb
  have HPA := Lib.hid (planA_good (show (val R && spB S && cB (sumL R.ps) cs) = true by rw [HVS.out, HCB.out]; rfl))
  rcases plan_cases (S := S) HC.out with ⟨_, hp1, hp3⟩ | ⟨_, hpl⟩
  · generalize hcl : (planR (qS S R) (sS S R) cs).2.1 = cl at *
    have HP1 := Lib.hid hp1
    have HP3 := Lib.hid hp3
    have HCL := Lib.hid hcl
    clear hp1 hp3 hcl
    have HPE : Hid (planAll S R cs = ([], cl, 5)) := by show _ = _; rw [HPA.out, ← HP1.out, ← HP3.out, ← HCL.out]
    obtain ⟨cf, cl, ce⟩ := cl
    rw [HPE.out] at hP ⊢
    dsimp only at hP ⊢
    have hX3r := hX3.alloc (.cells #[.int .i64 cf, .int .i64 cl, .bool ce] 58)
    have hY3r := hY3.alloc (.cells #[.int .i64 cf, .int .i64 cl, .bool ce] 58)
    have x0 := hX3r.cell 0
    have x1 := hX3r.cell 1
    have x2 := hX3r.cell 2
    have y0 := hY3r.cell 0
    have y1 := hY3r.cell 1
    have y2 := hY3r.cell 2
    have y3 := hY3r.cell 3
    simp only [List.getElem?_toArray, List.getElem?_cons_zero, List.getElem?_cons_succ] at x0 x1 x2 y0 y1 y2 y3
    have hlX := hX3.lt
    have hlY := hY3.lt
    go_wp2_with fail
    clear x0 x1 x2 y0 y1 y2 y3
    obtain ⟨w4, hw4⟩ : ∃ w4, w4 = w3.alloc (.cells #[.int .i64 cf, .int .i64 cl, .bool ce] 58) := ⟨_, rfl⟩
    have hk : Below w3.heap.size w3 w4 := by rw [hw4]; exact (Below.refl _ _).alloc (Nat.le_refl _) _
    have hZ4 : BK w4 w3.heap.size 58 #[.int .i64 cf, .int .i64 cl, .bool ce] := by rw [hw4]; exact BK.new _ _ _
    have hQ4 := hP.grow hk hk.size
    rw [← hw4]
    clear hw4 hX3r hY3r
    have hB4 := hB3.trans (hk.mono hB3.size)
    have hX4 := hX3.below hk hX3.lt
    have hY4 := hY3.below hk hY3.lt
    clear hX3 hY3 hB3 hk
    refine (fine_any pa pn pc ca cn cc ja jn jc R ra rn rc sa sn sc S w4 (HR.out.grow hB4 hB4.size) (HD.out.grow hB4 hB4.size)).mono ?_
    rintro e w5 ⟨rfl, hk⟩
    have hZ5 := hZ4.below hk hZ4.lt
    have hQ5 := hQ4.grow hk hk.size
    have hB5 := hB4.trans (hk.mono hB4.size)
    have hX5 := hX4.below hk hX4.lt
    have hY5 := hY4.below hk hY4.lt
    clear hX4 hY4 hB4 hk
    rw [HVS.out]
    have x0 := hX5.cell 0
    have x1 := hX5.cell 1
    have x2 := hX5.cell 2
    have y0 := hY5.cell 0
    have y1 := hY5.cell 1
    have y2 := hY5.cell 2
    have y3 := hY5.cell 3
    simp only [List.getElem?_toArray, List.getElem?_cons_zero, List.getElem?_cons_succ] at x0 x1 x2 y0 y1 y2 y3
    go_wp2_with fail
    clear x0 x1 x2 y0 y1 y2 y3
    have hK5 := (HK.out.grow hB5 hB5.size)
    refine (RCalls_any ka kn kc cs pa pn pc ca cn cc ja jn jc R w5 (HR.out.grow hB5 hB5.size) HV.out hK5 (by omega)).mono ?_
    rintro e w6 ⟨rfl, hk⟩
    have hZ6 := hZ5.below hk hZ5.lt
    have hQ6 := hQ5.grow hk hk.size
    clear hK5 hZ5 hQ5
    have hB6 := hB5.trans (hk.mono hB5.size)
    have hX6 := hX5.below hk hX5.lt
    have hY6 := hY5.below hk hY5.lt
    clear hX5 hY5 hB5 hk
    rw [HCB.out]
    have x0 := hX6.cell 0
    have x1 := hX6.cell 1
    have x2 := hX6.cell 2
    have y0 := hY6.cell 0
    have y1 := hY6.cell 1
    have y2 := hY6.cell 2
    have y3 := hY6.cell 3
    simp only [List.getElem?_toArray, List.getElem?_cons_zero, List.getElem?_cons_succ] at x0 x1 x2 y0 y1 y2 y3
    go_wp2_with fail
    clear x0 x1 x2 y0 y1 y2 y3

    refine (R3Plan_any pa pn pc ca cn cc ja jn jc R ra rn rc sa sn sc S ka kn kc cs w6 (HR.out.grow hB6 hB6.size) (HD.out.grow hB6 hB6.size) (HK.out.grow hB6 hB6.size) HV.out HS.out HC.out).mono ?_
    rintro e w7 ⟨A2, n2, c2, rfl, hP2, hk⟩
    have hZ7 := hZ6.below hk hZ6.lt
    have hQ7 := hQ6.grow hk hk.size
    clear hZ6 hQ6
    have hB7 := hB6.trans (hk.mono hB6.size)
    have hX7 := hX6.below hk hX6.lt
    have hY7 := hY6.below hk hY6.lt
    clear hX6 hY6 hB6 hk
    rw [HP1.out] at hP2
    rw [HCL.out, HP3.out]
    have hn0 : n = 0 := hQ7.1
    subst hn0
    dsimp only
    have hZr := hZ7.alloc (.cells #[.int .i64 cf, .int .i64 cl, .bool ce] 58)
    have hUr := BK.new w7 58 #[.int .i64 cf, .int .i64 cl, .bool ce]
    have u0 := hUr.cell 0
    have u1 := hUr.cell 1
    have u2 := hUr.cell 2
    have z0 := hZr.cell 0
    have z1 := hZr.cell 1
    have z2 := hZr.cell 2
    simp only [List.getElem?_toArray, List.getElem?_cons_zero, List.getElem?_cons_succ] at z0 z1 z2 u0 u1 u2
    have hlZ := hZr.lt
    have hlU := hUr.lt
    go_wp2_with fail
    have hBX := hB7.alloc hB7.size (.cells #[.int .i64 cf, .int .i64 cl, .bool ce] 58)
    refine (known_any _).mono ?_
    rintro e w9 ⟨rfl, hk⟩
    go_wp2_with fail
    go_ret
    exact ⟨rfl, hBX.trans (hk.mono hBX.size)⟩
  · have HPE : Hid (planAll S R cs = (trigsL S R cs, ⟨0, 0, false⟩, 0)) := by show _ = _; rw [HPA.out, hpl]
    have HPL := Lib.hid hpl
    clear hpl
    rw [HPE.out] at hP ⊢
    dsimp only at hP ⊢
    have hX3r := hX3.alloc (.cells #[.int .i64 0, .int .i64 0, .bool false] 58)
    have hY3r := hY3.alloc (.cells #[.int .i64 0, .int .i64 0, .bool false] 58)
    have x0 := hX3r.cell 0
    have x1 := hX3r.cell 1
    have x2 := hX3r.cell 2
    have y0 := hY3r.cell 0
    have y1 := hY3r.cell 1
    have y2 := hY3r.cell 2
    have y3 := hY3r.cell 3
    simp only [List.getElem?_toArray, List.getElem?_cons_zero, List.getElem?_cons_succ] at x0 x1 x2 y0 y1 y2 y3
    have hlX := hX3.lt
    have hlY := hY3.lt
    go_wp2_with fail
    clear x0 x1 x2 y0 y1 y2 y3
    obtain ⟨w4, hw4⟩ : ∃ w4, w4 = w3.alloc (.cells #[.int .i64 0, .int .i64 0, .bool false] 58) := ⟨_, rfl⟩
    have hk : Below w3.heap.size w3 w4 := by rw [hw4]; exact (Below.refl _ _).alloc (Nat.le_refl _) _
    have hZ4 : BK w4 w3.heap.size 58 #[.int .i64 0, .int .i64 0, .bool false] := by rw [hw4]; exact BK.new _ _ _
    have hQ4 := hP.grow hk hk.size
    rw [← hw4]
    clear hw4 hX3r hY3r
    have hB4 := hB3.trans (hk.mono hB3.size)
    have hX4 := hX3.below hk hX3.lt
    have hY4 := hY3.below hk hY3.lt
    clear hX3 hY3 hB3 hk
    refine (fine_any pa pn pc ca cn cc ja jn jc R ra rn rc sa sn sc S w4 (HR.out.grow hB4 hB4.size) (HD.out.grow hB4 hB4.size)).mono ?_
    rintro e w5 ⟨rfl, hk⟩
    have hZ5 := hZ4.below hk hZ4.lt
    have hQ5 := hQ4.grow hk hk.size
    have hB5 := hB4.trans (hk.mono hB4.size)
    have hX5 := hX4.below hk hX4.lt
    have hY5 := hY4.below hk hY4.lt
    clear hX4 hY4 hB4 hk
    rw [HVS.out]
    have x0 := hX5.cell 0
    have x1 := hX5.cell 1
    have x2 := hX5.cell 2
    have y0 := hY5.cell 0
    have y1 := hY5.cell 1
    have y2 := hY5.cell 2
    have y3 := hY5.cell 3
    simp only [List.getElem?_toArray, List.getElem?_cons_zero, List.getElem?_cons_succ] at x0 x1 x2 y0 y1 y2 y3
    go_wp2_with fail
    clear x0 x1 x2 y0 y1 y2 y3
    have hK5 := (HK.out.grow hB5 hB5.size)
    refine (RCalls_any ka kn kc cs pa pn pc ca cn cc ja jn jc R w5 (HR.out.grow hB5 hB5.size) HV.out hK5 (by omega)).mono ?_
    rintro e w6 ⟨rfl, hk⟩
    have hZ6 := hZ5.below hk hZ5.lt
    have hQ6 := hQ5.grow hk hk.size
    clear hK5 hZ5 hQ5
    have hB6 := hB5.trans (hk.mono hB5.size)
    have hX6 := hX5.below hk hX5.lt
    have hY6 := hY5.below hk hY5.lt
    clear hX5 hY5 hB5 hk
    rw [HCB.out]
    have x0 := hX6.cell 0
    have x1 := hX6.cell 1
    have x2 := hX6.cell 2
    have y0 := hY6.cell 0
    have y1 := hY6.cell 1
    have y2 := hY6.cell 2
    have y3 := hY6.cell 3
    simp only [List.getElem?_toArray, List.getElem?_cons_zero, List.getElem?_cons_succ] at x0 x1 x2 y0 y1 y2 y3
    go_wp2_with fail
    clear x0 x1 x2 y0 y1 y2 y3

    refine (R3Plan_any pa pn pc ca cn cc ja jn jc R ra rn rc sa sn sc S ka kn kc cs w6 (HR.out.grow hB6 hB6.size) (HD.out.grow hB6 hB6.size) (HK.out.grow hB6 hB6.size) HV.out HS.out HC.out).mono ?_
    rintro e w7 ⟨A2, n2, c2, rfl, hP2, hk⟩
    have hZ7 := hZ6.below hk hZ6.lt
    have hQ7 := hQ6.grow hk hk.size
    clear hZ6 hQ6
    have hB7 := hB6.trans (hk.mono hB6.size)
    have hX7 := hX6.below hk hX6.lt
    have hY7 := hY6.below hk hY6.lt
    clear hX6 hY6 hB6 hk
    rw [HPL.out] at hP2 ⊢
    dsimp only at hP2 ⊢
    have hZr := hZ7.alloc (.cells #[.int .i64 0, .int .i64 0, .bool false] 58)
    have hUr := BK.new w7 58 #[.int .i64 0, .int .i64 0, .bool false]
    have u0 := hUr.cell 0
    have u1 := hUr.cell 1
    have u2 := hUr.cell 2
    have z0 := hZr.cell 0
    have z1 := hZr.cell 1
    have z2 := hZr.cell 2
    simp only [List.getElem?_toArray, List.getElem?_cons_zero, List.getElem?_cons_succ] at z0 z1 z2 u0 u1 u2
    have hlZ := hZr.lt
    have hlU := hUr.lt
    go_wp2_with fail
    have hk : Below w7.heap.size w7 (w7.alloc (.cells #[.int .i64 0, .int .i64 0, .bool false] 58)) := (Below.refl _ _).alloc (Nat.le_refl _) _
    have hQ8 := hQ7.grow hk hk.size
    have hP8 := hP2.grow hk hk.size
    have hnn : n2 = n := hP2.1.trans hQ7.1.symm
    have hnb : n2 ≤ 100000 := by rw [hP2.1, trigsL_len]; have := HC.out.l1; omega
    subst hnn
    have hB8 := hB7.trans (hk.mono hB7.size)
    clear u0 u1 u2 z0 z1 z2 hUr
    refine (R3Same_true A n2 c A2 c2 _ _ hQ8 hP8 hnb).mono ?_
    rintro e w9 ⟨rfl, hk2⟩
    have hZ9 := hZr.below hk2 hZr.lt
    have hBX := hB8.trans (hk2.mono hB8.size)
    have z0 := hZ9.cell 0
    have z1 := hZ9.cell 1
    have z2 := hZ9.cell 2
    simp only [List.getElem?_toArray, List.getElem?_cons_zero, List.getElem?_cons_succ] at z0 z1 z2
    clear hk hk2 hZr
    go_wp2_with fail
    refine (known_any _).mono ?_
    rintro e w9 ⟨rfl, hk⟩
    go_wp2_with fail
    go_ret
    exact ⟨rfl, hBX.trans (hk.mono hBX.size)⟩
end Go.Proofs.YtijcbfhlhgjedaaDoor
