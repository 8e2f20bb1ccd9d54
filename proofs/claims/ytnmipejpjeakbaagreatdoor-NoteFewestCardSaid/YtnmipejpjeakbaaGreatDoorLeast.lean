/- The law's least: the least number of edits, all ways tried. -/
import Derived.Test.YtnmipejpjeakbaaGreatDoorNApl
namespace Go.Proofs.YtnmipejpjeakbaaGreatDoor
open Go.RowKit Go.Shelf Go.Sort Go.Proofs

theorem sizeNt (W : World) : (sizeOf 36).run Tryz.prog W = .ok 10 W := by kernel_rfl
theorem run_tailN (W : World) (A : Option Addr) (n c : Nat) (hn : 1 ≤ n) : (Instr.slice 23 (.slice A n c) (some (.int .i64 1)) none none).run Tryz.prog W = .ok (.slice (tailK 10 A c) (n - 1) (c - 1)) W := by
  have hz := sizeNt W
  have hn1 : (1 : Int) ≤ (n : Int) := by omega
  simp [Instr.slice, Instr.sliceBounds, Instr.sliceBound, asIntOf, run_underlying Tryz.underlying23, hn1, hz, Result.andThen, tailK]
set_option maxRecDepth 100000 in
set_option maxHeartbeats 8000000 in
theorem least_any : ∀ (q : Nat) (a b : List NoteR) (A1 : Option Addr) (n c1 : Nat) (A2 : Option Addr) (m c2 : Nat) (w : World), n + m ≤ q → SL nC 10 w w.heap.size A1 n a → SL nC 10 w w.heap.size A2 m b → n ≤ c1 → m ≤ c2 → n ≤ 5 → m ≤ 5 →
    Calls Tryz.prog 36 #[.slice A1 n c1, .slice A2 m c2] w fun e w' => e = .returned (.int .i64 (cst a b : Nat)) ∧ Below w.heap.size w w'
  | q, a, b, A1, n, c1, A2, m, c2, w, hq, ha, hb, hc1, hc2, hn, hm => by
    have hmo : Tryz.prog.follows .mixedOrders = true := by kernel_rfl
    by_cases h0 : n = 0
    · subst h0
      have hA : a = [] := List.length_eq_zero_iff.1 ha.1.symm
      have HR : Hid (cst a b = m) := by show _ = _; rw [hA, cst_nil, hb.1]
      clear ha hb hA hq
      go_enter Tryz.func36, Tryz.ntmps36
      go_wp2_with fail
      go_ret
      exact ⟨by rw [HR.out]; simp, Below.refl _ _⟩
    by_cases h0' : m = 0
    · subst h0'
      have hB : b = [] := List.length_eq_zero_iff.1 hb.1.symm
      have HR : Hid (cst a b = n) := by show _ = _; rw [hB, cst_nil', ha.1]
      have g0 : ((n : Int) == 0) = false := by simpa using h0
      clear ha hb hB hq
      go_enter Tryz.func36, Tryz.ntmps36
      go_wp2_with fail
      go_ret
      exact ⟨by rw [HR.out]; simp, Below.refl _ _⟩
    cases q with
    | zero => omega
    | succ q =>
    obtain ⟨x, a', rfl⟩ : ∃ x a', a = x :: a' := by
      cases a with
      | nil => have := ha.1; simp at this; omega
      | cons x a' => exact ⟨x, a', rfl⟩
    obtain ⟨y, b', rfl⟩ : ∃ y b', b = y :: b' := by
      cases b with
      | nil => have := hb.1; simp at this; omega
      | cons y b' => exact ⟨y, b', rfl⟩
    have hla := ha.1
    have hlb := hb.1
    simp only [List.length_cons] at hla hlb
    have sA := ha.tailK (c := c1) hc1
    have sB := hb.tailK (c := c2) hc2
    obtain ⟨xb, xo, hxa, hxB, c0, c1', c2', c3, c4, c5, c6, c7, c8, c9⟩ := NS.at_ ha (k := 0) (by simp)
    obtain ⟨yb, yo, hya, hyB, d0, d1, d2, d3, d4, d5, d6, d7, d8, d9⟩ := NS.at_ hb (k := 0) (by simp)
    simp only [List.getElem_cons_zero, Nat.zero_mul, Nat.add_zero] at c0 c1' c2' c3 c4 c5 c6 c7 c8 c9 d0 d1 d2 d3 d4 d5 d6 d7 d8 d9
    have hs1 := fun W : World => run_tailN W A1 n c1 (by omega)
    have hs2 := fun W : World => run_tailN W A2 m c2 (by omega)
    obtain ⟨T1, hT1⟩ : ∃ T, T = tailK 10 A1 c1 := ⟨_, rfl⟩
    obtain ⟨T2, hT2⟩ : ∃ T, T = tailK 10 A2 c2 := ⟨_, rfl⟩
    rw [← hT1] at sA hs1
    rw [← hT2] at sB hs2
    have H1 : Hid (∀ w', Below w.heap.size w w' → Calls Tryz.prog 36 #[.slice T1 (n - 1) (c1 - 1), .slice A2 m c2] w' fun e w'' => e = .returned (.int .i64 (cst a' (y :: b') : Nat)) ∧ Below w'.heap.size w' w'') :=
      fun w' hw => least_any q a' (y :: b') T1 (n - 1) (c1 - 1) A2 m c2 w' (by omega) (sA.grow hw hw.size) (hb.grow hw hw.size) (by omega) hc2 (by omega) hm
    have H2 : Hid (∀ w', Below w.heap.size w w' → Calls Tryz.prog 36 #[.slice A1 n c1, .slice T2 (m - 1) (c2 - 1)] w' fun e w'' => e = .returned (.int .i64 (cst (x :: a') b' : Nat)) ∧ Below w'.heap.size w' w'') :=
      fun w' hw => least_any q (x :: a') b' A1 n c1 T2 (m - 1) (c2 - 1) w' (by omega) (ha.grow hw hw.size) (sB.grow hw hw.size) hc1 (by omega) hn (by omega)
    have H3 : Hid (∀ w', Below w.heap.size w w' → Calls Tryz.prog 36 #[.slice T1 (n - 1) (c1 - 1), .slice T2 (m - 1) (c2 - 1)] w' fun e w'' => e = .returned (.int .i64 (cst a' b' : Nat)) ∧ Below w'.heap.size w' w'') :=
      fun w' hw => least_any q a' b' T1 (n - 1) (c1 - 1) T2 (m - 1) (c2 - 1) w' (by omega) (sA.grow hw hw.size) (sB.grow hw hw.size) (by omega) (by omega) (by omega) (by omega)
    have k1 := cst_le _ a' (y :: b') (Nat.le_refl _)
    have k2 := cst_le _ (x :: a') b' (Nat.le_refl _)
    have k3 := cst_le _ a' b' (Nat.le_refl _)
    simp only [List.length_cons] at k1 k2 k3
    have HCM : Hid (cst (x :: a') (y :: b') = if x = y then min (1 + min (cst a' b') (min (cst a' (y :: b')) (cst (x :: a') b'))) (cst a' b') else 1 + min (cst a' b') (min (cst a' (y :: b')) (cst (x :: a') b'))) := cst_min x y a' b'
    generalize cst a' (y :: b') = z1 at *
    generalize cst (x :: a') b' = z2 at *
    generalize cst a' b' = z3 at *
    obtain ⟨M1, hM1⟩ : ∃ M1 : Nat, M1 = min z1 z2 := ⟨_, rfl⟩
    obtain ⟨M, hM⟩ : ∃ M : Nat, M = min M1 z3 := ⟨_, rfl⟩
    have hMM : min z3 (min z1 z2) = M := by rw [hM, hM1]; omega
    rw [hMM] at HCM
    have t1 : (if (z2 : Int) < (z1 : Int) then (z2 : Int) else (z1 : Int)) = (M1 : Int) := by rw [hM1]; split <;> omega
    have t1N : (if z2 < z1 then (z2 : Int) else (z1 : Int)) = (M1 : Int) := by rw [hM1]; split <;> omega
    have t2 : (if (z3 : Int) < (M1 : Int) then (z3 : Int) else (M1 : Int)) = (M : Int) := by rw [hM]; split <;> omega
    have t2N : (if z3 < M1 then (z3 : Int) else (M1 : Int)) = (M : Int) := by rw [hM]; split <;> omega
    have hM600 : M ≤ 600 := by omega
    have u3 : IntKind.i64.wrap (1 + (M : Int)) = 1 + (M : Int) := IntWalk.i64_in _ (by omega)
    have g1 : ((n : Int) == 0) = false := by simpa using h0
    have g2 : ((m : Int) == 0) = false := by simpa using h0'
    have HXA := Lib.hid hxa
    have HYA := Lib.hid hya
    have HZ3 : Hid (z3 ≤ 1000) := by show _ ≤ _; omega
    have HN : Hid (0 < n ∧ 0 < m) := by show _ ∧ _; omega
    clear hM hM1 hMM k1 k2 k3 hla hlb ha hb sA sB hT1 hT2 hxa hya hq hn hm hc1 hc2 h0 h0'
    go_enter Tryz.func36, Tryz.ntmps36
    go_wp2_with fail
    refine wp_region_qt 15 hmo (by kernel_rfl) ?_
    simp only [List.take_succ_cons, List.take_zero, List.drop_succ_cons, List.drop_zero]
    repeat (quiet_step (first | (go_at_call_of 36 A2; exact Calls.regrown_of (H1.out _ (below_regrown _ _ _))) | (go_at_call_of 36 A1; exact Calls.regrown_of (H2.out _ (below_regrown _ _ _))) | (go_at_call 36; exact Calls.regrown_of (H3.out _ (below_regrown _ _ _)))))
    refine wpQuiet_nil ?_
    intro w2 hb2
    have HB2 := Lib.hid hb2
    have bc : ∀ {p : Addr} {v : Value}, p.block < w.heap.size → w.cell? p = some v → w2.cell? p = some v := fun hp hv => (World.cell?_of_block (hb2.block _ hp)).trans hv
    have c0 := bc hxB c0
    have c1' := bc hxB c1'
    have c2' := bc hxB c2'
    have c3 := bc hxB c3
    have c4 := bc hxB c4
    have c5 := bc hxB c5
    have c6 := bc hxB c6
    have c7 := bc hxB c7
    have c8 := bc hxB c8
    have c9 := bc hxB c9
    have d0 := bc hyB d0
    have d1 := bc hyB d1
    have d2 := bc hyB d2
    have d3 := bc hyB d3
    have d4 := bc hyB d4
    have d5 := bc hyB d5
    have d6 := bc hyB d6
    have d7 := bc hyB d7
    have d8 := bc hyB d8
    have d9 := bc hyB d9
    clear hb2 bc t1 t1N t2 t2N
    have hn0 := HN.out.1
    have hm0 := HN.out.2
    have hn0i : (0 : Int) < (n : Int) := by omega
    have hm0i : (0 : Int) < (m : Int) := by omega
    by_cases exy : x = y
    · have HC : Hid (cst (x :: a') (y :: b') = min (1 + M) z3) := by have := HCM.out; rwa [if_pos exy] at this
      have hq : ∀ w, (Go.binOp .eql 36 (.agg #[.int .i64 x.k, .int .i64 x.tu, .int .i64 x.gr, .int .i64 x.lo, .int .i64 x.ch, .int .i64 x.ton, .int .i64 x.me, .int .i64 x.si, .int .i64 x.wa, .int .i64 x.ar]) (.agg #[.int .i64 y.k, .int .i64 y.tu, .int .i64 y.gr, .int .i64 y.lo, .int .i64 y.ch, .int .i64 y.ton, .int .i64 y.me, .int .i64 y.si, .int .i64 y.wa, .int .i64 y.ar])).run Tryz.prog w = .ok (.bool true) w := fun w => by rw [eqN, decide_eq_true exy]
      clear HCM exy
      go_wp2_with fail
      rw [HXA.out, HYA.out]
      go_quiet (fail)
      go_wp2_with fail
      rw [← HXA.out, ← HYA.out]
      obtain ⟨w3, hw3⟩ : ∃ w3, w3 = w2.drewN nq := ⟨_, rfl⟩
      have HB3 : Hid (Below w.heap.size w w3) := by show Below _ _ _; rw [hw3]; exact below_drewN HB2.out _
      rw [← hw3]
      clear hw3 hq c0 c1' c2' c3 c4 c5 c6 c7 c8 c9 d0 d1 d2 d3 d4 d5 d6 d7 d8 d9
      refine wp_region_qt 7 hmo (by kernel_rfl) ?_
      simp only [List.take_succ_cons, List.take_zero, List.drop_succ_cons, List.drop_zero]
      repeat (quiet_step ((go_at_call 36; exact Calls.regrown_of (H3.out _ (HB3.out.trans ((below_regrown _ _ _).mono HB3.out.size))))))
      refine wpQuiet_nil ?_
      intro w4 hb4
      go_wp2_with fail
      go_ret
      exact ⟨by rw [HC.out]; show Ending.returned (.int .i64 (min (1 + (M : Int)) (z3 : Int))) = _; congr 2; omega, HB3.out.trans (hb4.mono HB3.out.size)⟩
    · have HC : Hid (cst (x :: a') (y :: b') = 1 + M) := by have := HCM.out; rwa [if_neg exy] at this
      have hq : ∀ w, (Go.binOp .eql 36 (.agg #[.int .i64 x.k, .int .i64 x.tu, .int .i64 x.gr, .int .i64 x.lo, .int .i64 x.ch, .int .i64 x.ton, .int .i64 x.me, .int .i64 x.si, .int .i64 x.wa, .int .i64 x.ar]) (.agg #[.int .i64 y.k, .int .i64 y.tu, .int .i64 y.gr, .int .i64 y.lo, .int .i64 y.ch, .int .i64 y.ton, .int .i64 y.me, .int .i64 y.si, .int .i64 y.wa, .int .i64 y.ar])).run Tryz.prog w = .ok (.bool false) w := fun w => by rw [eqN, decide_eq_false exy]
      clear HCM exy
      go_wp2_with fail
      rw [HXA.out, HYA.out]
      go_quiet (fail)
      go_wp2_with fail
      go_ret
      exact ⟨by rw [HC.out]; simp, below_drewN HB2.out _⟩
end Go.Proofs.YtnmipejpjeakbaaGreatDoor
