/- Lists of notes as the document takes them: Same. -/
import Derived.Test.YtcniibngfnkobaaGreatDoorPAll
namespace Go.Proofs.YtcniibngfnkobaaGreatDoor
open Go.RowKit Go.Shelf Go.Sort Go.Proofs

instance noteDec : DecidableEq NoteR := fun a b =>
  if h : a.k = b.k ∧ a.tu = b.tu ∧ a.gr = b.gr ∧ a.lo = b.lo ∧ a.ch = b.ch ∧ a.ton = b.ton ∧ a.me = b.me ∧ a.si = b.si ∧ a.wa = b.wa ∧ a.ar = b.ar then
    isTrue (by cases a; cases b; simp_all)
  else isFalse (fun e => h (by subst e; simp))
theorem eqN (x y : NoteR) (w : World) : (Go.binOp .eql 48 (.agg #[.int .i64 x.k, .int .i64 x.tu, .int .i64 x.gr, .int .i64 x.lo, .int .i64 x.ch, .int .i64 x.ton, .int .i64 x.me, .int .i64 x.si, .int .i64 x.wa, .int .i64 x.ar]) (.agg #[.int .i64 y.k, .int .i64 y.tu, .int .i64 y.gr, .int .i64 y.lo, .int .i64 y.ch, .int .i64 y.ton, .int .i64 y.me, .int .i64 y.si, .int .i64 y.wa, .int .i64 y.ar])).run Tryz.prog w = .ok (.bool (decide (x = y))) w := by
  rw [eq_note]
  congr 2
  obtain ⟨a0, a1, a2, a3, a4, a5, a6, a7, a8, a9⟩ := x
  obtain ⟨b0, b1, b2, b3, b4, b5, b6, b7, b8, b9⟩ := y
  rw [Bool.eq_iff_iff]
  simp only [Bool.and_eq_true, beq_iff_eq, decide_eq_true_eq, NoteR.mk.injEq, and_assoc]
theorem neN (x y : NoteR) (w : World) (h : x ≠ y) : (Go.binOp .neq 48 (.agg #[.int .i64 x.k, .int .i64 x.tu, .int .i64 x.gr, .int .i64 x.lo, .int .i64 x.ch, .int .i64 x.ton, .int .i64 x.me, .int .i64 x.si, .int .i64 x.wa, .int .i64 x.ar]) (.agg #[.int .i64 y.k, .int .i64 y.tu, .int .i64 y.gr, .int .i64 y.lo, .int .i64 y.ch, .int .i64 y.ton, .int .i64 y.me, .int .i64 y.si, .int .i64 y.wa, .int .i64 y.ar])).run Tryz.prog w = .ok (.bool true) w := by
  have h1 := eqN x y w
  rw [decide_eq_false h, run_eql_struct] at h1
  rw [run_neq_struct]
  revert h1
  cases (Op.equalIn 10000 48 (.agg #[.int .i64 x.k, .int .i64 x.tu, .int .i64 x.gr, .int .i64 x.lo, .int .i64 x.ch, .int .i64 x.ton, .int .i64 x.me, .int .i64 x.si, .int .i64 x.wa, .int .i64 x.ar]) (.agg #[.int .i64 y.k, .int .i64 y.tu, .int .i64 y.gr, .int .i64 y.lo, .int .i64 y.ch, .int .i64 y.ton, .int .i64 y.me, .int .i64 y.si, .int .i64 y.wa, .int .i64 y.ar])).run Tryz.prog w with
  | ok b w' =>
    intro h1
    simp only [Result.andThen, Result.ok.injEq, Value.bool.injEq] at h1 ⊢
    simp [h1.1, h1.2]
  | _ => intro h1; simp [Result.andThen] at h1
theorem list_neq_at {α : Type} {xs ys : List α} {k : Nat} (h1 : k < xs.length) (h2 : k < ys.length) (h : xs[k] ≠ ys[k]) : xs ≠ ys := fun e => by subst e; exact h rfl
theorem take_succ_eq {α : Type} {xs ys : List α} {k : Nat} (h : xs.take k = ys.take k) (h1 : k < xs.length) (h2 : k < ys.length) (he : xs[k] = ys[k]) : xs.take (k + 1) = ys.take (k + 1) := by
  rw [List.take_add_one, List.take_add_one, h, List.getElem?_eq_getElem h1, List.getElem?_eq_getElem h2, he]
set_option maxRecDepth 100000 in
set_option maxHeartbeats 4000000 in
theorem rsame_any (A : Option Addr) (n c : Nat) (xs : List NoteR) (A2 : Option Addr) (m c2 : Nat) (ys : List NoteR) (w : World) (h : SL nC 10 w w.heap.size A n xs) (h2 : SL nC 10 w w.heap.size A2 m ys) (hn : n ≤ 1000000) :
    Calls Tryz.prog 11 #[.slice A n c, .slice A2 m c2] w fun e w' => e = .returned (.bool (decide (xs = ys))) ∧ Below w.heap.size w w' := by
  have hmo : Tryz.prog.follows .mixedOrders = true := by kernel_rfl
  have HL := Lib.hid h.1
  have HL2 := Lib.hid h2.1
  have HS := Lib.hid h
  have HS2 := Lib.hid h2
  clear h h2
  by_cases hnm : n = m
  case neg =>
    have HR : Hid (decide (xs = ys) = false) := by
      show _ = _
      apply decide_eq_false
      intro e
      exact hnm (by rw [HL.out, HL2.out, e])
    go_enter Tryz.func11, Tryz.ntmps11
    go_wp2_with fail
    go_ret
    exact ⟨by rw [HR.out]; rfl, Below.refl _ _⟩
  subst hnm
  go_enter Tryz.func11, Tryz.ntmps11
  go_wp2_with fail
  go_loopw [5] (fun i wr => ∃ k : Nat, k ≤ n ∧ i = .int .i64 (k : Nat) ∧ xs.take k = ys.take k ∧ Below w.heap.size w wr)
    (fun i _ => n - (intOf i).toNat)
  case atStart => exact ⟨0, Nat.zero_le _, rfl, by simp, Below.refl _ _⟩
  case round =>
    obtain ⟨k, hk1, rfl, hal, hbr⟩ := hrel
    by_cases hlt : k < n
    · have hkl : k < xs.length := by rw [← HL.out]; exact hlt
      have hkl2 : k < ys.length := by rw [← HL2.out]; exact hlt
      obtain ⟨b, off, hA, hbB, c0', c1', c2', c3', c4', c5', c6', c7', c8', c9'⟩ := NS.at_ (HS.out.below hbr) hkl
      obtain ⟨b2, off2, hA2, hbB2, d0', d1', d2', d3', d4', d5', d6', d7', d8', d9'⟩ := NS.at_ (HS2.out.below hbr) hkl2
      have HT := Lib.hid (take_succ_eq hal hkl hkl2)
      have HF := Lib.hid (list_neq_at hkl hkl2)
      generalize xs[k]'hkl = x at *
      generalize ys[k]'hkl2 = y at *
      subst hA hA2
      have c0 := fun d os => cell_regrown c0' d os
      have c1 := fun d os => cell_regrown c1' d os
      have c2 := fun d os => cell_regrown c2' d os
      have c3 := fun d os => cell_regrown c3' d os
      have c4 := fun d os => cell_regrown c4' d os
      have c5 := fun d os => cell_regrown c5' d os
      have c6 := fun d os => cell_regrown c6' d os
      have c7 := fun d os => cell_regrown c7' d os
      have c8 := fun d os => cell_regrown c8' d os
      have c9 := fun d os => cell_regrown c9' d os
      have d0 := fun d os => cell_regrown d0' d os
      have d1 := fun d os => cell_regrown d1' d os
      have d2 := fun d os => cell_regrown d2' d os
      have d3 := fun d os => cell_regrown d3' d os
      have d4 := fun d os => cell_regrown d4' d os
      have d5 := fun d os => cell_regrown d5' d os
      have d6 := fun d os => cell_regrown d6' d os
      have d7 := fun d os => cell_regrown d7' d os
      have d8 := fun d os => cell_regrown d8' d os
      have d9 := fun d os => cell_regrown d9' d os
      by_cases e : x = y
      · subst e
        have HT2 := Lib.hid (HT.out rfl)
        clear HT HF
        go_wp2_with fail
        go_quiet (fail)
        go_wp2_with fail
        go_roundw
        case rel => exact ⟨k + 1, by omega, by go_num, HT2.out, below_drewN hbr _⟩
        case measure => simp [intOf]; omega
      · have HR : Hid (decide (xs = ys) = false) := decide_eq_false (HF.out e)
        have hq := fun w => neN x y w e
        clear HT HF e
        go_wp2_with fail
        go_quiet (fail)
        go_wp2_with fail
        go_ret
        exact ⟨by rw [HR.out]; rfl, below_drewN hbr _⟩
    · obtain rfl : k = n := by omega
      have hall : xs = ys := by
        have h1 := HL.out
        have h2 := HL2.out
        have e1 : xs.take k = xs := List.take_of_length_le (by omega)
        have e2 : ys.take k = ys := List.take_of_length_le (by omega)
        rw [e1, e2] at hal
        exact hal
      have HALL : Hid (decide (xs = ys) = true) := decide_eq_true hall
      clear hall hal
      go_wp2_with fail
      go_ret
      exact ⟨by rw [HALL.out]; rfl, hbr⟩
end Go.Proofs.YtcniibngfnkobaaGreatDoor
