/- Corrections of notes, plain: least costs, the edits. No program in sight. -/
import Derived.Test.YtnmipejpjeakbaaGreatDoorPNList
import Derived.Test.YtnmipejpjeakbaaGreatDoorPDReg
import Derived.Test.YtnmipejpjeakbaaGreatDoorPCBase
import Derived.Test.YtnmipejpjeakbaaGreatDoorPCRoad
import Derived.Test.YtnmipejpjeakbaaGreatDoorPCIter
import Derived.Test.YtnmipejpjeakbaaGreatDoorPCCheck
import Derived.Test.YtnmipejpjeakbaaGreatDoorPCReg
import Derived.Test.YtnmipejpjeakbaaGreatDoorPCGrouped
import Derived.Test.YtnmipejpjeakbaaGreatDoorPCAppS
import Derived.Test.YtnmipejpjeakbaaGreatDoorPCCorn
import Derived.Test.YtnmipejpjeakbaaGreatDoorPCReg8
namespace Go.Proofs.YtnmipejpjeakbaaGreatDoor

instance noteDec : DecidableEq NoteR := fun a b =>
  if h : a.k = b.k ∧ a.tu = b.tu ∧ a.gr = b.gr ∧ a.lo = b.lo ∧ a.ch = b.ch ∧ a.ton = b.ton ∧ a.me = b.me ∧ a.si = b.si ∧ a.wa = b.wa ∧ a.ar = b.ar then
    isTrue (by cases a; cases b; simp_all)
  else isFalse (fun e => h (by subst e; simp))
/-- An edit. -/
structure EdR where
  at_ : Int
  kd : Int
  nt : NoteR
/-- The least number of edits from notes to other notes. -/
def cst : List NoteR → List NoteR → Nat
  | [], b => b.length
  | _ :: a, [] => a.length + 1
  | x :: a, y :: b => if x = y then cst a b else 1 + min (cst a b) (min (cst a (y :: b)) (cst (x :: a) b))
termination_by a b => a.length + b.length
theorem cst_nil (b : List NoteR) : cst [] b = b.length := by rw [cst]
theorem cst_nil' (a : List NoteR) : cst a [] = a.length := by cases a <;> rw [cst] <;> rfl
theorem cst_cons (x y : NoteR) (a b : List NoteR) : cst (x :: a) (y :: b) = if x = y then cst a b else 1 + min (cst a b) (min (cst a (y :: b)) (cst (x :: a) b)) := by rw [cst]
theorem cst_sym : ∀ (n : Nat) (a b : List NoteR), a.length + b.length ≤ n → cst a b = cst b a
  | _, [], b, _ => by rw [cst_nil, cst_nil']
  | _, x :: a, [], _ => by rw [cst_nil, cst_nil']
  | 0, x :: a, y :: b, h => by simp at h
  | n + 1, x :: a, y :: b, h => by
    simp only [List.length_cons] at h
    rw [cst_cons, cst_cons, cst_sym n a b (by omega), cst_sym n a (y :: b) (by simp; omega), cst_sym n (x :: a) b (by simp; omega)]
    by_cases e : x = y
    · rw [if_pos e, if_pos e.symm]
    · rw [if_neg e, if_neg (fun q => e q.symm), Nat.min_comm (cst (y :: b) a)]
/-- One note more or less makes at most one edit more or less. -/
theorem cst_lip : ∀ (n : Nat) (a b : List NoteR) (x : NoteR), a.length + b.length ≤ n → cst (x :: a) b ≤ cst a b + 1 ∧ cst a b ≤ cst (x :: a) b + 1
  | _, a, [], x, _ => by rw [cst_nil', cst_nil', List.length_cons]; omega
  | 0, a, y :: b, x, h => by simp at h
  | n + 1, a, y :: b, x, h => by
    simp only [List.length_cons] at h
    have h1 := cst_lip n b a y (by omega)
    have h2 := cst_lip n a b x (by omega)
    rw [cst_sym _ (y :: b) a (Nat.le_refl _), cst_sym _ b a (Nat.le_refl _)] at h1
    rw [cst_cons]
    split
    · omega
    · omega
theorem cst_lip' (a b : List NoteR) (y : NoteR) : cst a (y :: b) ≤ cst a b + 1 ∧ cst a b ≤ cst a (y :: b) + 1 := by
  have h1 := cst_lip _ b a y (Nat.le_refl _)
  rwa [cst_sym _ (y :: b) a (Nat.le_refl _), cst_sym _ b a (Nat.le_refl _)] at h1
/-- The program's way to reckon a cost. -/
theorem cst_min (x y : NoteR) (a b : List NoteR) : cst (x :: a) (y :: b) = if x = y then min (1 + min (cst a b) (min (cst a (y :: b)) (cst (x :: a) b))) (cst a b) else 1 + min (cst a b) (min (cst a (y :: b)) (cst (x :: a) b)) := by
  rw [cst_cons]
  have h1 := (cst_lip _ a b x (Nat.le_refl _)).2
  have h2 := (cst_lip' a b y).2
  split
  · omega
  · rfl
theorem cst_le : ∀ (n : Nat) (a b : List NoteR), a.length + b.length ≤ n → cst a b ≤ a.length + b.length
  | _, [], b, _ => by rw [cst_nil]; simp
  | _, x :: a, [], _ => by rw [cst_nil']; simp
  | 0, x :: a, y :: b, h => by simp at h
  | n + 1, x :: a, y :: b, h => by
    simp only [List.length_cons] at h ⊢
    have h1 := cst_le n a b (by omega)
    rw [cst_cons]
    split <;> omega
/-- The edits, from a place on. -/
def mnd (i : Int) : List NoteR → List NoteR → List EdR
  | [], [] => []
  | [], y :: b => ⟨i, 1, y⟩ :: mnd i [] b
  | _ :: a, [] => ⟨i, 2, ⟨0, 0, 0, 0, 0, 0, 0, 0, 0, 0⟩⟩ :: mnd (i + 1) a []
  | x :: a, y :: b =>
    if x = y ∧ cst a b = cst (x :: a) (y :: b) then mnd (i + 1) a b
    else if cst a b + 1 = cst (x :: a) (y :: b) then ⟨i, 3, y⟩ :: mnd (i + 1) a b
    else if cst a (y :: b) + 1 = cst (x :: a) (y :: b) then ⟨i, 2, ⟨0, 0, 0, 0, 0, 0, 0, 0, 0, 0⟩⟩ :: mnd (i + 1) a (y :: b)
    else ⟨i, 1, y⟩ :: mnd i (x :: a) b
termination_by a b => a.length + b.length
end Go.Proofs.YtnmipejpjeakbaaGreatDoor

/- Edits applied, plain: a correction, applied, gives the other list; it has the least number of edits; which edits are as defined. No program in sight. -/
namespace Go.Proofs.YtnmipejpjeakbaaGreatDoor

theorem mnd_nil (i : Int) : mnd i [] [] = [] := by rw [mnd]
theorem mnd_ins (i : Int) (y : NoteR) (b : List NoteR) : mnd i [] (y :: b) = ⟨i, 1, y⟩ :: mnd i [] b := by rw [mnd]
theorem mnd_del (i : Int) (x : NoteR) (a : List NoteR) : mnd i (x :: a) [] = ⟨i, 2, ⟨0, 0, 0, 0, 0, 0, 0, 0, 0, 0⟩⟩ :: mnd (i + 1) a [] := by rw [mnd]
theorem mnd_cons (i : Int) (x y : NoteR) (a b : List NoteR) : mnd i (x :: a) (y :: b) =
    if x = y ∧ cst a b = cst (x :: a) (y :: b) then mnd (i + 1) a b
    else if cst a b + 1 = cst (x :: a) (y :: b) then ⟨i, 3, y⟩ :: mnd (i + 1) a b
    else if cst a (y :: b) + 1 = cst (x :: a) (y :: b) then ⟨i, 2, ⟨0, 0, 0, 0, 0, 0, 0, 0, 0, 0⟩⟩ :: mnd (i + 1) a (y :: b)
    else ⟨i, 1, y⟩ :: mnd i (x :: a) b := by rw [mnd]
end Go.Proofs.YtnmipejpjeakbaaGreatDoor

/- Lists of notes as the document takes them: All, Same, Write. -/
namespace Go.Proofs.YtnmipejpjeakbaaGreatDoor
open Go.RowKit Go.Shelf Go.Sort Go.Proofs

theorem eqN (x y : NoteR) (w : World) : (Go.binOp .eql 36 (.agg #[.int .i64 x.k, .int .i64 x.tu, .int .i64 x.gr, .int .i64 x.lo, .int .i64 x.ch, .int .i64 x.ton, .int .i64 x.me, .int .i64 x.si, .int .i64 x.wa, .int .i64 x.ar]) (.agg #[.int .i64 y.k, .int .i64 y.tu, .int .i64 y.gr, .int .i64 y.lo, .int .i64 y.ch, .int .i64 y.ton, .int .i64 y.me, .int .i64 y.si, .int .i64 y.wa, .int .i64 y.ar])).run Tryz.prog w = .ok (.bool (decide (x = y))) w := by
  rw [eq_note]
  congr 2
  obtain ⟨a0, a1, a2, a3, a4, a5, a6, a7, a8, a9⟩ := x
  obtain ⟨b0, b1, b2, b3, b4, b5, b6, b7, b8, b9⟩ := y
  rw [Bool.eq_iff_iff]
  simp only [Bool.and_eq_true, beq_iff_eq, decide_eq_true_eq, NoteR.mk.injEq, and_assoc]
theorem neN (x y : NoteR) (w : World) (h : x ≠ y) : (Go.binOp .neq 36 (.agg #[.int .i64 x.k, .int .i64 x.tu, .int .i64 x.gr, .int .i64 x.lo, .int .i64 x.ch, .int .i64 x.ton, .int .i64 x.me, .int .i64 x.si, .int .i64 x.wa, .int .i64 x.ar]) (.agg #[.int .i64 y.k, .int .i64 y.tu, .int .i64 y.gr, .int .i64 y.lo, .int .i64 y.ch, .int .i64 y.ton, .int .i64 y.me, .int .i64 y.si, .int .i64 y.wa, .int .i64 y.ar])).run Tryz.prog w = .ok (.bool true) w := by
  have h1 := eqN x y w
  rw [decide_eq_false h, run_eql_struct] at h1
  rw [run_neq_struct]
  revert h1
  cases (Op.equalIn 10000 36 (.agg #[.int .i64 x.k, .int .i64 x.tu, .int .i64 x.gr, .int .i64 x.lo, .int .i64 x.ch, .int .i64 x.ton, .int .i64 x.me, .int .i64 x.si, .int .i64 x.wa, .int .i64 x.ar]) (.agg #[.int .i64 y.k, .int .i64 y.tu, .int .i64 y.gr, .int .i64 y.lo, .int .i64 y.ch, .int .i64 y.ton, .int .i64 y.me, .int .i64 y.si, .int .i64 y.wa, .int .i64 y.ar])).run Tryz.prog w with
  | ok b w' =>
    intro h1
    simp only [Result.andThen, Result.ok.injEq, Value.bool.injEq] at h1 ⊢
    simp [h1.1, h1.2]
  | _ => intro h1; simp [Result.andThen] at h1
theorem list_neq_at {α : Type} {xs ys : List α} {k : Nat} (h1 : k < xs.length) (h2 : k < ys.length) (h : xs[k] ≠ ys[k]) : xs ≠ ys := fun e => by subst e; exact h rfl
theorem take_succ_eq {α : Type} {xs ys : List α} {k : Nat} (h : xs.take k = ys.take k) (h1 : k < xs.length) (h2 : k < ys.length) (he : xs[k] = ys[k]) : xs.take (k + 1) = ys.take (k + 1) := by
  rw [List.take_add_one, List.take_add_one, h, List.getElem?_eq_getElem h1, List.getElem?_eq_getElem h2, he]
set_option maxRecDepth 100000 in
set_option maxHeartbeats 4000000 in
theorem rsame_any (A : Option Addr) (n c : Nat) (xs : List NoteR) (A2 : Option Addr) (m c2 : Nat) (ys : List NoteR) (w : World) (h : SL nC 10 w w.heap.size A n xs) (h2 : SL nC 10 w w.heap.size A2 m ys) (hn : n ≤ 1000000) :
    Calls Tryz.prog 17 #[.slice A n c, .slice A2 m c2] w fun e w' => e = .returned (.bool (decide (xs = ys))) ∧ Below w.heap.size w w' := by
  have hmo : Tryz.prog.follows .mixedOrders = true := by kernel_rfl
  have HL := Lib.hid h.1
  have HL2 := Lib.hid h2.1
  have HS := Lib.hid h
  have HS2 := Lib.hid h2
  clear h h2
  by_cases hnm : n = m
  case neg =>
    have HR : Hid (decide (xs = ys) = false) := by
      show _ = _
      apply decide_eq_false
      intro e
      exact hnm (by rw [HL.out, HL2.out, e])
    go_enter Tryz.func17, Tryz.ntmps17
    go_wp2_with fail
    go_ret
    exact ⟨by rw [HR.out]; rfl, Below.refl _ _⟩
  subst hnm
  go_enter Tryz.func17, Tryz.ntmps17
  go_wp2_with fail
  go_loopw [5] (fun i wr => ∃ k : Nat, k ≤ n ∧ i = .int .i64 (k : Nat) ∧ xs.take k = ys.take k ∧ Below w.heap.size w wr)
    (fun i _ => n - (intOf i).toNat)
  case atStart => exact ⟨0, Nat.zero_le _, rfl, by simp, Below.refl _ _⟩
  case round =>
    obtain ⟨k, hk1, rfl, hal, hbr⟩ := hrel
    by_cases hlt : k < n
    · have hkl : k < xs.length := by rw [← HL.out]; exact hlt
      have hkl2 : k < ys.length := by rw [← HL2.out]; exact hlt
      obtain ⟨b, off, hA, hbB, c0', c1', c2', c3', c4', c5', c6', c7', c8', c9'⟩ := NS.at_ (HS.out.below hbr) hkl
      obtain ⟨b2, off2, hA2, hbB2, d0', d1', d2', d3', d4', d5', d6', d7', d8', d9'⟩ := NS.at_ (HS2.out.below hbr) hkl2
      have HT := Lib.hid (take_succ_eq hal hkl hkl2)
      have HF := Lib.hid (list_neq_at hkl hkl2)
      generalize xs[k]'hkl = x at *
      generalize ys[k]'hkl2 = y at *
      subst hA hA2
      have c0 := fun d os => cell_regrown c0' d os
      have c1 := fun d os => cell_regrown c1' d os
      have c2 := fun d os => cell_regrown c2' d os
      have c3 := fun d os => cell_regrown c3' d os
      have c4 := fun d os => cell_regrown c4' d os
      have c5 := fun d os => cell_regrown c5' d os
      have c6 := fun d os => cell_regrown c6' d os
      have c7 := fun d os => cell_regrown c7' d os
      have c8 := fun d os => cell_regrown c8' d os
      have c9 := fun d os => cell_regrown c9' d os
      have d0 := fun d os => cell_regrown d0' d os
      have d1 := fun d os => cell_regrown d1' d os
      have d2 := fun d os => cell_regrown d2' d os
      have d3 := fun d os => cell_regrown d3' d os
      have d4 := fun d os => cell_regrown d4' d os
      have d5 := fun d os => cell_regrown d5' d os
      have d6 := fun d os => cell_regrown d6' d os
      have d7 := fun d os => cell_regrown d7' d os
      have d8 := fun d os => cell_regrown d8' d os
      have d9 := fun d os => cell_regrown d9' d os
      by_cases e : x = y
      · subst e
        have HT2 := Lib.hid (HT.out rfl)
        clear HT HF
        go_wp2_with fail
        go_quiet (fail)
        go_wp2_with fail
        go_roundw
        case rel => exact ⟨k + 1, by omega, by go_num, HT2.out, below_drewN hbr _⟩
        case measure => simp [intOf]; omega
      · have HR : Hid (decide (xs = ys) = false) := decide_eq_false (HF.out e)
        have hq := fun w => neN x y w e
        clear HT HF e
        go_wp2_with fail
        go_quiet (fail)
        go_wp2_with fail
        go_ret
        exact ⟨by rw [HR.out]; rfl, below_drewN hbr _⟩
    · obtain rfl : k = n := by omega
      have hall : xs = ys := by
        have h1 := HL.out
        have h2 := HL2.out
        have e1 : xs.take k = xs := List.take_of_length_le (by omega)
        have e2 : ys.take k = ys := List.take_of_length_le (by omega)
        rw [e1, e2] at hal
        exact hal
      have HALL : Hid (decide (xs = ys) = true) := decide_eq_true hall
      clear hall hal
      go_wp2_with fail
      go_ret
      exact ⟨by rw [HALL.out]; rfl, hbr⟩
end Go.Proofs.YtnmipejpjeakbaaGreatDoor
