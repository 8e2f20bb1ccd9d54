/- pace.last at Plan's test: the greatest place up to a bound whose sum of least times is within the room. -/
import Derived.Test.YtknjkcibkejieaaDoorCTrk
namespace Go.Proofs.YtknjkcibkejieaaDoor
open Go.RowKit Go.Shelf Go.Sort Go.Proofs

theorem tQ_step {S : Spd} {R : Road} (hS : SOK S) (hv : OK R) {a : Nat} : ∀ d : Nat, tQ S R.ps a ≤ tQ S R.ps (a + d)
  | 0 => Int.le_refl _
  | d + 1 => by
    have ih := tQ_step hS hv (a := a) d
    cases hx : (units R.ps)[a + d]? with
    | none =>
      have hl := List.getElem?_eq_none_iff.1 hx
      have e : tQ S R.ps (a + (d + 1)) = tQ S R.ps (a + d) := by
        unfold tQ
        rw [List.take_of_length_le (by omega), List.take_of_length_le hl]
      omega
    | some x =>
      have e := tQ_succ S R.ps hx
      have := mQ_bd hS (units_ok hv.pk x (List.mem_of_getElem? hx))
      rw [← Nat.add_assoc]
      omega
theorem tQ_mono {S : Spd} {R : Road} (hS : SOK S) (hv : OK R) {a b : Nat} (h : a ≤ b) : tQ S R.ps a ≤ tQ S R.ps b := by
  have := tQ_step hS hv (a := a) (b - a)
  rwa [show a + (b - a) = b by omega] at this
theorem tQ_zero (S : Spd) (ps : List Piece) : tQ S ps 0 = 0 := by simp [tQ]
theorem tSl_zero (S : Spd) (ps : List Piece) : tSl S ps 0 = 0 := by simp [tSl]
set_option maxRecDepth 100000 in
theorem plan1_any (a c1 c2 : Nat) (room : Int) (g : Nat) (ta : Option Addr) (tc N : Nat) (S : Spd) (R : Road) (w : World) (h : TS w w.heap.size g ta tc N S R) (h1 : w.cell? ⟨c1, 0, none⟩ = some (.pointer (some ⟨g, 0, none⟩))) (h2 : w.cell? ⟨c2, 0, none⟩ = some (.int .i64 room)) (ha : a ≤ N) :
    Calls Tryd.prog 27 #[.int .i64 a, .pointer (some ⟨c1, 0, none⟩), .pointer (some ⟨c2, 0, none⟩)] w fun e w' => e = .returned (.bool (decide (tQ S R.ps a ≤ room))) ∧ ∃ m, w' = w.drewN m := by
  have hl := h.lt
  have c3 := h.c3
  obtain ⟨b1, o1, hA, hb1, q0, q1⟩ := TT.at_ h.t ha
  generalize tQ S R.ps a = u at *
  clear h
  subst hA
  have i1 : (0 : Int) ≤ (a : Int) := by omega
  have i2 : (a : Int) < (N : Int) + 1 := by omega
  go_enter Tryd.func27, Tryd.ntmps27
  go_wp2_with fail
  go_quiet (fail)
  go_wp2_with fail
  go_ret
  exact ⟨rfl, _, rfl⟩
set_option maxRecDepth 100000 in
set_option maxHeartbeats 2000000 in
theorem last_any (bd c1 c2 : Nat) (room : Int) (g : Nat) (ta : Option Addr) (tc N : Nat) (S : Spd) (R : Road) (w : World) (h : TS w w.heap.size g ta tc N S R) (h1 : w.cell? ⟨c1, 0, none⟩ = some (.pointer (some ⟨g, 0, none⟩))) (h2 : w.cell? ⟨c2, 0, none⟩ = some (.int .i64 room)) (l1 : c1 < w.heap.size) (l2 : c2 < w.heap.size) (hS : SOK S) (hv : OK R) (hbd : bd ≤ N) (hr : 0 ≤ room) :
    Calls Tryd.prog 26 #[.int .i64 bd, .func (.func 27) #[] #[.pointer (some ⟨c1, 0, none⟩), .pointer (some ⟨c2, 0, none⟩)]] w fun e w' => e = .returned (.int .i64 (lastN (fun p => decide (tQ S R.ps p ≤ room)) bd)) ∧ ∃ m, w' = w.drewN m := by
  have HT := Lib.hid h
  have H1 := Lib.hid h1
  have H2 := Lib.hid h2
  have HS := Lib.hid hS
  have HV := Lib.hid hv
  have hN : N ≤ 100000 := by have := h.n; have := hv.n1; omega
  clear h h1 h2 hS hv
  go_enter Tryd.func26, Tryd.ntmps26
  go_wp2_with fail
  go_loopw [5, 6] (fun lo hi wr => ∃ (a b : Nat), a < b ∧ b ≤ bd + 1 ∧ lo = .int .i64 a ∧ hi = .int .i64 b ∧ Hid (tQ S R.ps a ≤ room) ∧ Hid (∀ j, b ≤ j → j ≤ bd → room < tQ S R.ps j) ∧ ∃ m, wr = w.drewN m)
    (fun lo hi _ => (intOf hi).toNat - (intOf lo).toNat)
  case atStart => exact ⟨0, bd + 1, by omega, Nat.le_refl _, rfl, by simp, by show _ ≤ _; rw [tQ_zero]; exact hr, fun j h1 h2 => by omega, 0, rfl⟩
  case round =>
    obtain ⟨a, b, hab, hb, rfl, rfl, hlo, hhi, m, rfl⟩ := hrel
    have hk := below_drewN (Below.refl w.heap.size w) m
    by_cases hgo : a + 1 < b
    · have g1 : decide ((1 : Int) < (b : Int) - (a : Int)) = true := by simp; omega
      obtain ⟨d, hd⟩ : ∃ d : Nat, a + (b - a) / 2 = d := ⟨_, rfl⟩
      have hd1 : a < d := by omega
      have hd2 : d < b := by omega
      have hdi : (a : Int) + ((b : Int) - (a : Int)) / 2 = (d : Int) := by omega
      have HTm := Lib.hid (HT.out.grow hk hk.size)
      have K1 : Hid ((w.drewN m).cell? ⟨c1, 0, none⟩ = some (.pointer (some ⟨g, 0, none⟩))) := (hk.cell (p := ⟨c1, 0, none⟩) l1).trans H1.out
      have K2 : Hid ((w.drewN m).cell? ⟨c2, 0, none⟩ = some (.int .i64 room)) := (hk.cell (p := ⟨c2, 0, none⟩) l2).trans H2.out
      by_cases hq : tQ S R.ps d ≤ room
      · have HQ : Hid (decide (tQ S R.ps d ≤ room) = true) := by show _ = _; simpa using hq
        have HQ' := Lib.hid hq
        clear hq
        go_wp2_with (go_at_call 27; refine (plan1_any d c1 c2 room g ta tc N S R _ HTm.out K1.out K2.out (by omega)).mono ?_; rintro e w' ⟨rfl, m2, rfl⟩; rw [HQ.out])
        go_roundw
        case rel => exact ⟨d, b, by omega, hb, by first | rfl | simp, by first | rfl | simp, HQ'.out, hhi.out, m + m2, by first | rfl | rw [World.drewN_drewN]⟩
        case measure => simp [intOf]; omega
      · have HQ : Hid (decide (tQ S R.ps d ≤ room) = false) := by show _ = _; simpa using hq
        have HQ' : Hid (∀ j, d ≤ j → j ≤ bd → room < tQ S R.ps j) := fun j hj _ => by have := tQ_mono HS.out HV.out hj; omega
        clear hq
        go_wp2_with (go_at_call 27; refine (plan1_any d c1 c2 room g ta tc N S R _ HTm.out K1.out K2.out (by omega)).mono ?_; rintro e w' ⟨rfl, m2, rfl⟩; rw [HQ.out])
        go_roundw
        case rel => exact ⟨a, d, by omega, by omega, by first | rfl | simp, by first | rfl | simp, hlo.out, HQ'.out, m + m2, by first | rfl | rw [World.drewN_drewN]⟩
        case measure => simp [intOf]; omega
    · have g1 : decide ((1 : Int) < (b : Int) - (a : Int)) = false := by simp; omega
      have hfin : Hid (lastN (fun p => decide (tQ S R.ps p ≤ room)) bd = a) :=
        lastN_eq (by omega) (by simpa using hlo.out) (fun j h1 h2 => by have := hhi.out j (by omega) h2; simp; omega)
      go_wp2_with fail
      go_ret
      exact ⟨by rw [hfin.out]; rfl, _, rfl⟩
end Go.Proofs.YtknjkcibkejieaaDoor
