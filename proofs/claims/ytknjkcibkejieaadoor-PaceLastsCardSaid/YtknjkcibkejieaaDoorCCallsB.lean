/- The track's test of calls: which calls are as defined. -/
import Derived.Test.YtknjkcibkejieaaDoorCRoom
namespace Go.Proofs.YtknjkcibkejieaaDoor
open Go.RowKit Go.Shelf Go.Sort Go.Proofs

def kAtB (n : Int) (cs : List CallR) (i : Nat) : Bool := (cs[i]?).all fun c => inR c.place 0 n && (inR c.lasts 0 maxM && (inR c.lead 0 maxM && (inR c.ahead 0 maxM && (inR c.value 0 100 && (i == 0 || (cs[i-1]?).all fun d => decide (d.place ≤ c.place))))))
theorem kAtB_iff (n : Int) (cs : List CallR) (i : Nat) : kAtB n cs i = true ↔ kAt n cs i := by
  unfold kAtB kAt
  simp only [Option.all_eq_true, Bool.and_eq_true, Bool.or_eq_true, decide_eq_true_eq, beq_iff_eq]
  constructor
  · intro h c hc
    obtain ⟨a1, a2, a3, a4, a5, d⟩ := h c hc
    exact ⟨a1, a2, a3, a4, a5, fun e hi he => (d.resolve_left (by omega)) e he⟩
  · intro h c hc
    obtain ⟨a1, a2, a3, a4, a5, d⟩ := h c hc
    exact ⟨a1, a2, a3, a4, a5, (Nat.eq_zero_or_pos i).imp id fun hi e he => d e hi he⟩
def cB (n : Int) (cs : List CallR) : Bool := (List.range cs.length).all (kAtB n cs) && decide (cs.length ≤ 300)
theorem cB_iff (n : Int) (cs : List CallR) : cB n cs = true ↔ COK n cs := by
  unfold cB
  simp only [Bool.and_eq_true, decide_eq_true_eq, List.all_eq_true, List.mem_range, kAtB_iff]
  exact ⟨fun ⟨a, b⟩ => ⟨b, a⟩, fun ⟨a, b⟩ => ⟨b, a⟩⟩
theorem cB_ok {n : Int} {cs : List CallR} (h : COK n cs) : cB n cs = true := (cB_iff n cs).2 h
theorem cB_bad {n : Int} {cs : List CallR} (h : ¬ COK n cs) : cB n cs = false := by rw [Bool.eq_false_iff]; exact fun q => h ((cB_iff n cs).1 q)
set_option maxRecDepth 100000 in
set_option maxHeartbeats 8000000 in
theorem calls_any (ka : Option Addr) (kn kc : Nat) (cs : List CallR) (g : Nat) (ta : Option Addr) (tc N : Nat) (S : Spd) (R : Road) (w : World) (h : TS w w.heap.size g ta tc N S R)
    (hk : SL caC 5 w w.heap.size ka kn cs) (hN : N ≤ 1000000) (hkn : kn ≤ 100000) :
    Calls Tryd.prog 24 #[.pointer (some ⟨g, 0, none⟩), .slice ka kn kc] w fun e w' => e = .returned (.bool (cB N cs)) ∧ Below w.heap.size w w' := by
  have HT := Lib.hid h
  have HK := Lib.hid hk
  have HL := Lib.hid hk.1
  clear h hk
  go_enter Tryd.func24, Tryd.ntmps24
  go_wp2_with fail
  go_loopw [9] (fun i wr => ∃ k : Nat, k ≤ kn ∧ i = .int .i64 k ∧ Below w.heap.size w wr ∧ Hid (∀ i, i < k → kAt N cs i))
    (fun i _ => kn - (intOf i).toNat)
  case atStart => exact ⟨0, Nat.zero_le _, rfl, Below.refl _ _, by simp [Hid]⟩
  case round =>
    obtain ⟨m, hm, rfl, hbr, hall⟩ := hrel
    have hzr := hbr.size
    by_cases hlt : m < kn
    · have hkl : m < cs.length := by rw [← HL.out]; exact hlt
      have hw := HK.out.grow hbr hzr
      obtain ⟨b, off, hA, hbB, c0, c1, c2, c3, c4⟩ := KS5.at_ hw (k := m) hkl
      have HTB : Hid (∀ {X : World} {n : Nat}, True → True) := fun _ => trivial
      clear HTB
      have hstep : Hid (∀ (hh : inR cs[m].place 0 N = true ∧ inR cs[m].lasts 0 maxM = true ∧ inR cs[m].lead 0 maxM = true ∧ inR cs[m].ahead 0 maxM = true ∧ inR cs[m].value 0 100 = true ∧ ∀ d, 0 < m → cs[m-1]? = some d → d.place ≤ cs[m].place), ∀ i, i < m + 1 → kAt N cs i) := by
        intro hh i hi
        rcases Nat.lt_or_ge i m with h | h
        · exact hall.out i h
        · obtain rfl : i = m := by omega
          intro c hc
          rw [List.getElem?_eq_getElem hkl] at hc
          cases hc
          exact hh
      have hno : Hid (∀ (hh : ¬ (inR cs[m].place 0 N = true ∧ inR cs[m].lasts 0 maxM = true ∧ inR cs[m].lead 0 maxM = true ∧ inR cs[m].ahead 0 maxM = true ∧ inR cs[m].value 0 100 = true ∧ ∀ d, 0 < m → cs[m-1]? = some d → d.place ≤ cs[m].place)), cB N cs = false) := by
        intro hh
        exact cB_bad (fun q => hh (q.k m hkl _ (List.getElem?_eq_getElem hkl)))
      have hprev : 0 < m → ∃ d, Hid (cs[m-1]? = some d) ∧ wr.cell? ⟨b, off + (m-1) * 5, none⟩ = some (.int .i64 d.place) := by
        intro h0
        obtain ⟨b2, off2, hA2, _, c02, _⟩ := KS5.at_ hw (k := m - 1) (by omega)
        rw [hA] at hA2
        cases hA2
        exact ⟨cs[m-1], List.getElem?_eq_getElem (by omega), c02⟩
      generalize cs[m]'hkl = c at c0 c1 c2 c3 c4 hstep hno
      clear hw hkl hall
      have hm1 : (0 : Int) ≤ (m : Int) := by omega
      have hm2 : (m : Int) < (kn : Int) := by omega
      have hTA : Hid (∀ (n : Nat), TS ((wr.alloc (.cells #[.int .i64 c.place, .int .i64 c.lasts, .int .i64 c.lead, .int .i64 c.ahead, .int .i64 c.value] 51)).drewN n) ((wr.alloc (.cells #[.int .i64 c.place, .int .i64 c.lasts, .int .i64 c.lead, .int .i64 c.ahead, .int .i64 c.value] 51)).drewN n).heap.size g ta tc N S R) := fun n => by
        have hx := hbr.trans ((below_drewN ((Below.refl wr.heap.size wr).alloc (Nat.le_refl _) (.cells #[.int .i64 c.place, .int .i64 c.lasts, .int .i64 c.lead, .int .i64 c.ahead, .int .i64 c.value] 51)) n).mono hzr)
        exact HT.out.grow hx hx.size
      subst hA

      cases e1 : inR c.place 0 N
      case false =>
        have hc := Lib.hid (hno.out (by simp [e1]))
        clear hno hstep hprev
        go_wp2_with fail
        go_quiet (first | (go_at_call 22; exact Calls.quiet_of_same ((place_any _ g ta tc N S R _ (hTA.out _) hN).mono fun _ _ ⟨a, b⟩ => ⟨a, b.symm⟩)) | (go_at_call 19; exact Calls.quiet_of_same ((pwithin_any _ _ _ _).mono fun _ _ ⟨a, b⟩ => ⟨a, b.symm⟩)))
        go_wp2_with fail
        go_ret
        exact ⟨ret_bool hc.out.symm, hbr.trans ((below_drewN ((Below.refl _ _).alloc (Nat.le_refl _) _) _).mono hzr)⟩
      by_cases hm0 : 0 < m
      case pos =>
        obtain ⟨d, hd, cd⟩ := hprev hm0
        have hg : decide ((0 : Int) < (m : Int)) = true := by simp; omega
        by_cases hlt2 : c.place < d.place
        case pos =>
          have g3 : decide (c.place < d.place) = true := by simpa using hlt2
          have hc := Lib.hid (hno.out (by rintro ⟨-, -, -, -, -, h⟩; have := h d hm0 hd.out; omega))
          clear hno hstep hprev
          go_wp2_with fail
          go_quiet (first | (go_at_call 22; exact Calls.quiet_of_same ((place_any _ g ta tc N S R _ (hTA.out _) hN).mono fun _ _ ⟨a, b⟩ => ⟨a, b.symm⟩)) | (go_at_call 19; exact Calls.quiet_of_same ((pwithin_any _ _ _ _).mono fun _ _ ⟨a, b⟩ => ⟨a, b.symm⟩)))
          go_wp2_with fail
          go_ret
          exact ⟨ret_bool hc.out.symm, hbr.trans ((below_drewN ((Below.refl _ _).alloc (Nat.le_refl _) _) _).mono hzr)⟩
        have g3 : decide (c.place < d.place) = false := by simpa using hlt2
        cases f0 : inR c.lasts 0 maxM
        case false =>
          rw [show maxM = 1125899906842624 from rfl] at f0
          have hc := Lib.hid (hno.out (by rintro ⟨-, q1, q2, q3, q4, -⟩; rw [show maxM = 1125899906842624 from rfl] at *; simp_all))
          clear hno hstep hprev
          go_wp2_with fail
          go_quiet (first | (go_at_call 22; exact Calls.quiet_of_same ((place_any _ g ta tc N S R _ (hTA.out _) hN).mono fun _ _ ⟨a, b⟩ => ⟨a, b.symm⟩)) | (go_at_call 19; exact Calls.quiet_of_same ((pwithin_any _ _ _ _).mono fun _ _ ⟨a, b⟩ => ⟨a, b.symm⟩)))
          go_wp2_with fail
          go_ret
          exact ⟨ret_bool hc.out.symm, hbr.trans ((below_drewN ((Below.refl _ _).alloc (Nat.le_refl _) _) _).mono hzr)⟩
        rw [show maxM = 1125899906842624 from rfl] at f0
        cases f1 : inR c.lead 0 maxM
        case false =>
          rw [show maxM = 1125899906842624 from rfl] at f1
          have hc := Lib.hid (hno.out (by rintro ⟨-, q1, q2, q3, q4, -⟩; rw [show maxM = 1125899906842624 from rfl] at *; simp_all))
          clear hno hstep hprev
          go_wp2_with fail
          go_quiet (first | (go_at_call 22; exact Calls.quiet_of_same ((place_any _ g ta tc N S R _ (hTA.out _) hN).mono fun _ _ ⟨a, b⟩ => ⟨a, b.symm⟩)) | (go_at_call 19; exact Calls.quiet_of_same ((pwithin_any _ _ _ _).mono fun _ _ ⟨a, b⟩ => ⟨a, b.symm⟩)))
          go_wp2_with fail
          go_ret
          exact ⟨ret_bool hc.out.symm, hbr.trans ((below_drewN ((Below.refl _ _).alloc (Nat.le_refl _) _) _).mono hzr)⟩
        rw [show maxM = 1125899906842624 from rfl] at f1
        cases f2 : inR c.ahead 0 maxM
        case false =>
          rw [show maxM = 1125899906842624 from rfl] at f2
          have hc := Lib.hid (hno.out (by rintro ⟨-, q1, q2, q3, q4, -⟩; rw [show maxM = 1125899906842624 from rfl] at *; simp_all))
          clear hno hstep hprev
          go_wp2_with fail
          go_quiet (first | (go_at_call 22; exact Calls.quiet_of_same ((place_any _ g ta tc N S R _ (hTA.out _) hN).mono fun _ _ ⟨a, b⟩ => ⟨a, b.symm⟩)) | (go_at_call 19; exact Calls.quiet_of_same ((pwithin_any _ _ _ _).mono fun _ _ ⟨a, b⟩ => ⟨a, b.symm⟩)))
          go_wp2_with fail
          go_ret
          exact ⟨ret_bool hc.out.symm, hbr.trans ((below_drewN ((Below.refl _ _).alloc (Nat.le_refl _) _) _).mono hzr)⟩
        rw [show maxM = 1125899906842624 from rfl] at f2
        cases f3 : inR c.value 0 100
        case false =>
          have hc := Lib.hid (hno.out (by rintro ⟨-, q1, q2, q3, q4, -⟩; rw [show maxM = 1125899906842624 from rfl] at *; simp_all))
          clear hno hstep hprev
          go_wp2_with fail
          go_quiet (first | (go_at_call 22; exact Calls.quiet_of_same ((place_any _ g ta tc N S R _ (hTA.out _) hN).mono fun _ _ ⟨a, b⟩ => ⟨a, b.symm⟩)) | (go_at_call 19; exact Calls.quiet_of_same ((pwithin_any _ _ _ _).mono fun _ _ ⟨a, b⟩ => ⟨a, b.symm⟩)))
          go_wp2_with fail
          go_ret
          exact ⟨ret_bool hc.out.symm, hbr.trans ((below_drewN ((Below.refl _ _).alloc (Nat.le_refl _) _) _).mono hzr)⟩
        have hs' := Lib.hid (hstep.out ⟨e1, f0, f1, f2, f3, fun d' _ h' => by rw [hd.out] at h'; cases h'; omega⟩)
        clear hno hstep hprev
        go_wp2_with fail
        go_quiet (first | (go_at_call 22; exact Calls.quiet_of_same ((place_any _ g ta tc N S R _ (hTA.out _) hN).mono fun _ _ ⟨a, b⟩ => ⟨a, b.symm⟩)) | (go_at_call 19; exact Calls.quiet_of_same ((pwithin_any _ _ _ _).mono fun _ _ ⟨a, b⟩ => ⟨a, b.symm⟩)))
        go_wp2_with fail
        go_roundw
        case rel => exact ⟨m + 1, by omega, by go_num, hbr.trans ((below_drewN ((Below.refl _ _).alloc (Nat.le_refl _) _) _).mono hzr), hs'⟩
        case measure => simp [intOf]; omega
      have hg : decide ((0 : Int) < (m : Int)) = false := by simp; omega
      cases f0 : inR c.lasts 0 maxM
      case false =>
        rw [show maxM = 1125899906842624 from rfl] at f0
        have hc := Lib.hid (hno.out (by rintro ⟨-, q1, q2, q3, q4, -⟩; rw [show maxM = 1125899906842624 from rfl] at *; simp_all))
        clear hno hstep hprev
        go_wp2_with fail
        go_quiet (first | (go_at_call 22; exact Calls.quiet_of_same ((place_any _ g ta tc N S R _ (hTA.out _) hN).mono fun _ _ ⟨a, b⟩ => ⟨a, b.symm⟩)) | (go_at_call 19; exact Calls.quiet_of_same ((pwithin_any _ _ _ _).mono fun _ _ ⟨a, b⟩ => ⟨a, b.symm⟩)))
        go_wp2_with fail
        go_ret
        exact ⟨ret_bool hc.out.symm, hbr.trans ((below_drewN ((Below.refl _ _).alloc (Nat.le_refl _) _) _).mono hzr)⟩
      rw [show maxM = 1125899906842624 from rfl] at f0
      cases f1 : inR c.lead 0 maxM
      case false =>
        rw [show maxM = 1125899906842624 from rfl] at f1
        have hc := Lib.hid (hno.out (by rintro ⟨-, q1, q2, q3, q4, -⟩; rw [show maxM = 1125899906842624 from rfl] at *; simp_all))
        clear hno hstep hprev
        go_wp2_with fail
        go_quiet (first | (go_at_call 22; exact Calls.quiet_of_same ((place_any _ g ta tc N S R _ (hTA.out _) hN).mono fun _ _ ⟨a, b⟩ => ⟨a, b.symm⟩)) | (go_at_call 19; exact Calls.quiet_of_same ((pwithin_any _ _ _ _).mono fun _ _ ⟨a, b⟩ => ⟨a, b.symm⟩)))
        go_wp2_with fail
        go_ret
        exact ⟨ret_bool hc.out.symm, hbr.trans ((below_drewN ((Below.refl _ _).alloc (Nat.le_refl _) _) _).mono hzr)⟩
      rw [show maxM = 1125899906842624 from rfl] at f1
      cases f2 : inR c.ahead 0 maxM
      case false =>
        rw [show maxM = 1125899906842624 from rfl] at f2
        have hc := Lib.hid (hno.out (by rintro ⟨-, q1, q2, q3, q4, -⟩; rw [show maxM = 1125899906842624 from rfl] at *; simp_all))
        clear hno hstep hprev
        go_wp2_with fail
        go_quiet (first | (go_at_call 22; exact Calls.quiet_of_same ((place_any _ g ta tc N S R _ (hTA.out _) hN).mono fun _ _ ⟨a, b⟩ => ⟨a, b.symm⟩)) | (go_at_call 19; exact Calls.quiet_of_same ((pwithin_any _ _ _ _).mono fun _ _ ⟨a, b⟩ => ⟨a, b.symm⟩)))
        go_wp2_with fail
        go_ret
        exact ⟨ret_bool hc.out.symm, hbr.trans ((below_drewN ((Below.refl _ _).alloc (Nat.le_refl _) _) _).mono hzr)⟩
      rw [show maxM = 1125899906842624 from rfl] at f2
      cases f3 : inR c.value 0 100
      case false =>
        have hc := Lib.hid (hno.out (by rintro ⟨-, q1, q2, q3, q4, -⟩; rw [show maxM = 1125899906842624 from rfl] at *; simp_all))
        clear hno hstep hprev
        go_wp2_with fail
        go_quiet (first | (go_at_call 22; exact Calls.quiet_of_same ((place_any _ g ta tc N S R _ (hTA.out _) hN).mono fun _ _ ⟨a, b⟩ => ⟨a, b.symm⟩)) | (go_at_call 19; exact Calls.quiet_of_same ((pwithin_any _ _ _ _).mono fun _ _ ⟨a, b⟩ => ⟨a, b.symm⟩)))
        go_wp2_with fail
        go_ret
        exact ⟨ret_bool hc.out.symm, hbr.trans ((below_drewN ((Below.refl _ _).alloc (Nat.le_refl _) _) _).mono hzr)⟩
      have hs' := Lib.hid (hstep.out ⟨e1, f0, f1, f2, f3, fun d' h' => absurd h' hm0⟩)
      clear hno hstep hprev
      go_wp2_with fail
      go_quiet (first | (go_at_call 22; exact Calls.quiet_of_same ((place_any _ g ta tc N S R _ (hTA.out _) hN).mono fun _ _ ⟨a, b⟩ => ⟨a, b.symm⟩)) | (go_at_call 19; exact Calls.quiet_of_same ((pwithin_any _ _ _ _).mono fun _ _ ⟨a, b⟩ => ⟨a, b.symm⟩)))
      go_wp2_with fail
      go_roundw
      case rel => exact ⟨m + 1, by omega, by go_num, hbr.trans ((below_drewN ((Below.refl _ _).alloc (Nat.le_refl _) _) _).mono hzr), hs'⟩
      case measure => simp [intOf]; omega
    · obtain rfl : m = kn := by omega
      have hend : Hid (cB N cs = decide ((m : Int) ≤ 300)) := by
        show _ = _
        by_cases h3 : (m : Int) ≤ 300
        · rw [cB_ok ⟨by rw [← HL.out]; omega, fun i hi => hall.out i (by rw [HL.out]; exact hi)⟩]; simp; omega
        · rw [cB_bad (fun q => h3 (by have := q.l1; rw [← HL.out] at this; omega))]; simp; omega
      go_wp2_with fail
      go_ret
      exact ⟨ret_bool hend.out.symm, hbr⟩
end Go.Proofs.YtknjkcibkejieaaDoor
