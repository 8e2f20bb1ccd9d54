/- A track of which only its length is known: place, calls, triggers. -/
import Derived.Test.YtogkmnopggmdjaaGreatDoorPBegB
import Derived.Test.YtogkmnopggmdjaaGreatDoorPPlan
import Derived.Test.YtogkmnopggmdjaaGreatDoorPPlanS
import Derived.Test.YtogkmnopggmdjaaGreatDoorPSpd
import Derived.Test.YtogkmnopggmdjaaGreatDoorPSpCk
import Derived.Test.YtogkmnopggmdjaaGreatDoorPOrdM
namespace Go.Proofs.YtogkmnopggmdjaaGreatDoor
open Go.RowKit Go.Shelf Go.Sort Go.Proofs

structure TL (w : World) (B g : Nat) (ta : Option Addr) (tc N : Nat) : Prop where
  lt : g < B
  c3 : w.cell? ⟨g, 3, none⟩ = some (.slice ta (N + 1) tc)
theorem TL.grow {w w' : World} {B B' g : Nat} {ta : Option Addr} {tc N : Nat} (h : TL w B g ta tc N) (hb : Below B w w') (hB : B ≤ B') : TL w' B' g ta tc N :=
  ⟨Nat.lt_of_lt_of_le h.lt hB, (hb.cell (p := ⟨g, 3, none⟩) h.lt).trans h.c3⟩
theorem tlen_len (g : Nat) (ta : Option Addr) (tc N : Nat) (w : World) (h : TL w w.heap.size g ta tc N) (hN : N ≤ 1000000) :
    Calls Tryz.prog 75 #[.pointer (some ⟨g, 0, none⟩)] w fun e w' => e = .returned (.int .i64 N) ∧ w = w' := by
  have hl := h.lt
  have c3 := h.c3
  clear h
  go_enter Tryz.func75, Tryz.ntmps75
  go_wp2_with fail
  go_ret
  exact ⟨ret_int (by simp), rfl⟩
theorem place_len (p : Int) (g : Nat) (ta : Option Addr) (tc N : Nat) (w : World) (h : TL w w.heap.size g ta tc N) (hN : N ≤ 1000000) :
    Calls Tryz.prog 56 #[.pointer (some ⟨g, 0, none⟩), .int .i64 p] w fun e w' => e = .returned (.bool (inR p 0 N)) ∧ w = w' := by
  have HT := Lib.hid h
  clear h
  go_enter Tryz.func56, Tryz.ntmps56
  go_wp2_with fail
  refine (tlen_len g ta tc N _ HT.out hN).mono ?_
  rintro e w' ⟨rfl, rfl⟩
  go_wp2_with fail
  refine (pwithin_any _ _ _ _).mono ?_
  rintro e w' ⟨rfl, rfl⟩
  go_wp2_with fail
  go_ret
  exact ⟨rfl, rfl⟩
set_option maxRecDepth 100000 in
set_option maxHeartbeats 8000000 in
theorem calls_len (ka : Option Addr) (kn kc : Nat) (cs : List CallR) (g : Nat) (ta : Option Addr) (tc N : Nat) (w : World) (h : TL w w.heap.size g ta tc N)
    (hk : SL caC 5 w w.heap.size ka kn cs) (hN : N ≤ 1000000) (hkn : kn ≤ 100000) :
    Calls Tryz.prog 51 #[.pointer (some ⟨g, 0, none⟩), .slice ka kn kc] w fun e w' => e = .returned (.bool (cB N cs)) ∧ Below w.heap.size w w' := by
  have HT := Lib.hid h
  have HK := Lib.hid hk
  have HL := Lib.hid hk.1
  clear h hk
  go_enter Tryz.func51, Tryz.ntmps51
  go_wp2_with fail
  go_loopw [9] (fun i wr => ∃ k : Nat, k ≤ kn ∧ i = .int .i64 k ∧ Below w.heap.size w wr ∧ Hid (∀ i, i < k → kAt N cs i))
    (fun i _ => kn - (intOf i).toNat)
  case atStart => exact ⟨0, Nat.zero_le _, rfl, Below.refl _ _, by simp [Hid]⟩
  case round =>
    obtain ⟨m, hm, rfl, hbr, hall⟩ := hrel
    have hzr := hbr.size
    by_cases hlt : m < kn
    · have hkl : m < cs.length := by rw [← HL.out]; exact hlt
      have hw := HK.out.grow hbr hzr
      obtain ⟨b, off, hA, hbB, c0, c1, c2, c3, c4⟩ := KS5.at_ hw (k := m) hkl
      have HTB : Hid (∀ {X : World} {n : Nat}, True → True) := fun _ => trivial
      clear HTB
      have hstep : Hid (∀ (hh : inR cs[m].place 0 N = true ∧ inR cs[m].lasts 0 maxM = true ∧ inR cs[m].lead 0 maxM = true ∧ inR cs[m].ahead 0 maxM = true ∧ inR cs[m].value 0 100 = true ∧ ∀ d, 0 < m → cs[m-1]? = some d → d.place ≤ cs[m].place), ∀ i, i < m + 1 → kAt N cs i) := by
        intro hh i hi
        rcases Nat.lt_or_ge i m with h | h
        · exact hall.out i h
        · obtain rfl : i = m := by omega
          intro c hc
          rw [List.getElem?_eq_getElem hkl] at hc
          cases hc
          exact hh
      have hno : Hid (∀ (hh : ¬ (inR cs[m].place 0 N = true ∧ inR cs[m].lasts 0 maxM = true ∧ inR cs[m].lead 0 maxM = true ∧ inR cs[m].ahead 0 maxM = true ∧ inR cs[m].value 0 100 = true ∧ ∀ d, 0 < m → cs[m-1]? = some d → d.place ≤ cs[m].place)), cB N cs = false) := by
        intro hh
        exact cB_bad (fun q => hh (q.k m hkl _ (List.getElem?_eq_getElem hkl)))
      have hprev : 0 < m → ∃ d, Hid (cs[m-1]? = some d) ∧ wr.cell? ⟨b, off + (m-1) * 5, none⟩ = some (.int .i64 d.place) := by
        intro h0
        obtain ⟨b2, off2, hA2, _, c02, _⟩ := KS5.at_ hw (k := m - 1) (by omega)
        rw [hA] at hA2
        cases hA2
        exact ⟨cs[m-1], List.getElem?_eq_getElem (by omega), c02⟩
      generalize cs[m]'hkl = c at c0 c1 c2 c3 c4 hstep hno
      clear hw hkl hall
      have hm1 : (0 : Int) ≤ (m : Int) := by omega
      have hm2 : (m : Int) < (kn : Int) := by omega
      have hTA : Hid (∀ (n : Nat), TL ((wr.alloc (.cells #[.int .i64 c.place, .int .i64 c.lasts, .int .i64 c.lead, .int .i64 c.ahead, .int .i64 c.value] 49)).drewN n) ((wr.alloc (.cells #[.int .i64 c.place, .int .i64 c.lasts, .int .i64 c.lead, .int .i64 c.ahead, .int .i64 c.value] 49)).drewN n).heap.size g ta tc N) := fun n => by
        have hx := hbr.trans ((below_drewN ((Below.refl wr.heap.size wr).alloc (Nat.le_refl _) (.cells #[.int .i64 c.place, .int .i64 c.lasts, .int .i64 c.lead, .int .i64 c.ahead, .int .i64 c.value] 49)) n).mono hzr)
        exact HT.out.grow hx hx.size
      subst hA

      cases e1 : inR c.place 0 N
      case false =>
        have hc := Lib.hid (hno.out (by simp [e1]))
        clear hno hstep hprev
        go_wp2_with fail
        go_quiet (first | (go_at_call 56; exact Calls.quiet_of_same ((place_len _ g ta tc N _ (hTA.out _) hN).mono fun _ _ ⟨a, b⟩ => ⟨a, b.symm⟩)) | (go_at_call 31; exact Calls.quiet_of_same ((pwithin_any _ _ _ _).mono fun _ _ ⟨a, b⟩ => ⟨a, b.symm⟩)))
        go_wp2_with fail
        go_ret
        exact ⟨ret_bool hc.out.symm, hbr.trans ((below_drewN ((Below.refl _ _).alloc (Nat.le_refl _) _) _).mono hzr)⟩
      by_cases hm0 : 0 < m
      case pos =>
        obtain ⟨d, hd, cd⟩ := hprev hm0
        have hg : decide ((0 : Int) < (m : Int)) = true := by simp; omega
        by_cases hlt2 : c.place < d.place
        case pos =>
          have g3 : decide (c.place < d.place) = true := by simpa using hlt2
          have hc := Lib.hid (hno.out (by rintro ⟨-, -, -, -, -, h⟩; have := h d hm0 hd.out; omega))
          clear hno hstep hprev
          go_wp2_with fail
          go_quiet (first | (go_at_call 56; exact Calls.quiet_of_same ((place_len _ g ta tc N _ (hTA.out _) hN).mono fun _ _ ⟨a, b⟩ => ⟨a, b.symm⟩)) | (go_at_call 31; exact Calls.quiet_of_same ((pwithin_any _ _ _ _).mono fun _ _ ⟨a, b⟩ => ⟨a, b.symm⟩)))
          go_wp2_with fail
          go_ret
          exact ⟨ret_bool hc.out.symm, hbr.trans ((below_drewN ((Below.refl _ _).alloc (Nat.le_refl _) _) _).mono hzr)⟩
        have g3 : decide (c.place < d.place) = false := by simpa using hlt2
        cases f0 : inR c.lasts 0 maxM
        case false =>
          rw [show maxM = 1125899906842624 from rfl] at f0
          have hc := Lib.hid (hno.out (by rintro ⟨-, q1, q2, q3, q4, -⟩; rw [show maxM = 1125899906842624 from rfl] at *; simp_all))
          clear hno hstep hprev
          go_wp2_with fail
          go_quiet (first | (go_at_call 56; exact Calls.quiet_of_same ((place_len _ g ta tc N _ (hTA.out _) hN).mono fun _ _ ⟨a, b⟩ => ⟨a, b.symm⟩)) | (go_at_call 31; exact Calls.quiet_of_same ((pwithin_any _ _ _ _).mono fun _ _ ⟨a, b⟩ => ⟨a, b.symm⟩)))
          go_wp2_with fail
          go_ret
          exact ⟨ret_bool hc.out.symm, hbr.trans ((below_drewN ((Below.refl _ _).alloc (Nat.le_refl _) _) _).mono hzr)⟩
        rw [show maxM = 1125899906842624 from rfl] at f0
        cases f1 : inR c.lead 0 maxM
        case false =>
          rw [show maxM = 1125899906842624 from rfl] at f1
          have hc := Lib.hid (hno.out (by rintro ⟨-, q1, q2, q3, q4, -⟩; rw [show maxM = 1125899906842624 from rfl] at *; simp_all))
          clear hno hstep hprev
          go_wp2_with fail
          go_quiet (first | (go_at_call 56; exact Calls.quiet_of_same ((place_len _ g ta tc N _ (hTA.out _) hN).mono fun _ _ ⟨a, b⟩ => ⟨a, b.symm⟩)) | (go_at_call 31; exact Calls.quiet_of_same ((pwithin_any _ _ _ _).mono fun _ _ ⟨a, b⟩ => ⟨a, b.symm⟩)))
          go_wp2_with fail
          go_ret
          exact ⟨ret_bool hc.out.symm, hbr.trans ((below_drewN ((Below.refl _ _).alloc (Nat.le_refl _) _) _).mono hzr)⟩
        rw [show maxM = 1125899906842624 from rfl] at f1
        cases f2 : inR c.ahead 0 maxM
        case false =>
          rw [show maxM = 1125899906842624 from rfl] at f2
          have hc := Lib.hid (hno.out (by rintro ⟨-, q1, q2, q3, q4, -⟩; rw [show maxM = 1125899906842624 from rfl] at *; simp_all))
          clear hno hstep hprev
          go_wp2_with fail
          go_quiet (first | (go_at_call 56; exact Calls.quiet_of_same ((place_len _ g ta tc N _ (hTA.out _) hN).mono fun _ _ ⟨a, b⟩ => ⟨a, b.symm⟩)) | (go_at_call 31; exact Calls.quiet_of_same ((pwithin_any _ _ _ _).mono fun _ _ ⟨a, b⟩ => ⟨a, b.symm⟩)))
          go_wp2_with fail
          go_ret
          exact ⟨ret_bool hc.out.symm, hbr.trans ((below_drewN ((Below.refl _ _).alloc (Nat.le_refl _) _) _).mono hzr)⟩
        rw [show maxM = 1125899906842624 from rfl] at f2
        cases f3 : inR c.value 0 100
        case false =>
          have hc := Lib.hid (hno.out (by rintro ⟨-, q1, q2, q3, q4, -⟩; rw [show maxM = 1125899906842624 from rfl] at *; simp_all))
          clear hno hstep hprev
          go_wp2_with fail
          go_quiet (first | (go_at_call 56; exact Calls.quiet_of_same ((place_len _ g ta tc N _ (hTA.out _) hN).mono fun _ _ ⟨a, b⟩ => ⟨a, b.symm⟩)) | (go_at_call 31; exact Calls.quiet_of_same ((pwithin_any _ _ _ _).mono fun _ _ ⟨a, b⟩ => ⟨a, b.symm⟩)))
          go_wp2_with fail
          go_ret
          exact ⟨ret_bool hc.out.symm, hbr.trans ((below_drewN ((Below.refl _ _).alloc (Nat.le_refl _) _) _).mono hzr)⟩
        have hs' := Lib.hid (hstep.out ⟨e1, f0, f1, f2, f3, fun d' _ h' => by rw [hd.out] at h'; cases h'; omega⟩)
        clear hno hstep hprev
        go_wp2_with fail
        go_quiet (first | (go_at_call 56; exact Calls.quiet_of_same ((place_len _ g ta tc N _ (hTA.out _) hN).mono fun _ _ ⟨a, b⟩ => ⟨a, b.symm⟩)) | (go_at_call 31; exact Calls.quiet_of_same ((pwithin_any _ _ _ _).mono fun _ _ ⟨a, b⟩ => ⟨a, b.symm⟩)))
        go_wp2_with fail
        go_roundw
        case rel => exact ⟨m + 1, by omega, by go_num, hbr.trans ((below_drewN ((Below.refl _ _).alloc (Nat.le_refl _) _) _).mono hzr), hs'⟩
        case measure => simp [intOf]; omega
      have hg : decide ((0 : Int) < (m : Int)) = false := by simp; omega
      cases f0 : inR c.lasts 0 maxM
      case false =>
        rw [show maxM = 1125899906842624 from rfl] at f0
        have hc := Lib.hid (hno.out (by rintro ⟨-, q1, q2, q3, q4, -⟩; rw [show maxM = 1125899906842624 from rfl] at *; simp_all))
        clear hno hstep hprev
        go_wp2_with fail
        go_quiet (first | (go_at_call 56; exact Calls.quiet_of_same ((place_len _ g ta tc N _ (hTA.out _) hN).mono fun _ _ ⟨a, b⟩ => ⟨a, b.symm⟩)) | (go_at_call 31; exact Calls.quiet_of_same ((pwithin_any _ _ _ _).mono fun _ _ ⟨a, b⟩ => ⟨a, b.symm⟩)))
        go_wp2_with fail
        go_ret
        exact ⟨ret_bool hc.out.symm, hbr.trans ((below_drewN ((Below.refl _ _).alloc (Nat.le_refl _) _) _).mono hzr)⟩
      rw [show maxM = 1125899906842624 from rfl] at f0
      cases f1 : inR c.lead 0 maxM
      case false =>
        rw [show maxM = 1125899906842624 from rfl] at f1
        have hc := Lib.hid (hno.out (by rintro ⟨-, q1, q2, q3, q4, -⟩; rw [show maxM = 1125899906842624 from rfl] at *; simp_all))
        clear hno hstep hprev
        go_wp2_with fail
        go_quiet (first | (go_at_call 56; exact Calls.quiet_of_same ((place_len _ g ta tc N _ (hTA.out _) hN).mono fun _ _ ⟨a, b⟩ => ⟨a, b.symm⟩)) | (go_at_call 31; exact Calls.quiet_of_same ((pwithin_any _ _ _ _).mono fun _ _ ⟨a, b⟩ => ⟨a, b.symm⟩)))
        go_wp2_with fail
        go_ret
        exact ⟨ret_bool hc.out.symm, hbr.trans ((below_drewN ((Below.refl _ _).alloc (Nat.le_refl _) _) _).mono hzr)⟩
      rw [show maxM = 1125899906842624 from rfl] at f1
      cases f2 : inR c.ahead 0 maxM
      case false =>
        rw [show maxM = 1125899906842624 from rfl] at f2
        have hc := Lib.hid (hno.out (by rintro ⟨-, q1, q2, q3, q4, -⟩; rw [show maxM = 1125899906842624 from rfl] at *; simp_all))
        clear hno hstep hprev
        go_wp2_with fail
        go_quiet (first | (go_at_call 56; exact Calls.quiet_of_same ((place_len _ g ta tc N _ (hTA.out _) hN).mono fun _ _ ⟨a, b⟩ => ⟨a, b.symm⟩)) | (go_at_call 31; exact Calls.quiet_of_same ((pwithin_any _ _ _ _).mono fun _ _ ⟨a, b⟩ => ⟨a, b.symm⟩)))
        go_wp2_with fail
        go_ret
        exact ⟨ret_bool hc.out.symm, hbr.trans ((below_drewN ((Below.refl _ _).alloc (Nat.le_refl _) _) _).mono hzr)⟩
      rw [show maxM = 1125899906842624 from rfl] at f2
      cases f3 : inR c.value 0 100
      case false =>
        have hc := Lib.hid (hno.out (by rintro ⟨-, q1, q2, q3, q4, -⟩; rw [show maxM = 1125899906842624 from rfl] at *; simp_all))
        clear hno hstep hprev
        go_wp2_with fail
        go_quiet (first | (go_at_call 56; exact Calls.quiet_of_same ((place_len _ g ta tc N _ (hTA.out _) hN).mono fun _ _ ⟨a, b⟩ => ⟨a, b.symm⟩)) | (go_at_call 31; exact Calls.quiet_of_same ((pwithin_any _ _ _ _).mono fun _ _ ⟨a, b⟩ => ⟨a, b.symm⟩)))
        go_wp2_with fail
        go_ret
        exact ⟨ret_bool hc.out.symm, hbr.trans ((below_drewN ((Below.refl _ _).alloc (Nat.le_refl _) _) _).mono hzr)⟩
      have hs' := Lib.hid (hstep.out ⟨e1, f0, f1, f2, f3, fun d' h' => absurd h' hm0⟩)
      clear hno hstep hprev
      go_wp2_with fail
      go_quiet (first | (go_at_call 56; exact Calls.quiet_of_same ((place_len _ g ta tc N _ (hTA.out _) hN).mono fun _ _ ⟨a, b⟩ => ⟨a, b.symm⟩)) | (go_at_call 31; exact Calls.quiet_of_same ((pwithin_any _ _ _ _).mono fun _ _ ⟨a, b⟩ => ⟨a, b.symm⟩)))
      go_wp2_with fail
      go_roundw
      case rel => exact ⟨m + 1, by omega, by go_num, hbr.trans ((below_drewN ((Below.refl _ _).alloc (Nat.le_refl _) _) _).mono hzr), hs'⟩
      case measure => simp [intOf]; omega
    · obtain rfl : m = kn := by omega
      have hend : Hid (cB N cs = decide ((m : Int) ≤ 300)) := by
        show _ = _
        by_cases h3 : (m : Int) ≤ 300
        · rw [cB_ok ⟨by rw [← HL.out]; omega, fun i hi => hall.out i (by rw [HL.out]; exact hi)⟩]; simp; omega
        · rw [cB_bad (fun q => h3 (by have := q.l1; rw [← HL.out] at this; omega))]; simp; omega
      go_wp2_with fail
      go_ret
      exact ⟨ret_bool hend.out.symm, hbr⟩
set_option maxRecDepth 100000 in
set_option maxHeartbeats 8000000 in
theorem trig_len (ka : Option Addr) (kn kc : Nat) (la : Option Addr) (ln lc : Nat) (ls : List Int) (g : Nat) (ta : Option Addr) (tc N : Nat) (w : World) (h : TL w w.heap.size g ta tc N)
    (hk : SL iC 1 w w.heap.size la ln ls) (hN : N ≤ 1000000) (hln : ln ≤ 100000) :
    Calls Tryz.prog 61 #[.pointer (some ⟨g, 0, none⟩), .slice ka kn kc, .slice la ln lc] w fun e w' => e = .returned (.bool (trB N kn ls)) ∧ w = w' := by
  have HT := Lib.hid h
  have HK := Lib.hid hk
  have HL := Lib.hid hk.1
  clear h hk
  go_enter Tryz.func61, Tryz.ntmps61
  go_wp2_with fail
  go_loopw [11] (fun i wr => ∃ k : Nat, k ≤ ln ∧ i = .int .i64 k ∧ wr = w ∧ Hid (∀ i, i < k → gAt N ls i))
    (fun i _ => ln - (intOf i).toNat)
  case atStart => exact ⟨0, Nat.zero_le _, rfl, rfl, by simp [Hid]⟩
  case round =>
    obtain ⟨m, hm, rfl, rfl, hall⟩ := hrel
    by_cases hlt : m < ln
    · have hkl : m < ls.length := by rw [← HL.out]; exact hlt
      obtain ⟨b, off, hA, hbB, c0⟩ := IS.at_ HK.out (k := m) hkl
      have hstep : Hid (∀ (hh : inR ls[m] 0 N = true ∧ ∀ d, 0 < m → ls[m-1]? = some d → d ≤ ls[m]), ∀ i, i < m + 1 → gAt N ls i) := by
        intro hh i hi
        rcases Nat.lt_or_ge i m with h | h
        · exact hall.out i h
        · obtain rfl : i = m := by omega
          intro c hc
          rw [List.getElem?_eq_getElem hkl] at hc
          cases hc
          exact hh
      have hno : Hid (∀ (hh : ¬ (inR ls[m] 0 N = true ∧ ∀ d, 0 < m → ls[m-1]? = some d → d ≤ ls[m])), trB N kn ls = false) := by
        intro hh
        exact trB_bad (fun q => hh (q.t m hkl _ (List.getElem?_eq_getElem hkl)))
      have hprev : 0 < m → ∃ d, Hid (ls[m-1]? = some d) ∧ wr.cell? ⟨b, off + (m-1), none⟩ = some (.int .i64 d) := by
        intro h0
        obtain ⟨b2, off2, hA2, _, c02⟩ := IS.at_ HK.out (k := m - 1) (by omega)
        rw [hA] at hA2
        cases hA2
        exact ⟨ls[m-1], List.getElem?_eq_getElem (by omega), c02⟩
      generalize ls[m]'hkl = c at c0 hstep hno
      clear hkl hall
      have hm1 : (0 : Int) ≤ (m : Int) := by omega
      have hm2 : (m : Int) < (ln : Int) := by omega
      subst hA
      cases e1 : inR c 0 N
      case false =>
        have hc := Lib.hid (hno.out (by simp [e1]))
        have HE := Lib.hid e1
        clear hno hstep hprev e1
        go_wp2_with (go_at_call 56; refine (place_len _ g ta tc N _ HT.out hN).mono ?_; rintro e w' ⟨rfl, rfl⟩; rw [HE.out])
        go_ret
        exact ⟨ret_bool hc.out.symm, by trivial⟩
      have HE := Lib.hid e1
      by_cases hm0 : 0 < m
      case pos =>
        obtain ⟨d, hd, cd⟩ := hprev hm0
        have hg : decide ((0 : Int) < (m : Int)) = true := by simp; omega
        by_cases hlt2 : c < d
        case pos =>
          have g3 : decide (c < d) = true := by simpa using hlt2
          have hc := Lib.hid (hno.out (by rintro ⟨-, h⟩; have := h d hm0 hd.out; omega))
          clear hno hstep hprev e1
          go_wp2_with (go_at_call 56; refine (place_len _ g ta tc N _ HT.out hN).mono ?_; rintro e w' ⟨rfl, rfl⟩; rw [HE.out])
          go_ret
          exact ⟨ret_bool hc.out.symm, by trivial⟩
        have g3 : decide (c < d) = false := by simpa using hlt2
        have hs' := Lib.hid (hstep.out ⟨e1, fun d' _ h' => by rw [hd.out] at h'; cases h'; omega⟩)
        clear hno hstep hprev e1
        go_wp2_with (go_at_call 56; refine (place_len _ g ta tc N _ HT.out hN).mono ?_; rintro e w' ⟨rfl, rfl⟩; rw [HE.out])
        go_roundw
        case rel => exact ⟨m + 1, by omega, by go_num, by trivial, hs'⟩
        case measure => simp [intOf]; omega
      have hg : decide ((0 : Int) < (m : Int)) = false := by simp; omega
      have hs' := Lib.hid (hstep.out ⟨e1, fun d' h' => absurd h' hm0⟩)
      clear hno hstep hprev e1
      go_wp2_with (go_at_call 56; refine (place_len _ g ta tc N _ HT.out hN).mono ?_; rintro e w' ⟨rfl, rfl⟩; rw [HE.out])
      go_roundw
      case rel => exact ⟨m + 1, by omega, by go_num, by trivial, hs'⟩
      case measure => simp [intOf]; omega
    · obtain rfl : m = ln := by omega
      have hend : Hid (trB N kn ls = ((m : Int) == (kn : Int))) := by
        show _ = _
        by_cases h3 : m = kn
        · rw [trB_ok ⟨by rw [← HL.out]; exact h3, fun i hi => hall.out i (by rw [HL.out]; exact hi)⟩]; simp [h3]
        · rw [trB_bad (fun q => h3 (by have := q.l; rw [← HL.out] at this; exact this))]; simp; omega
      go_wp2_with fail
      go_ret
      exact ⟨ret_bool hend.out.symm, by trivial⟩
end Go.Proofs.YtogkmnopggmdjaaGreatDoor
