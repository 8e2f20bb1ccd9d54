/- Passings: which are as defined; the track's test and the document's. -/
import Derived.Test.YtafclpmnpamipaaGreatQBegB
import Derived.Test.YtafclpmnpamipaaGreatQOpenS
import Derived.Test.YtafclpmnpamipaaGreatQRef3
import Derived.Test.YtafclpmnpamipaaGreatQPlanM
import Derived.Test.YtafclpmnpamipaaGreatQRegV
namespace Go.Proofs.YtafclpmnpamipaaGreat
open Go.RowKit Go.Shelf Go.Sort Go.Proofs

structure PassR where
  place : Int
  early : Int
  late : Int
def paC (c : PassR) : List Value := [.int .i64 c.place, .int .i64 c.early, .int .i64 c.late]
theorem PA3.at_ {w : World} {B n : Nat} {A : Option Addr} {xs : List PassR} (h : SL paC 3 w B A n xs) {k : Nat} (hk : k < xs.length) : ∃ b off, A = some ⟨b, off, none⟩ ∧ b < B ∧
    w.cell? ⟨b, off + k * 3, none⟩ = some (.int .i64 xs[k].place) ∧ w.cell? ⟨b, off + k * 3 + 1, none⟩ = some (.int .i64 xs[k].early) ∧ w.cell? ⟨b, off + k * 3 + 2, none⟩ = some (.int .i64 xs[k].late) := by
  obtain ⟨b, off, h1, h2, h3⟩ := h.2 (by have := h.1; omega)
  have hg := List.getElem?_eq_getElem hk
  exact ⟨b, off, h1, h2, h3 k _ hg 0 _ rfl, h3 k _ hg 1 _ rfl, h3 k _ hg 2 _ rfl⟩
/-- The passing at i is as defined on a road of n meters. -/
def pAt (n : Int) (ls : List PassR) (i : Nat) : Prop := ∀ c, ls[i]? = some c → inR c.place 0 n = true ∧ 0 ≤ c.early ∧ c.early ≤ c.late ∧ c.late ≤ maxM ∧ ∀ d, 0 < i → ls[i-1]? = some d → d.place < c.place
structure POK (n : Int) (ls : List PassR) : Prop where
  l1 : ls.length ≤ 200
  k : ∀ i, i < ls.length → pAt n ls i
def pAtB (n : Int) (ls : List PassR) (i : Nat) : Bool := (ls[i]?).all fun c => inR c.place 0 n && (decide (0 ≤ c.early) && (decide (c.early ≤ c.late) && (decide (c.late ≤ maxM) && (i == 0 || (ls[i-1]?).all fun d => decide (d.place < c.place)))))
theorem pAtB_iff (n : Int) (ls : List PassR) (i : Nat) : pAtB n ls i = true ↔ pAt n ls i := by
  unfold pAtB pAt
  simp only [Option.all_eq_true, Bool.and_eq_true, Bool.or_eq_true, decide_eq_true_eq, beq_iff_eq]
  constructor
  · intro h c hc
    obtain ⟨a1, a2, a3, a4, d⟩ := h c hc
    exact ⟨a1, a2, a3, a4, fun e hi he => (d.resolve_left (by omega)) e he⟩
  · intro h c hc
    obtain ⟨a1, a2, a3, a4, d⟩ := h c hc
    exact ⟨a1, a2, a3, a4, (Nat.eq_zero_or_pos i).imp id fun hi e he => d e hi he⟩
def pB (n : Int) (ls : List PassR) : Bool := (List.range ls.length).all (pAtB n ls) && decide (ls.length ≤ 200)
theorem pB_iff (n : Int) (ls : List PassR) : pB n ls = true ↔ POK n ls := by
  unfold pB
  simp only [Bool.and_eq_true, decide_eq_true_eq, List.all_eq_true, List.mem_range, pAtB_iff]
  exact ⟨fun ⟨a, b⟩ => ⟨b, a⟩, fun ⟨a, b⟩ => ⟨b, a⟩⟩
theorem pB_ok {n : Int} {ls : List PassR} (h : POK n ls) : pB n ls = true := (pB_iff n ls).2 h
theorem pB_bad {n : Int} {ls : List PassR} (h : ¬ POK n ls) : pB n ls = false := by rw [Bool.eq_false_iff]; exact fun q => h ((pB_iff n ls).1 q)
set_option maxRecDepth 100000 in
set_option maxHeartbeats 8000000 in
theorem passings_any (la : Option Addr) (ln lc : Nat) (ls : List PassR) (g : Nat) (ta : Option Addr) (tc N : Nat) (S : Spd) (R : Road) (w : World) (h : TS w w.heap.size g ta tc N S R)
    (hk : SL paC 3 w w.heap.size la ln ls) (hN : N ≤ 1000000) (hln : ln ≤ 100000) :
    Calls Tryz.prog 30 #[.pointer (some ⟨g, 0, none⟩), .slice la ln lc] w fun e w' => e = .returned (.bool (pB N ls)) ∧ Below w.heap.size w w' := by
  have HT := Lib.hid h
  have HK := Lib.hid hk
  have HL := Lib.hid hk.1
  clear h hk
  go_enter Tryz.func30, Tryz.ntmps30
  go_wp2_with fail
  go_loopw [9] (fun i wr => ∃ k : Nat, k ≤ ln ∧ i = .int .i64 k ∧ Below w.heap.size w wr ∧ Hid (∀ i, i < k → pAt N ls i))
    (fun i _ => ln - (intOf i).toNat)
  case atStart => exact ⟨0, Nat.zero_le _, rfl, Below.refl _ _, by simp [Hid]⟩
  case round =>
    obtain ⟨m, hm, rfl, hbr, hall⟩ := hrel
    have hzr := hbr.size
    by_cases hlt : m < ln
    case neg =>
      obtain rfl : m = ln := by omega
      have hend : Hid (pB N ls = decide ((m : Int) ≤ 200)) := by
        show _ = _
        by_cases h3 : (m : Int) ≤ 200
        · rw [pB_ok ⟨by rw [← HL.out]; omega, fun i hi => hall.out i (by rw [HL.out]; exact hi)⟩]; simp; omega
        · rw [pB_bad (fun q => h3 (by have := q.l1; rw [← HL.out] at this; omega))]; simp; omega
      go_wp2_with fail
      go_ret
      exact ⟨ret_bool hend.out.symm, hbr⟩
    have hkl : m < ls.length := by rw [← HL.out]; exact hlt
    have hw := HK.out.grow hbr hzr
    obtain ⟨b, off, hA, hbB, c0, c1, c2⟩ := PA3.at_ hw (k := m) hkl
    have hstep : Hid (∀ (hh : inR (ls[m]).place 0 N = true ∧ 0 ≤ (ls[m]).early ∧ (ls[m]).early ≤ (ls[m]).late ∧ (ls[m]).late ≤ maxM ∧ ∀ d, 0 < m → ls[m-1]? = some d → d.place < (ls[m]).place), ∀ i, i < m + 1 → pAt N ls i) := by
      intro hh i hi
      rcases Nat.lt_or_ge i m with h | h
      · exact hall.out i h
      · obtain rfl : i = m := by omega
        intro c hc
        rw [List.getElem?_eq_getElem hkl] at hc
        cases hc
        exact hh
    have hno : Hid (∀ (hh : ¬ (inR (ls[m]).place 0 N = true ∧ 0 ≤ (ls[m]).early ∧ (ls[m]).early ≤ (ls[m]).late ∧ (ls[m]).late ≤ maxM ∧ ∀ d, 0 < m → ls[m-1]? = some d → d.place < (ls[m]).place)), pB N ls = false) := by
      intro hh
      exact pB_bad (fun q => hh (q.k m hkl _ (List.getElem?_eq_getElem hkl)))
    have hprev : ∃ d : PassR, Hid (0 < m → ls[m-1]? = some d) ∧ (0 < m → wr.cell? ⟨b, off + (m-1) * 3, none⟩ = some (.int .i64 d.place)) := by
      rcases Nat.eq_zero_or_pos m with h0 | h0
      · exact ⟨⟨0, 0, 0⟩, fun h => by omega, fun h => by omega⟩
      · obtain ⟨b2, off2, hA2, _, c02, _⟩ := PA3.at_ hw (k := m - 1) (by omega)
        rw [hA] at hA2
        cases hA2
        exact ⟨ls[m-1], fun _ => List.getElem?_eq_getElem (by omega), fun _ => c02⟩
    obtain ⟨d, hd, cd⟩ := hprev
    generalize ls[m]'hkl = c at c0 c1 c2 hstep hno
    clear hw hkl hall
    have hm1 : (0 : Int) ≤ (m : Int) := by omega
    have hm2 : (m : Int) < (ln : Int) := by omega
    subst hA
    have hTA : Hid (∀ (n : Nat), TS ((wr.alloc (.cells #[.int .i64 c.place, .int .i64 c.early, .int .i64 c.late] 51)).drewN n) ((wr.alloc (.cells #[.int .i64 c.place, .int .i64 c.early, .int .i64 c.late] 51)).drewN n).heap.size g ta tc N S R) := fun n => by
      have hx := hbr.trans ((below_drewN ((Below.refl wr.heap.size wr).alloc (Nat.le_refl _) (.cells #[.int .i64 c.place, .int .i64 c.early, .int .i64 c.late] 51)) n).mono hzr)
      exact HT.out.grow hx hx.size
    cases e1 : inR c.place 0 N
    case false =>
      have hc := Lib.hid (hno.out (by simp [e1]))
      clear hno hstep cd
      go_wp2_with fail
      go_quiet (first | (go_at_call 28; exact Calls.quiet_of_same ((place_any _ g ta tc N S R _ (hTA.out _) hN).mono fun _ _ ⟨a, b⟩ => ⟨a, b.symm⟩)))
      go_wp2_with fail
      go_ret
      exact ⟨ret_bool hc.out.symm, hbr.trans ((below_drewN ((Below.refl _ _).alloc (Nat.le_refl _) _) _).mono hzr)⟩
    by_cases hm0 : 0 < m
    case pos =>
      have cd := cd hm0
      have hg : decide ((0 : Int) < (m : Int)) = true := by simp; omega
      by_cases hlt2 : c.place ≤ d.place
      case pos =>
        have g3 : decide (c.place ≤ d.place) = true := by simpa using hlt2
        have hc := Lib.hid (hno.out (by rintro ⟨-, -, -, -, h⟩; have := h d hm0 (hd.out hm0); omega))
        clear hno hstep hlt2
        go_wp2_with fail
        go_quiet (first | (go_at_call 28; exact Calls.quiet_of_same ((place_any _ g ta tc N S R _ (hTA.out _) hN).mono fun _ _ ⟨a, b⟩ => ⟨a, b.symm⟩)))
        go_wp2_with fail
        go_ret
        exact ⟨ret_bool hc.out.symm, hbr.trans ((below_drewN ((Below.refl _ _).alloc (Nat.le_refl _) _) _).mono hzr)⟩
      have g3 : decide (c.place ≤ d.place) = false := by simpa using hlt2
      by_cases f1 : 0 ≤ c.early
      case neg =>
        have gf1 : decide (c.early < 0) = true := decide_eq_true (by (try rw [show maxM = 1125899906842624 from rfl] at f1); omega)
        have hc := Lib.hid (hno.out (by rintro ⟨-, q, -⟩; omega))
        clear hno hstep 
        go_wp2_with fail
        go_quiet (first | (go_at_call 28; exact Calls.quiet_of_same ((place_any _ g ta tc N S R _ (hTA.out _) hN).mono fun _ _ ⟨a, b⟩ => ⟨a, b.symm⟩)))
        go_wp2_with fail
        go_ret
        exact ⟨ret_bool hc.out.symm, hbr.trans ((below_drewN ((Below.refl _ _).alloc (Nat.le_refl _) _) _).mono hzr)⟩
      have gf1 : decide (c.early < 0) = false := decide_eq_false (by (try rw [show maxM = 1125899906842624 from rfl] at f1); omega)
      by_cases f2 : c.early ≤ c.late
      case neg =>
        have gf2 : decide (c.late < c.early) = true := decide_eq_true (by (try rw [show maxM = 1125899906842624 from rfl] at f2); omega)
        have hc := Lib.hid (hno.out (by rintro ⟨-, -, q, -⟩; omega))
        clear hno hstep 
        go_wp2_with fail
        go_quiet (first | (go_at_call 28; exact Calls.quiet_of_same ((place_any _ g ta tc N S R _ (hTA.out _) hN).mono fun _ _ ⟨a, b⟩ => ⟨a, b.symm⟩)))
        go_wp2_with fail
        go_ret
        exact ⟨ret_bool hc.out.symm, hbr.trans ((below_drewN ((Below.refl _ _).alloc (Nat.le_refl _) _) _).mono hzr)⟩
      have gf2 : decide (c.late < c.early) = false := decide_eq_false (by (try rw [show maxM = 1125899906842624 from rfl] at f2); omega)
      by_cases f3 : c.late ≤ maxM
      case neg =>
        have gf3 : decide (1125899906842624 < c.late) = true := decide_eq_true (by (try rw [show maxM = 1125899906842624 from rfl] at f3); omega)
        have hc := Lib.hid (hno.out (by rintro ⟨-, -, -, q, -⟩; exact f3 q))
        clear hno hstep 
        go_wp2_with fail
        go_quiet (first | (go_at_call 28; exact Calls.quiet_of_same ((place_any _ g ta tc N S R _ (hTA.out _) hN).mono fun _ _ ⟨a, b⟩ => ⟨a, b.symm⟩)))
        go_wp2_with fail
        go_ret
        exact ⟨ret_bool hc.out.symm, hbr.trans ((below_drewN ((Below.refl _ _).alloc (Nat.le_refl _) _) _).mono hzr)⟩
      have gf3 : decide (1125899906842624 < c.late) = false := decide_eq_false (by (try rw [show maxM = 1125899906842624 from rfl] at f3); omega)
      have hs' := Lib.hid (hstep.out ⟨e1, f1, f2, f3, fun d' _ h' => by rw [hd.out hm0] at h'; cases h'; omega⟩)
      clear f1 f2 f3
      clear hno hstep hlt2
      go_wp2_with fail
      go_quiet (first | (go_at_call 28; exact Calls.quiet_of_same ((place_any _ g ta tc N S R _ (hTA.out _) hN).mono fun _ _ ⟨a, b⟩ => ⟨a, b.symm⟩)))
      go_wp2_with fail
      go_roundw
      case rel => exact ⟨m + 1, by omega, by go_num, hbr.trans ((below_drewN ((Below.refl _ _).alloc (Nat.le_refl _) _) _).mono hzr), hs'⟩
      case measure => simp [intOf]; omega
    have hg : decide ((0 : Int) < (m : Int)) = false := by simp; omega
    clear cd
    by_cases f1 : 0 ≤ c.early
    case neg =>
      have gf1 : decide (c.early < 0) = true := decide_eq_true (by (try rw [show maxM = 1125899906842624 from rfl] at f1); omega)
      have hc := Lib.hid (hno.out (by rintro ⟨-, q, -⟩; omega))
      clear hno hstep 
      go_wp2_with fail
      go_quiet (first | (go_at_call 28; exact Calls.quiet_of_same ((place_any _ g ta tc N S R _ (hTA.out _) hN).mono fun _ _ ⟨a, b⟩ => ⟨a, b.symm⟩)))
      go_wp2_with fail
      go_ret
      exact ⟨ret_bool hc.out.symm, hbr.trans ((below_drewN ((Below.refl _ _).alloc (Nat.le_refl _) _) _).mono hzr)⟩
    have gf1 : decide (c.early < 0) = false := decide_eq_false (by (try rw [show maxM = 1125899906842624 from rfl] at f1); omega)
    by_cases f2 : c.early ≤ c.late
    case neg =>
      have gf2 : decide (c.late < c.early) = true := decide_eq_true (by (try rw [show maxM = 1125899906842624 from rfl] at f2); omega)
      have hc := Lib.hid (hno.out (by rintro ⟨-, -, q, -⟩; omega))
      clear hno hstep 
      go_wp2_with fail
      go_quiet (first | (go_at_call 28; exact Calls.quiet_of_same ((place_any _ g ta tc N S R _ (hTA.out _) hN).mono fun _ _ ⟨a, b⟩ => ⟨a, b.symm⟩)))
      go_wp2_with fail
      go_ret
      exact ⟨ret_bool hc.out.symm, hbr.trans ((below_drewN ((Below.refl _ _).alloc (Nat.le_refl _) _) _).mono hzr)⟩
    have gf2 : decide (c.late < c.early) = false := decide_eq_false (by (try rw [show maxM = 1125899906842624 from rfl] at f2); omega)
    by_cases f3 : c.late ≤ maxM
    case neg =>
      have gf3 : decide (1125899906842624 < c.late) = true := decide_eq_true (by (try rw [show maxM = 1125899906842624 from rfl] at f3); omega)
      have hc := Lib.hid (hno.out (by rintro ⟨-, -, -, q, -⟩; exact f3 q))
      clear hno hstep 
      go_wp2_with fail
      go_quiet (first | (go_at_call 28; exact Calls.quiet_of_same ((place_any _ g ta tc N S R _ (hTA.out _) hN).mono fun _ _ ⟨a, b⟩ => ⟨a, b.symm⟩)))
      go_wp2_with fail
      go_ret
      exact ⟨ret_bool hc.out.symm, hbr.trans ((below_drewN ((Below.refl _ _).alloc (Nat.le_refl _) _) _).mono hzr)⟩
    have gf3 : decide (1125899906842624 < c.late) = false := decide_eq_false (by (try rw [show maxM = 1125899906842624 from rfl] at f3); omega)
    have hs' := Lib.hid (hstep.out ⟨e1, f1, f2, f3, fun d' h' => absurd h' hm0⟩)
    clear f1 f2 f3
    clear hno hstep 
    go_wp2_with fail
    go_quiet (first | (go_at_call 28; exact Calls.quiet_of_same ((place_any _ g ta tc N S R _ (hTA.out _) hN).mono fun _ _ ⟨a, b⟩ => ⟨a, b.symm⟩)))
    go_wp2_with fail
    go_roundw
    case rel => exact ⟨m + 1, by omega, by go_num, hbr.trans ((below_drewN ((Below.refl _ _).alloc (Nat.le_refl _) _) _).mono hzr), hs'⟩
    case measure => simp [intOf]; omega
end Go.Proofs.YtafclpmnpamipaaGreat
