/- Passings: which are as defined; the track's test and the document's. -/
import Derived.Test.YtijcbfhlhgjedaaDoorPCBBase
import Derived.Test.YtijcbfhlhgjedaaDoorPCBRoad
import Derived.Test.YtijcbfhlhgjedaaDoorPCBLeaf
import Derived.Test.YtijcbfhlhgjedaaDoorPCBCheck
import Derived.Test.YtijcbfhlhgjedaaDoorPCBValid
import Derived.Test.YtijcbfhlhgjedaaDoorPCBFind
import Derived.Test.YtijcbfhlhgjedaaDoorPCBReg
import Derived.Test.YtijcbfhlhgjedaaDoorPCBGrouped
import Derived.Test.YtijcbfhlhgjedaaDoorPCBPG
import Derived.Test.YtijcbfhlhgjedaaDoorPCBBackM
import Derived.Test.YtijcbfhlhgjedaaDoorPCBStr
import Derived.Test.YtijcbfhlhgjedaaDoorPCBOpen
import Derived.Test.YtijcbfhlhgjedaaDoorPCBReg7
import Derived.Test.YtijcbfhlhgjedaaDoorPCSpd
import Derived.Test.YtijcbfhlhgjedaaDoorPCPRow
import Derived.Test.YtijcbfhlhgjedaaDoorPCMtr
import Derived.Test.YtijcbfhlhgjedaaDoorPCReg8
import Derived.Test.YtijcbfhlhgjedaaDoorPCSpCk
import Derived.Test.YtijcbfhlhgjedaaDoorPCPlanM
import Derived.Test.YtijcbfhlhgjedaaDoorPCLast
import Derived.Test.YtijcbfhlhgjedaaDoorPCBeg
import Derived.Test.YtijcbfhlhgjedaaDoorPCBegB
import Derived.Test.YtijcbfhlhgjedaaDoorPCRoom
import Derived.Test.YtijcbfhlhgjedaaDoorPCCallsB
import Derived.Test.YtijcbfhlhgjedaaDoorPCPlan
import Derived.Test.YtijcbfhlhgjedaaDoorPCBetw
import Derived.Test.YtijcbfhlhgjedaaDoorPCKn03P
import Derived.Test.YtijcbfhlhgjedaaDoorPCRef3
import Derived.Test.YtijcbfhlhgjedaaDoorPCRCallsB
namespace Go.Proofs.YtijcbfhlhgjedaaDoor
open Go.RowKit Go.Shelf Go.Sort Go.Proofs

structure PassR where
  place : Int
  early : Int
  late : Int
def paC (c : PassR) : List Value := [.int .i64 c.place, .int .i64 c.early, .int .i64 c.late]
theorem paC_len (c : PassR) : (paC c).length = 3 := rfl
theorem PA3.at_ {w : World} {B n : Nat} {A : Option Addr} {xs : List PassR} (h : SL paC 3 w B A n xs) {k : Nat} (hk : k < xs.length) : ∃ b off, A = some ⟨b, off, none⟩ ∧ b < B ∧
    w.cell? ⟨b, off + k * 3, none⟩ = some (.int .i64 xs[k].place) ∧ w.cell? ⟨b, off + k * 3 + 1, none⟩ = some (.int .i64 xs[k].early) ∧ w.cell? ⟨b, off + k * 3 + 2, none⟩ = some (.int .i64 xs[k].late) := by
  obtain ⟨b, off, h1, h2, h3⟩ := h.2 (by have := h.1; omega)
  have hg := List.getElem?_eq_getElem hk
  exact ⟨b, off, h1, h2, h3 k _ hg 0 _ rfl, h3 k _ hg 1 _ rfl, h3 k _ hg 2 _ rfl⟩
/-- The passing at i is as defined on a road of n meters. -/
def pAt (n : Int) (ls : List PassR) (i : Nat) : Prop := ∀ c, ls[i]? = some c → inR c.place 0 n = true ∧ 0 ≤ c.early ∧ c.early ≤ c.late ∧ c.late ≤ maxM ∧ ∀ d, 0 < i → ls[i-1]? = some d → d.place < c.place
structure POK (n : Int) (ls : List PassR) : Prop where
  l1 : ls.length ≤ 200
  k : ∀ i, i < ls.length → pAt n ls i
def pAtB (n : Int) (ls : List PassR) (i : Nat) : Bool := (ls[i]?).all fun c => inR c.place 0 n && (decide (0 ≤ c.early) && (decide (c.early ≤ c.late) && (decide (c.late ≤ maxM) && (i == 0 || (ls[i-1]?).all fun d => decide (d.place < c.place)))))
theorem pAtB_iff (n : Int) (ls : List PassR) (i : Nat) : pAtB n ls i = true ↔ pAt n ls i := by
  unfold pAtB pAt
  simp only [Option.all_eq_true, Bool.and_eq_true, Bool.or_eq_true, decide_eq_true_eq, beq_iff_eq]
  constructor
  · intro h c hc
    obtain ⟨a1, a2, a3, a4, d⟩ := h c hc
    exact ⟨a1, a2, a3, a4, fun e hi he => (d.resolve_left (by omega)) e he⟩
  · intro h c hc
    obtain ⟨a1, a2, a3, a4, d⟩ := h c hc
    exact ⟨a1, a2, a3, a4, (Nat.eq_zero_or_pos i).imp id fun hi e he => d e hi he⟩
def pB (n : Int) (ls : List PassR) : Bool := (List.range ls.length).all (pAtB n ls) && decide (ls.length ≤ 200)
theorem pB_iff (n : Int) (ls : List PassR) : pB n ls = true ↔ POK n ls := by
  unfold pB
  simp only [Bool.and_eq_true, decide_eq_true_eq, List.all_eq_true, List.mem_range, pAtB_iff]
  exact ⟨fun ⟨a, b⟩ => ⟨b, a⟩, fun ⟨a, b⟩ => ⟨b, a⟩⟩
theorem pB_ok {n : Int} {ls : List PassR} (h : POK n ls) : pB n ls = true := (pB_iff n ls).2 h
theorem pB_bad {n : Int} {ls : List PassR} (h : ¬ POK n ls) : pB n ls = false := by rw [Bool.eq_false_iff]; exact fun q => h ((pB_iff n ls).1 q)
set_option maxRecDepth 100000 in
set_option maxHeartbeats 8000000 in
theorem passings_any (la : Option Addr) (ln lc : Nat) (ls : List PassR) (g : Nat) (ta : Option Addr) (tc N : Nat) (S : Spd) (R : Road) (w : World) (h : TS w w.heap.size g ta tc N S R)
    (hk : SL paC 3 w w.heap.size la ln ls) (hN : N ≤ 1000000) (hln : ln ≤ 100000) :
    Calls Tryd.prog 77 #[.pointer (some ⟨g, 0, none⟩), .slice la ln lc] w fun e w' => e = .returned (.bool (pB N ls)) ∧ Below w.heap.size w w' := by
  have HT := Lib.hid h
  have HK := Lib.hid hk
  have HL := Lib.hid hk.1
  clear h hk
  go_enter Tryd.func77, Tryd.ntmps77
  go_wp2_with fail
  go_loopw [9] (fun i wr => ∃ k : Nat, k ≤ ln ∧ i = .int .i64 k ∧ Below w.heap.size w wr ∧ Hid (∀ i, i < k → pAt N ls i))
    (fun i _ => ln - (intOf i).toNat)
  case atStart => exact ⟨0, Nat.zero_le _, rfl, Below.refl _ _, by simp [Hid]⟩
  case round =>
    obtain ⟨m, hm, rfl, hbr, hall⟩ := hrel
    have hzr := hbr.size
    by_cases hlt : m < ln
    case neg =>
      obtain rfl : m = ln := by omega
      have hend : Hid (pB N ls = decide ((m : Int) ≤ 200)) := by
        show _ = _
        by_cases h3 : (m : Int) ≤ 200
        · rw [pB_ok ⟨by rw [← HL.out]; omega, fun i hi => hall.out i (by rw [HL.out]; exact hi)⟩]; simp; omega
        · rw [pB_bad (fun q => h3 (by have := q.l1; rw [← HL.out] at this; omega))]; simp; omega
      go_wp2_with fail
      go_ret
      exact ⟨ret_bool hend.out.symm, hbr⟩
    have hkl : m < ls.length := by rw [← HL.out]; exact hlt
    have hw := HK.out.grow hbr hzr
    obtain ⟨b, off, hA, hbB, c0, c1, c2⟩ := PA3.at_ hw (k := m) hkl
    have hstep : Hid (∀ (hh : inR (ls[m]).place 0 N = true ∧ 0 ≤ (ls[m]).early ∧ (ls[m]).early ≤ (ls[m]).late ∧ (ls[m]).late ≤ maxM ∧ ∀ d, 0 < m → ls[m-1]? = some d → d.place < (ls[m]).place), ∀ i, i < m + 1 → pAt N ls i) := by
      intro hh i hi
      rcases Nat.lt_or_ge i m with h | h
      · exact hall.out i h
      · obtain rfl : i = m := by omega
        intro c hc
        rw [List.getElem?_eq_getElem hkl] at hc
        cases hc
        exact hh
    have hno : Hid (∀ (hh : ¬ (inR (ls[m]).place 0 N = true ∧ 0 ≤ (ls[m]).early ∧ (ls[m]).early ≤ (ls[m]).late ∧ (ls[m]).late ≤ maxM ∧ ∀ d, 0 < m → ls[m-1]? = some d → d.place < (ls[m]).place)), pB N ls = false) := by
      intro hh
      exact pB_bad (fun q => hh (q.k m hkl _ (List.getElem?_eq_getElem hkl)))
    have hprev : ∃ d : PassR, Hid (0 < m → ls[m-1]? = some d) ∧ (0 < m → wr.cell? ⟨b, off + (m-1) * 3, none⟩ = some (.int .i64 d.place)) := by
      rcases Nat.eq_zero_or_pos m with h0 | h0
      · exact ⟨⟨0, 0, 0⟩, fun h => by omega, fun h => by omega⟩
      · obtain ⟨b2, off2, hA2, _, c02, _⟩ := PA3.at_ hw (k := m - 1) (by omega)
        rw [hA] at hA2
        cases hA2
        exact ⟨ls[m-1], fun _ => List.getElem?_eq_getElem (by omega), fun _ => c02⟩
    obtain ⟨d, hd, cd⟩ := hprev
    generalize ls[m]'hkl = c at c0 c1 c2 hstep hno
    clear hw hkl hall
    have hm1 : (0 : Int) ≤ (m : Int) := by omega
    have hm2 : (m : Int) < (ln : Int) := by omega
    subst hA
    have hTA : Hid (∀ (n : Nat), TS ((wr.alloc (.cells #[.int .i64 c.place, .int .i64 c.early, .int .i64 c.late] 89)).drewN n) ((wr.alloc (.cells #[.int .i64 c.place, .int .i64 c.early, .int .i64 c.late] 89)).drewN n).heap.size g ta tc N S R) := fun n => by
      have hx := hbr.trans ((below_drewN ((Below.refl wr.heap.size wr).alloc (Nat.le_refl _) (.cells #[.int .i64 c.place, .int .i64 c.early, .int .i64 c.late] 89)) n).mono hzr)
      exact HT.out.grow hx hx.size
    cases e1 : inR c.place 0 N
    case false =>
      have hc := Lib.hid (hno.out (by simp [e1]))
      clear hno hstep cd
      go_wp2_with fail
      go_quiet (first | (go_at_call 59; exact Calls.quiet_of_same ((place_any _ g ta tc N S R _ (hTA.out _) hN).mono fun _ _ ⟨a, b⟩ => ⟨a, b.symm⟩)))
      go_wp2_with fail
      go_ret
      exact ⟨ret_bool hc.out.symm, hbr.trans ((below_drewN ((Below.refl _ _).alloc (Nat.le_refl _) _) _).mono hzr)⟩
    by_cases hm0 : 0 < m
    case pos =>
      have cd := cd hm0
      have hg : decide ((0 : Int) < (m : Int)) = true := by simp; omega
      by_cases hlt2 : c.place ≤ d.place
      case pos =>
        have g3 : decide (c.place ≤ d.place) = true := by simpa using hlt2
        have hc := Lib.hid (hno.out (by rintro ⟨-, -, -, -, h⟩; have := h d hm0 (hd.out hm0); omega))
        clear hno hstep hlt2
        go_wp2_with fail
        go_quiet (first | (go_at_call 59; exact Calls.quiet_of_same ((place_any _ g ta tc N S R _ (hTA.out _) hN).mono fun _ _ ⟨a, b⟩ => ⟨a, b.symm⟩)))
        go_wp2_with fail
        go_ret
        exact ⟨ret_bool hc.out.symm, hbr.trans ((below_drewN ((Below.refl _ _).alloc (Nat.le_refl _) _) _).mono hzr)⟩
      have g3 : decide (c.place ≤ d.place) = false := by simpa using hlt2
      by_cases f1 : 0 ≤ c.early
      case neg =>
        have gf1 : decide (c.early < 0) = true := decide_eq_true (by (try rw [show maxM = 1125899906842624 from rfl] at f1); omega)
        have hc := Lib.hid (hno.out (by rintro ⟨-, q, -⟩; omega))
        clear hno hstep 
        go_wp2_with fail
        go_quiet (first | (go_at_call 59; exact Calls.quiet_of_same ((place_any _ g ta tc N S R _ (hTA.out _) hN).mono fun _ _ ⟨a, b⟩ => ⟨a, b.symm⟩)))
        go_wp2_with fail
        go_ret
        exact ⟨ret_bool hc.out.symm, hbr.trans ((below_drewN ((Below.refl _ _).alloc (Nat.le_refl _) _) _).mono hzr)⟩
      have gf1 : decide (c.early < 0) = false := decide_eq_false (by (try rw [show maxM = 1125899906842624 from rfl] at f1); omega)
      by_cases f2 : c.early ≤ c.late
      case neg =>
        have gf2 : decide (c.late < c.early) = true := decide_eq_true (by (try rw [show maxM = 1125899906842624 from rfl] at f2); omega)
        have hc := Lib.hid (hno.out (by rintro ⟨-, -, q, -⟩; omega))
        clear hno hstep 
        go_wp2_with fail
        go_quiet (first | (go_at_call 59; exact Calls.quiet_of_same ((place_any _ g ta tc N S R _ (hTA.out _) hN).mono fun _ _ ⟨a, b⟩ => ⟨a, b.symm⟩)))
        go_wp2_with fail
        go_ret
        exact ⟨ret_bool hc.out.symm, hbr.trans ((below_drewN ((Below.refl _ _).alloc (Nat.le_refl _) _) _).mono hzr)⟩
      have gf2 : decide (c.late < c.early) = false := decide_eq_false (by (try rw [show maxM = 1125899906842624 from rfl] at f2); omega)
      by_cases f3 : c.late ≤ maxM
      case neg =>
        have gf3 : decide (1125899906842624 < c.late) = true := decide_eq_true (by (try rw [show maxM = 1125899906842624 from rfl] at f3); omega)
        have hc := Lib.hid (hno.out (by rintro ⟨-, -, -, q, -⟩; exact f3 q))
        clear hno hstep 
        go_wp2_with fail
        go_quiet (first | (go_at_call 59; exact Calls.quiet_of_same ((place_any _ g ta tc N S R _ (hTA.out _) hN).mono fun _ _ ⟨a, b⟩ => ⟨a, b.symm⟩)))
        go_wp2_with fail
        go_ret
        exact ⟨ret_bool hc.out.symm, hbr.trans ((below_drewN ((Below.refl _ _).alloc (Nat.le_refl _) _) _).mono hzr)⟩
      have gf3 : decide (1125899906842624 < c.late) = false := decide_eq_false (by (try rw [show maxM = 1125899906842624 from rfl] at f3); omega)
      have hs' := Lib.hid (hstep.out ⟨e1, f1, f2, f3, fun d' _ h' => by rw [hd.out hm0] at h'; cases h'; omega⟩)
      clear f1 f2 f3
      clear hno hstep hlt2
      go_wp2_with fail
      go_quiet (first | (go_at_call 59; exact Calls.quiet_of_same ((place_any _ g ta tc N S R _ (hTA.out _) hN).mono fun _ _ ⟨a, b⟩ => ⟨a, b.symm⟩)))
      go_wp2_with fail
      go_roundw
      case rel => exact ⟨m + 1, by omega, by go_num, hbr.trans ((below_drewN ((Below.refl _ _).alloc (Nat.le_refl _) _) _).mono hzr), hs'⟩
      case measure => simp [intOf]; omega
    have hg : decide ((0 : Int) < (m : Int)) = false := by simp; omega
    clear cd
    by_cases f1 : 0 ≤ c.early
    case neg =>
      have gf1 : decide (c.early < 0) = true := decide_eq_true (by (try rw [show maxM = 1125899906842624 from rfl] at f1); omega)
      have hc := Lib.hid (hno.out (by rintro ⟨-, q, -⟩; omega))
      clear hno hstep 
      go_wp2_with fail
      go_quiet (first | (go_at_call 59; exact Calls.quiet_of_same ((place_any _ g ta tc N S R _ (hTA.out _) hN).mono fun _ _ ⟨a, b⟩ => ⟨a, b.symm⟩)))
      go_wp2_with fail
      go_ret
      exact ⟨ret_bool hc.out.symm, hbr.trans ((below_drewN ((Below.refl _ _).alloc (Nat.le_refl _) _) _).mono hzr)⟩
    have gf1 : decide (c.early < 0) = false := decide_eq_false (by (try rw [show maxM = 1125899906842624 from rfl] at f1); omega)
    by_cases f2 : c.early ≤ c.late
    case neg =>
      have gf2 : decide (c.late < c.early) = true := decide_eq_true (by (try rw [show maxM = 1125899906842624 from rfl] at f2); omega)
      have hc := Lib.hid (hno.out (by rintro ⟨-, -, q, -⟩; omega))
      clear hno hstep 
      go_wp2_with fail
      go_quiet (first | (go_at_call 59; exact Calls.quiet_of_same ((place_any _ g ta tc N S R _ (hTA.out _) hN).mono fun _ _ ⟨a, b⟩ => ⟨a, b.symm⟩)))
      go_wp2_with fail
      go_ret
      exact ⟨ret_bool hc.out.symm, hbr.trans ((below_drewN ((Below.refl _ _).alloc (Nat.le_refl _) _) _).mono hzr)⟩
    have gf2 : decide (c.late < c.early) = false := decide_eq_false (by (try rw [show maxM = 1125899906842624 from rfl] at f2); omega)
    by_cases f3 : c.late ≤ maxM
    case neg =>
      have gf3 : decide (1125899906842624 < c.late) = true := decide_eq_true (by (try rw [show maxM = 1125899906842624 from rfl] at f3); omega)
      have hc := Lib.hid (hno.out (by rintro ⟨-, -, -, q, -⟩; exact f3 q))
      clear hno hstep 
      go_wp2_with fail
      go_quiet (first | (go_at_call 59; exact Calls.quiet_of_same ((place_any _ g ta tc N S R _ (hTA.out _) hN).mono fun _ _ ⟨a, b⟩ => ⟨a, b.symm⟩)))
      go_wp2_with fail
      go_ret
      exact ⟨ret_bool hc.out.symm, hbr.trans ((below_drewN ((Below.refl _ _).alloc (Nat.le_refl _) _) _).mono hzr)⟩
    have gf3 : decide (1125899906842624 < c.late) = false := decide_eq_false (by (try rw [show maxM = 1125899906842624 from rfl] at f3); omega)
    have hs' := Lib.hid (hstep.out ⟨e1, f1, f2, f3, fun d' h' => absurd h' hm0⟩)
    clear f1 f2 f3
    clear hno hstep 
    go_wp2_with fail
    go_quiet (first | (go_at_call 59; exact Calls.quiet_of_same ((place_any _ g ta tc N S R _ (hTA.out _) hN).mono fun _ _ ⟨a, b⟩ => ⟨a, b.symm⟩)))
    go_wp2_with fail
    go_roundw
    case rel => exact ⟨m + 1, by omega, by go_num, hbr.trans ((below_drewN ((Below.refl _ _).alloc (Nat.le_refl _) _) _).mono hzr), hs'⟩
    case measure => simp [intOf]; omega
set_option maxRecDepth 100000 in
set_option maxHeartbeats 8000000 in
theorem RPassings_any (la : Option Addr) (ln lc : Nat) (ls : List PassR) (pa : Option Addr) (pn pc : Nat) (ca : Option Addr) (cn cc : Nat) (ja : Option Addr) (jn jc : Nat) (R : Road) (w : World) (h : RD w w.heap.size pa pn ca cn ja jn R) (hv : OK R)
    (hk : SL paC 3 w w.heap.size la ln ls) (hln : ln ≤ 100000) :
    Calls Tryd.prog 36 #[.agg #[.slice pa pn pc, .slice ca cn cc, .slice ja jn jc], .slice la ln lc] w fun e w' => e = .returned (.bool (pB (sumL R.ps) ls)) ∧ Below w.heap.size w w' := by
  have HR := Lib.hid h
  have HK := Lib.hid hk
  have HL := Lib.hid hk.1
  have HV := Lib.hid hv
  have hmo : Tryd.prog.follows .mixedOrders = true := by kernel_rfl
  clear h hk hv
  obtain ⟨w0, hw0⟩ : ∃ w0, w0 = w.alloc (.cells #[.slice pa pn pc, .slice ca cn cc, .slice ja jn jc] 26) := ⟨_, rfl⟩
  have hB0 : Below w.heap.size w w0 := by rw [hw0]; exact (Below.refl w.heap.size w).alloc (Nat.le_refl _) _
  have hX0 : BK w0 (w.heap.size) 26 #[.slice pa pn pc, .slice ca cn cc, .slice ja jn jc] := by rw [hw0]; exact (BK.new w 26 #[.slice pa pn pc, .slice ca cn cc, .slice ja jn jc])
  go_enter Tryd.func36, Tryd.ntmps36
  go_wp2_with fail
  rw [← hw0]
  clear hw0
  have hz0 := hB0.size
  go_loopw [5] (fun i wr => ∃ k : Nat, k ≤ ln ∧ i = .int .i64 k ∧ Below w0.heap.size w0 wr ∧ Hid (∀ i, i < k → pAt (sumL R.ps) ls i))
    (fun i _ => ln - (intOf i).toNat)
  case atStart => exact ⟨0, Nat.zero_le _, rfl, Below.refl _ _, by simp [Hid]⟩
  case round =>
    obtain ⟨m, hm, rfl, hbr, hall⟩ := hrel
    have hBr := hB0.trans (hbr.mono hz0)
    have hXr := hX0.below hbr hX0.lt
    have hzr := hbr.size
    by_cases hlt : m < ln
    case neg =>
      obtain rfl : m = ln := by omega
      have hend : Hid (pB (sumL R.ps) ls = decide ((m : Int) ≤ 200)) := by
        show _ = _
        by_cases h3 : (m : Int) ≤ 200
        · rw [pB_ok ⟨by rw [← HL.out]; omega, fun i hi => hall.out i (by rw [HL.out]; exact hi)⟩]; simp; omega
        · rw [pB_bad (fun q => h3 (by have := q.l1; rw [← HL.out] at this; omega))]; simp; omega
      go_wp2_with fail
      go_ret
      exact ⟨ret_bool hend.out.symm, hBr⟩
    have hkl : m < ls.length := by rw [← HL.out]; exact hlt
    have hw := HK.out.grow hBr hBr.size
    obtain ⟨b, off, hA, hbB, c0, c1, c2⟩ := PA3.at_ hw (k := m) hkl
    have hstep : Hid (∀ (hh : inR (ls[m]).place 0 (sumL R.ps) = true ∧ 0 ≤ (ls[m]).early ∧ (ls[m]).early ≤ (ls[m]).late ∧ (ls[m]).late ≤ maxM ∧ ∀ d, 0 < m → ls[m-1]? = some d → d.place < (ls[m]).place), ∀ i, i < m + 1 → pAt (sumL R.ps) ls i) := by
      intro hh i hi
      rcases Nat.lt_or_ge i m with h | h
      · exact hall.out i h
      · obtain rfl : i = m := by omega
        intro c hc
        rw [List.getElem?_eq_getElem hkl] at hc
        cases hc
        exact hh
    have hno : Hid (∀ (hh : ¬ (inR (ls[m]).place 0 (sumL R.ps) = true ∧ 0 ≤ (ls[m]).early ∧ (ls[m]).early ≤ (ls[m]).late ∧ (ls[m]).late ≤ maxM ∧ ∀ d, 0 < m → ls[m-1]? = some d → d.place < (ls[m]).place)), pB (sumL R.ps) ls = false) := by
      intro hh
      exact pB_bad (fun q => hh (q.k m hkl _ (List.getElem?_eq_getElem hkl)))
    have hprev : ∃ d : PassR, Hid (0 < m → ls[m-1]? = some d) ∧ (0 < m → wr.cell? ⟨b, off + (m-1) * 3, none⟩ = some (.int .i64 d.place)) := by
      rcases Nat.eq_zero_or_pos m with h0 | h0
      · exact ⟨⟨0, 0, 0⟩, fun h => by omega, fun h => by omega⟩
      · obtain ⟨b2, off2, hA2, _, c02, _⟩ := PA3.at_ hw (k := m - 1) (by omega)
        rw [hA] at hA2
        cases hA2
        exact ⟨ls[m-1], fun _ => List.getElem?_eq_getElem (by omega), fun _ => c02⟩
    obtain ⟨d, hd, cd⟩ := hprev
    generalize ls[m]'hkl = c at c0 c1 c2 hstep hno
    clear hw hkl hall
    have hm1 : (0 : Int) ≤ (m : Int) := by omega
    have hm2 : (m : Int) < (ln : Int) := by omega
    subst hA
    obtain ⟨Wb, hWb⟩ : ∃ Wb, Wb = wr.alloc (.cells #[.int .i64 c.place, .int .i64 c.early, .int .i64 c.late] 89) := ⟨_, rfl⟩
    have hbb : Below wr.heap.size wr Wb := by rw [hWb]; exact (Below.refl _ _).alloc (Nat.le_refl _) _
    have hCb : BK Wb wr.heap.size 89 #[.int .i64 c.place, .int .i64 c.early, .int .i64 c.late] := by rw [hWb]; exact BK.new _ _ _
    have hXb := hXr.below hbb hXr.lt
    have cdb : 0 < m → Wb.cell? ⟨b, off + (m-1) * 3, none⟩ = some (.int .i64 d.place) := fun h0 => (hbb.cell (p := ⟨b, off + (m-1) * 3, none⟩) hbB).trans (cd h0)
    have hBb := hBr.trans (hbb.mono hBr.size)
    have hbw := hbr.trans (hbb.mono hzr)
    clear hXr cd
    go_wp2_with fail
    rw [← hWb]
    clear hWb c0 c1 c2
    have x0 := fun d os => cell_regrown (hXb.cell 0) d os
    have x1 := fun d os => cell_regrown (hXb.cell 1) d os
    have x2 := fun d os => cell_regrown (hXb.cell 2) d os
    have y0 := fun d os => cell_regrown (hCb.cell 0) d os
    have y1 := fun d os => cell_regrown (hCb.cell 1) d os
    have y2 := fun d os => cell_regrown (hCb.cell 2) d os
    have HLn := Lib.hid (fun (W : World) (hW : RD W W.heap.size pa pn ca cn ja jn R) => R3Length_any pa pn pc ca cn cc ja jn jc R W hW HV.out)
    have HG := Lib.hid (fun d os => HR.out.grow (hBb.trans ((below_regrown Wb d os).mono hBb.size)) (Nat.le_trans hBb.size (below_regrown Wb d os).size))
    have HN := Lib.hid (fun (x lo hi : Int) (W : World) => in3_bel x lo hi W)
    cases e1 : inR c.place 0 (sumL R.ps)
    case false =>
      have hc := Lib.hid (hno.out (by simp [e1]))
      have E1 := Lib.hid e1
      clear e1 cdb
      clear hno hstep
      refine wp_region_ch 37 [3, 4, 6, 11, 18, 23, 26] hmo (by kernel_rfl) ?_
      simp only [List.take_succ_cons, List.take_zero, List.drop_succ_cons, List.drop_zero]
      repeat (with_reducible refine wpC_q (by decide) (by decide) (fun K hK => ?_); go_simp; (try rw [if_neg (by simp [undef])]); refine hK _ ?_; clear hK K)
      with_reducible refine wpC_cg (ι := Unit) 23 #[.agg #[.slice pa pn pc, .slice ca cn cc, .slice ja jn jc]] (fun _ => .int .i64 (sumL R.ps)) (fun _ _ => True) (by decide) (by decide) (by go_simp) (fun w => by go_simp) stable_true (fun _ => stable_true) (fun W hW _ => ?_) (fun i0 hs0 => ?_)
      · obtain ⟨pp, rfl⟩ := hW
        refine (HLn.out _ (HG.out _ _)).mono ?_
        rintro e w' ⟨rfl, hbl⟩
        exact ⟨(), rfl, trivial, hbl⟩
      repeat (with_reducible refine wpC_q (by decide) (by decide) (fun K hK => ?_); go_simp; (try rw [if_neg (by simp [undef])]); refine hK _ ?_; clear hK K)
      with_reducible refine wpC_cg (ι := Unit) 65 #[.int .i64 c.place, .int .i64 0, .int .i64 (sumL R.ps)] (fun _ => .bool false) (fun _ _ => True) (by decide) (by decide) (by go_simp) (fun w => by go_simp) hs0 (fun _ => stable_true) (fun W hW _ => ?_) (fun i1 hs1 => ?_)
      · obtain ⟨pp, rfl⟩ := hW
        refine (HN.out _ _ _ _).mono ?_
        rintro e w' ⟨rfl, hbl⟩
        exact ⟨(), by rw [E1.out], trivial, hbl⟩
      repeat (with_reducible refine wpC_q (by decide) (by decide) (fun K hK => ?_); go_simp; (try rw [if_neg (by simp [undef])]); refine hK _ ?_; clear hK K)
      with_reducible refine wpC_vg (ι := Unit) (fun _ => .bool true) (fun _ _ => True) (by decide) (by decide) (by go_simp) hs1 (fun _ => stable_true) (fun W _ _ => ⟨(), W, by go_simp, trivial, Below.refl _ _⟩) (fun i2 hs2 => ?_)
      repeat (with_reducible refine wpC_q (by decide) (by decide) (fun K hK => ?_); go_simp; (try rw [if_neg (by simp [undef])]); refine hK _ ?_; clear hK K)
      with_reducible refine wpC_vg (ι := Unit) (fun _ => .bool true) (fun _ _ => True) (by decide) (by decide) (by go_simp) hs2 (fun _ => stable_true) (fun W _ _ => ⟨(), W, by go_simp, trivial, Below.refl _ _⟩) (fun i3 hs3 => ?_)
      repeat (with_reducible refine wpC_q (by decide) (by decide) (fun K hK => ?_); go_simp; (try rw [if_neg (by simp [undef])]); refine hK _ ?_; clear hK K)
      with_reducible refine wpC_vg (ι := Unit) (fun _ => .bool true) (fun _ _ => True) (by decide) (by decide) (by go_simp) hs3 (fun _ => stable_true) (fun W _ _ => ⟨(), W, by go_simp, trivial, Below.refl _ _⟩) (fun i4 hs4 => ?_)
      repeat (with_reducible refine wpC_q (by decide) (by decide) (fun K hK => ?_); go_simp; (try rw [if_neg (by simp [undef])]); refine hK _ ?_; clear hK K)
      with_reducible refine wpC_vg (ι := Unit) (fun _ => .bool true) (fun _ _ => True) (by decide) (by decide) (by go_simp) hs4 (fun _ => stable_true) (fun W _ _ => ⟨(), W, by go_simp, trivial, Below.refl _ _⟩) (fun i5 hs5 => ?_)
      repeat (with_reducible refine wpC_q (by decide) (by decide) (fun K hK => ?_); go_simp; (try rw [if_neg (by simp [undef])]); refine hK _ ?_; clear hK K)
      with_reducible refine wpC_off (by decide) (by go_simp) ?_
      repeat (with_reducible refine wpC_q (by decide) (by decide) (fun K hK => ?_); go_simp; (try rw [if_neg (by simp [undef])]); refine hK _ ?_; clear hK K)
      refine wpC_nil ?_
      intro w2 hb2 _
      clear x0 x1 x2 y0 y1 y2 HLn HG HN hs0 hs1 hs2 hs3 hs4 hs5
      go_wp2_with fail
      go_ret
      exact ⟨ret_bool hc.out.symm, hBb.trans (hb2.mono hBb.size)⟩
    have E1 := Lib.hid e1
    by_cases f1 : 0 ≤ c.early
    case neg =>
      have gf1 : decide (c.early < 0) = true := decide_eq_true (by (try rw [show maxM = 1125899906842624 from rfl] at f1); omega)
      have hc := Lib.hid (hno.out (by rintro ⟨-, q, -⟩; omega))
      clear e1 cdb
      clear hno hstep
      refine wp_region_ch 37 [3, 4, 6, 11, 18, 23, 26] hmo (by kernel_rfl) ?_
      simp only [List.take_succ_cons, List.take_zero, List.drop_succ_cons, List.drop_zero]
      repeat (with_reducible refine wpC_q (by decide) (by decide) (fun K hK => ?_); go_simp; (try rw [if_neg (by simp [undef])]); refine hK _ ?_; clear hK K)
      with_reducible refine wpC_cg (ι := Unit) 23 #[.agg #[.slice pa pn pc, .slice ca cn cc, .slice ja jn jc]] (fun _ => .int .i64 (sumL R.ps)) (fun _ _ => True) (by decide) (by decide) (by go_simp) (fun w => by go_simp) stable_true (fun _ => stable_true) (fun W hW _ => ?_) (fun i0 hs0 => ?_)
      · obtain ⟨pp, rfl⟩ := hW
        refine (HLn.out _ (HG.out _ _)).mono ?_
        rintro e w' ⟨rfl, hbl⟩
        exact ⟨(), rfl, trivial, hbl⟩
      repeat (with_reducible refine wpC_q (by decide) (by decide) (fun K hK => ?_); go_simp; (try rw [if_neg (by simp [undef])]); refine hK _ ?_; clear hK K)
      with_reducible refine wpC_cg (ι := Unit) 65 #[.int .i64 c.place, .int .i64 0, .int .i64 (sumL R.ps)] (fun _ => .bool true) (fun _ _ => True) (by decide) (by decide) (by go_simp) (fun w => by go_simp) hs0 (fun _ => stable_true) (fun W hW _ => ?_) (fun i1 hs1 => ?_)
      · obtain ⟨pp, rfl⟩ := hW
        refine (HN.out _ _ _ _).mono ?_
        rintro e w' ⟨rfl, hbl⟩
        exact ⟨(), by rw [E1.out], trivial, hbl⟩
      repeat (with_reducible refine wpC_q (by decide) (by decide) (fun K hK => ?_); go_simp; (try rw [if_neg (by simp [undef])]); refine hK _ ?_; clear hK K)
      with_reducible refine wpC_vg (ι := Unit) (fun _ => .bool false) (fun _ _ => True) (by decide) (by decide) (by go_simp) hs1 (fun _ => stable_true) (fun W _ _ => ⟨(), W, by go_simp, trivial, Below.refl _ _⟩) (fun i2 hs2 => ?_)
      repeat (with_reducible refine wpC_q (by decide) (by decide) (fun K hK => ?_); go_simp; (try rw [if_neg (by simp [undef])]); refine hK _ ?_; clear hK K)
      with_reducible refine wpC_vg (ι := Unit) (fun _ => .bool true) (fun _ _ => True) (by decide) (by decide) (by go_simp) hs2 (fun _ => stable_true) (fun W _ _ => ⟨(), W, by go_simp, trivial, Below.refl _ _⟩) (fun i3 hs3 => ?_)
      repeat (with_reducible refine wpC_q (by decide) (by decide) (fun K hK => ?_); go_simp; (try rw [if_neg (by simp [undef])]); refine hK _ ?_; clear hK K)
      with_reducible refine wpC_vg (ι := Unit) (fun _ => .bool true) (fun _ _ => True) (by decide) (by decide) (by go_simp) hs3 (fun _ => stable_true) (fun W _ _ => ⟨(), W, by go_simp, trivial, Below.refl _ _⟩) (fun i4 hs4 => ?_)
      repeat (with_reducible refine wpC_q (by decide) (by decide) (fun K hK => ?_); go_simp; (try rw [if_neg (by simp [undef])]); refine hK _ ?_; clear hK K)
      with_reducible refine wpC_vg (ι := Unit) (fun _ => .bool true) (fun _ _ => True) (by decide) (by decide) (by go_simp) hs4 (fun _ => stable_true) (fun W _ _ => ⟨(), W, by go_simp, trivial, Below.refl _ _⟩) (fun i5 hs5 => ?_)
      repeat (with_reducible refine wpC_q (by decide) (by decide) (fun K hK => ?_); go_simp; (try rw [if_neg (by simp [undef])]); refine hK _ ?_; clear hK K)
      with_reducible refine wpC_off (by decide) (by go_simp) ?_
      repeat (with_reducible refine wpC_q (by decide) (by decide) (fun K hK => ?_); go_simp; (try rw [if_neg (by simp [undef])]); refine hK _ ?_; clear hK K)
      refine wpC_nil ?_
      intro w2 hb2 _
      clear x0 x1 x2 y0 y1 y2 HLn HG HN hs0 hs1 hs2 hs3 hs4 hs5
      go_wp2_with fail
      go_ret
      exact ⟨ret_bool hc.out.symm, hBb.trans (hb2.mono hBb.size)⟩
    have gf1 : decide (c.early < 0) = false := decide_eq_false (by (try rw [show maxM = 1125899906842624 from rfl] at f1); omega)
    by_cases f2 : c.early ≤ c.late
    case neg =>
      have gf2 : decide (c.late < c.early) = true := decide_eq_true (by (try rw [show maxM = 1125899906842624 from rfl] at f2); omega)
      have hc := Lib.hid (hno.out (by rintro ⟨-, -, q, -⟩; omega))
      clear e1 cdb
      clear hno hstep
      refine wp_region_ch 37 [3, 4, 6, 11, 18, 23, 26] hmo (by kernel_rfl) ?_
      simp only [List.take_succ_cons, List.take_zero, List.drop_succ_cons, List.drop_zero]
      repeat (with_reducible refine wpC_q (by decide) (by decide) (fun K hK => ?_); go_simp; (try rw [if_neg (by simp [undef])]); refine hK _ ?_; clear hK K)
      with_reducible refine wpC_cg (ι := Unit) 23 #[.agg #[.slice pa pn pc, .slice ca cn cc, .slice ja jn jc]] (fun _ => .int .i64 (sumL R.ps)) (fun _ _ => True) (by decide) (by decide) (by go_simp) (fun w => by go_simp) stable_true (fun _ => stable_true) (fun W hW _ => ?_) (fun i0 hs0 => ?_)
      · obtain ⟨pp, rfl⟩ := hW
        refine (HLn.out _ (HG.out _ _)).mono ?_
        rintro e w' ⟨rfl, hbl⟩
        exact ⟨(), rfl, trivial, hbl⟩
      repeat (with_reducible refine wpC_q (by decide) (by decide) (fun K hK => ?_); go_simp; (try rw [if_neg (by simp [undef])]); refine hK _ ?_; clear hK K)
      with_reducible refine wpC_cg (ι := Unit) 65 #[.int .i64 c.place, .int .i64 0, .int .i64 (sumL R.ps)] (fun _ => .bool true) (fun _ _ => True) (by decide) (by decide) (by go_simp) (fun w => by go_simp) hs0 (fun _ => stable_true) (fun W hW _ => ?_) (fun i1 hs1 => ?_)
      · obtain ⟨pp, rfl⟩ := hW
        refine (HN.out _ _ _ _).mono ?_
        rintro e w' ⟨rfl, hbl⟩
        exact ⟨(), by rw [E1.out], trivial, hbl⟩
      repeat (with_reducible refine wpC_q (by decide) (by decide) (fun K hK => ?_); go_simp; (try rw [if_neg (by simp [undef])]); refine hK _ ?_; clear hK K)
      with_reducible refine wpC_vg (ι := Unit) (fun _ => .bool false) (fun _ _ => True) (by decide) (by decide) (by go_simp) hs1 (fun _ => stable_true) (fun W _ _ => ⟨(), W, by go_simp, trivial, Below.refl _ _⟩) (fun i2 hs2 => ?_)
      repeat (with_reducible refine wpC_q (by decide) (by decide) (fun K hK => ?_); go_simp; (try rw [if_neg (by simp [undef])]); refine hK _ ?_; clear hK K)
      with_reducible refine wpC_vg (ι := Unit) (fun _ => .bool false) (fun _ _ => True) (by decide) (by decide) (by go_simp) hs2 (fun _ => stable_true) (fun W _ _ => ⟨(), W, by go_simp, trivial, Below.refl _ _⟩) (fun i3 hs3 => ?_)
      repeat (with_reducible refine wpC_q (by decide) (by decide) (fun K hK => ?_); go_simp; (try rw [if_neg (by simp [undef])]); refine hK _ ?_; clear hK K)
      with_reducible refine wpC_vg (ι := Unit) (fun _ => .bool true) (fun _ _ => True) (by decide) (by decide) (by go_simp) hs3 (fun _ => stable_true) (fun W _ _ => ⟨(), W, by go_simp, trivial, Below.refl _ _⟩) (fun i4 hs4 => ?_)
      repeat (with_reducible refine wpC_q (by decide) (by decide) (fun K hK => ?_); go_simp; (try rw [if_neg (by simp [undef])]); refine hK _ ?_; clear hK K)
      with_reducible refine wpC_vg (ι := Unit) (fun _ => .bool true) (fun _ _ => True) (by decide) (by decide) (by go_simp) hs4 (fun _ => stable_true) (fun W _ _ => ⟨(), W, by go_simp, trivial, Below.refl _ _⟩) (fun i5 hs5 => ?_)
      repeat (with_reducible refine wpC_q (by decide) (by decide) (fun K hK => ?_); go_simp; (try rw [if_neg (by simp [undef])]); refine hK _ ?_; clear hK K)
      with_reducible refine wpC_off (by decide) (by go_simp) ?_
      repeat (with_reducible refine wpC_q (by decide) (by decide) (fun K hK => ?_); go_simp; (try rw [if_neg (by simp [undef])]); refine hK _ ?_; clear hK K)
      refine wpC_nil ?_
      intro w2 hb2 _
      clear x0 x1 x2 y0 y1 y2 HLn HG HN hs0 hs1 hs2 hs3 hs4 hs5
      go_wp2_with fail
      go_ret
      exact ⟨ret_bool hc.out.symm, hBb.trans (hb2.mono hBb.size)⟩
    have gf2 : decide (c.late < c.early) = false := decide_eq_false (by (try rw [show maxM = 1125899906842624 from rfl] at f2); omega)
    by_cases f3 : c.late ≤ maxM
    case neg =>
      have gf3 : decide (1125899906842624 < c.late) = true := decide_eq_true (by (try rw [show maxM = 1125899906842624 from rfl] at f3); omega)
      have hc := Lib.hid (hno.out (by rintro ⟨-, -, -, q, -⟩; exact f3 q))
      clear e1 cdb
      clear hno hstep
      refine wp_region_ch 37 [3, 4, 6, 11, 18, 23, 26] hmo (by kernel_rfl) ?_
      simp only [List.take_succ_cons, List.take_zero, List.drop_succ_cons, List.drop_zero]
      repeat (with_reducible refine wpC_q (by decide) (by decide) (fun K hK => ?_); go_simp; (try rw [if_neg (by simp [undef])]); refine hK _ ?_; clear hK K)
      with_reducible refine wpC_cg (ι := Unit) 23 #[.agg #[.slice pa pn pc, .slice ca cn cc, .slice ja jn jc]] (fun _ => .int .i64 (sumL R.ps)) (fun _ _ => True) (by decide) (by decide) (by go_simp) (fun w => by go_simp) stable_true (fun _ => stable_true) (fun W hW _ => ?_) (fun i0 hs0 => ?_)
      · obtain ⟨pp, rfl⟩ := hW
        refine (HLn.out _ (HG.out _ _)).mono ?_
        rintro e w' ⟨rfl, hbl⟩
        exact ⟨(), rfl, trivial, hbl⟩
      repeat (with_reducible refine wpC_q (by decide) (by decide) (fun K hK => ?_); go_simp; (try rw [if_neg (by simp [undef])]); refine hK _ ?_; clear hK K)
      with_reducible refine wpC_cg (ι := Unit) 65 #[.int .i64 c.place, .int .i64 0, .int .i64 (sumL R.ps)] (fun _ => .bool true) (fun _ _ => True) (by decide) (by decide) (by go_simp) (fun w => by go_simp) hs0 (fun _ => stable_true) (fun W hW _ => ?_) (fun i1 hs1 => ?_)
      · obtain ⟨pp, rfl⟩ := hW
        refine (HN.out _ _ _ _).mono ?_
        rintro e w' ⟨rfl, hbl⟩
        exact ⟨(), by rw [E1.out], trivial, hbl⟩
      repeat (with_reducible refine wpC_q (by decide) (by decide) (fun K hK => ?_); go_simp; (try rw [if_neg (by simp [undef])]); refine hK _ ?_; clear hK K)
      with_reducible refine wpC_vg (ι := Unit) (fun _ => .bool false) (fun _ _ => True) (by decide) (by decide) (by go_simp) hs1 (fun _ => stable_true) (fun W _ _ => ⟨(), W, by go_simp, trivial, Below.refl _ _⟩) (fun i2 hs2 => ?_)
      repeat (with_reducible refine wpC_q (by decide) (by decide) (fun K hK => ?_); go_simp; (try rw [if_neg (by simp [undef])]); refine hK _ ?_; clear hK K)
      with_reducible refine wpC_vg (ι := Unit) (fun _ => .bool false) (fun _ _ => True) (by decide) (by decide) (by go_simp) hs2 (fun _ => stable_true) (fun W _ _ => ⟨(), W, by go_simp, trivial, Below.refl _ _⟩) (fun i3 hs3 => ?_)
      repeat (with_reducible refine wpC_q (by decide) (by decide) (fun K hK => ?_); go_simp; (try rw [if_neg (by simp [undef])]); refine hK _ ?_; clear hK K)
      with_reducible refine wpC_vg (ι := Unit) (fun _ => .bool false) (fun _ _ => True) (by decide) (by decide) (by go_simp) hs3 (fun _ => stable_true) (fun W _ _ => ⟨(), W, by go_simp, trivial, Below.refl _ _⟩) (fun i4 hs4 => ?_)
      repeat (with_reducible refine wpC_q (by decide) (by decide) (fun K hK => ?_); go_simp; (try rw [if_neg (by simp [undef])]); refine hK _ ?_; clear hK K)
      with_reducible refine wpC_vg (ι := Unit) (fun _ => .bool true) (fun _ _ => True) (by decide) (by decide) (by go_simp) hs4 (fun _ => stable_true) (fun W _ _ => ⟨(), W, by go_simp, trivial, Below.refl _ _⟩) (fun i5 hs5 => ?_)
      repeat (with_reducible refine wpC_q (by decide) (by decide) (fun K hK => ?_); go_simp; (try rw [if_neg (by simp [undef])]); refine hK _ ?_; clear hK K)
      with_reducible refine wpC_off (by decide) (by go_simp) ?_
      repeat (with_reducible refine wpC_q (by decide) (by decide) (fun K hK => ?_); go_simp; (try rw [if_neg (by simp [undef])]); refine hK _ ?_; clear hK K)
      refine wpC_nil ?_
      intro w2 hb2 _
      clear x0 x1 x2 y0 y1 y2 HLn HG HN hs0 hs1 hs2 hs3 hs4 hs5
      go_wp2_with fail
      go_ret
      exact ⟨ret_bool hc.out.symm, hBb.trans (hb2.mono hBb.size)⟩
    have gf3 : decide (1125899906842624 < c.late) = false := decide_eq_false (by (try rw [show maxM = 1125899906842624 from rfl] at f3); omega)
    by_cases hm0 : 0 < m
    case pos =>
      have hg : decide ((0 : Int) < (m : Int)) = true := by simp; omega
      have z0 := fun d os => cell_regrown (cdb hm0) d os
      have hwm : IntKind.i64.wrap ((m : Int) - 1) = ((m - 1 : Nat) : Int) := (IntWalk.i64_in _ (by omega)).trans (by omega)
      have hm3 : ((m - 1 : Nat) : Int) < (ln : Int) := by omega
      by_cases hlt2 : c.place ≤ d.place
      case pos =>
        have g3 : decide (c.place ≤ d.place) = true := by simpa using hlt2
        have hc := Lib.hid (hno.out (by rintro ⟨-, -, -, -, h⟩; have := h d hm0 (hd.out hm0); omega))
        clear hlt2 e1 f1 f2 f3 cdb
        clear hno hstep
        refine wp_region_ch 37 [3, 4, 6, 11, 18, 23, 26] hmo (by kernel_rfl) ?_
        simp only [List.take_succ_cons, List.take_zero, List.drop_succ_cons, List.drop_zero]
        repeat (with_reducible refine wpC_q (by decide) (by decide) (fun K hK => ?_); go_simp; (try rw [if_neg (by simp [undef])]); refine hK _ ?_; clear hK K)
        with_reducible refine wpC_cg (ι := Unit) 23 #[.agg #[.slice pa pn pc, .slice ca cn cc, .slice ja jn jc]] (fun _ => .int .i64 (sumL R.ps)) (fun _ _ => True) (by decide) (by decide) (by go_simp) (fun w => by go_simp) stable_true (fun _ => stable_true) (fun W hW _ => ?_) (fun i0 hs0 => ?_)
        · obtain ⟨pp, rfl⟩ := hW
          refine (HLn.out _ (HG.out _ _)).mono ?_
          rintro e w' ⟨rfl, hbl⟩
          exact ⟨(), rfl, trivial, hbl⟩
        repeat (with_reducible refine wpC_q (by decide) (by decide) (fun K hK => ?_); go_simp; (try rw [if_neg (by simp [undef])]); refine hK _ ?_; clear hK K)
        with_reducible refine wpC_cg (ι := Unit) 65 #[.int .i64 c.place, .int .i64 0, .int .i64 (sumL R.ps)] (fun _ => .bool true) (fun _ _ => True) (by decide) (by decide) (by go_simp) (fun w => by go_simp) hs0 (fun _ => stable_true) (fun W hW _ => ?_) (fun i1 hs1 => ?_)
        · obtain ⟨pp, rfl⟩ := hW
          refine (HN.out _ _ _ _).mono ?_
          rintro e w' ⟨rfl, hbl⟩
          exact ⟨(), by rw [E1.out], trivial, hbl⟩
        repeat (with_reducible refine wpC_q (by decide) (by decide) (fun K hK => ?_); go_simp; (try rw [if_neg (by simp [undef])]); refine hK _ ?_; clear hK K)
        with_reducible refine wpC_vg (ι := Unit) (fun _ => .bool false) (fun _ _ => True) (by decide) (by decide) (by go_simp) hs1 (fun _ => stable_true) (fun W _ _ => ⟨(), W, by go_simp, trivial, Below.refl _ _⟩) (fun i2 hs2 => ?_)
        repeat (with_reducible refine wpC_q (by decide) (by decide) (fun K hK => ?_); go_simp; (try rw [if_neg (by simp [undef])]); refine hK _ ?_; clear hK K)
        with_reducible refine wpC_vg (ι := Unit) (fun _ => .bool false) (fun _ _ => True) (by decide) (by decide) (by go_simp) hs2 (fun _ => stable_true) (fun W _ _ => ⟨(), W, by go_simp, trivial, Below.refl _ _⟩) (fun i3 hs3 => ?_)
        repeat (with_reducible refine wpC_q (by decide) (by decide) (fun K hK => ?_); go_simp; (try rw [if_neg (by simp [undef])]); refine hK _ ?_; clear hK K)
        with_reducible refine wpC_vg (ι := Unit) (fun _ => .bool false) (fun _ _ => True) (by decide) (by decide) (by go_simp) hs3 (fun _ => stable_true) (fun W _ _ => ⟨(), W, by go_simp, trivial, Below.refl _ _⟩) (fun i4 hs4 => ?_)
        repeat (with_reducible refine wpC_q (by decide) (by decide) (fun K hK => ?_); go_simp; (try rw [if_neg (by simp [undef])]); refine hK _ ?_; clear hK K)
        with_reducible refine wpC_vg (ι := Unit) (fun _ => .bool false) (fun _ _ => True) (by decide) (by decide) (by go_simp) hs4 (fun _ => stable_true) (fun W _ _ => ⟨(), W, by go_simp, trivial, Below.refl _ _⟩) (fun i5 hs5 => ?_)
        repeat (with_reducible refine wpC_q (by decide) (by decide) (fun K hK => ?_); go_simp; (try rw [if_neg (by simp [undef])]); refine hK _ ?_; clear hK K)
        with_reducible refine wpC_vg (ι := Unit) (fun _ => .bool true) (fun _ _ => True) (by decide) (by decide) (by go_simp) hs5 (fun _ => stable_true) (fun W _ _ => ⟨(), W, by go_simp, trivial, Below.refl _ _⟩) (fun i6 hs6 => ?_)
        repeat (with_reducible refine wpC_q (by decide) (by decide) (fun K hK => ?_); go_simp; (try rw [if_neg (by simp [undef])]); refine hK _ ?_; clear hK K)
        refine wpC_nil ?_
        intro w2 hb2 _
        clear x0 x1 x2 y0 y1 y2 HLn HG HN hs0 hs1 hs2 hs3 hs4 hs5 hs6
        go_wp2_with fail
        go_ret
        exact ⟨ret_bool hc.out.symm, hBb.trans (hb2.mono hBb.size)⟩
      have g3 : decide (c.place ≤ d.place) = false := by simpa using hlt2
      have hs' := Lib.hid (hstep.out ⟨e1, f1, f2, f3, fun d' _ h' => by rw [hd.out hm0] at h'; cases h'; omega⟩)
      clear hlt2 e1 f1 f2 f3 cdb
      clear hno hstep
      refine wp_region_ch 37 [3, 4, 6, 11, 18, 23, 26] hmo (by kernel_rfl) ?_
      simp only [List.take_succ_cons, List.take_zero, List.drop_succ_cons, List.drop_zero]
      repeat (with_reducible refine wpC_q (by decide) (by decide) (fun K hK => ?_); go_simp; (try rw [if_neg (by simp [undef])]); refine hK _ ?_; clear hK K)
      with_reducible refine wpC_cg (ι := Unit) 23 #[.agg #[.slice pa pn pc, .slice ca cn cc, .slice ja jn jc]] (fun _ => .int .i64 (sumL R.ps)) (fun _ _ => True) (by decide) (by decide) (by go_simp) (fun w => by go_simp) stable_true (fun _ => stable_true) (fun W hW _ => ?_) (fun i0 hs0 => ?_)
      · obtain ⟨pp, rfl⟩ := hW
        refine (HLn.out _ (HG.out _ _)).mono ?_
        rintro e w' ⟨rfl, hbl⟩
        exact ⟨(), rfl, trivial, hbl⟩
      repeat (with_reducible refine wpC_q (by decide) (by decide) (fun K hK => ?_); go_simp; (try rw [if_neg (by simp [undef])]); refine hK _ ?_; clear hK K)
      with_reducible refine wpC_cg (ι := Unit) 65 #[.int .i64 c.place, .int .i64 0, .int .i64 (sumL R.ps)] (fun _ => .bool true) (fun _ _ => True) (by decide) (by decide) (by go_simp) (fun w => by go_simp) hs0 (fun _ => stable_true) (fun W hW _ => ?_) (fun i1 hs1 => ?_)
      · obtain ⟨pp, rfl⟩ := hW
        refine (HN.out _ _ _ _).mono ?_
        rintro e w' ⟨rfl, hbl⟩
        exact ⟨(), by rw [E1.out], trivial, hbl⟩
      repeat (with_reducible refine wpC_q (by decide) (by decide) (fun K hK => ?_); go_simp; (try rw [if_neg (by simp [undef])]); refine hK _ ?_; clear hK K)
      with_reducible refine wpC_vg (ι := Unit) (fun _ => .bool false) (fun _ _ => True) (by decide) (by decide) (by go_simp) hs1 (fun _ => stable_true) (fun W _ _ => ⟨(), W, by go_simp, trivial, Below.refl _ _⟩) (fun i2 hs2 => ?_)
      repeat (with_reducible refine wpC_q (by decide) (by decide) (fun K hK => ?_); go_simp; (try rw [if_neg (by simp [undef])]); refine hK _ ?_; clear hK K)
      with_reducible refine wpC_vg (ι := Unit) (fun _ => .bool false) (fun _ _ => True) (by decide) (by decide) (by go_simp) hs2 (fun _ => stable_true) (fun W _ _ => ⟨(), W, by go_simp, trivial, Below.refl _ _⟩) (fun i3 hs3 => ?_)
      repeat (with_reducible refine wpC_q (by decide) (by decide) (fun K hK => ?_); go_simp; (try rw [if_neg (by simp [undef])]); refine hK _ ?_; clear hK K)
      with_reducible refine wpC_vg (ι := Unit) (fun _ => .bool false) (fun _ _ => True) (by decide) (by decide) (by go_simp) hs3 (fun _ => stable_true) (fun W _ _ => ⟨(), W, by go_simp, trivial, Below.refl _ _⟩) (fun i4 hs4 => ?_)
      repeat (with_reducible refine wpC_q (by decide) (by decide) (fun K hK => ?_); go_simp; (try rw [if_neg (by simp [undef])]); refine hK _ ?_; clear hK K)
      with_reducible refine wpC_vg (ι := Unit) (fun _ => .bool false) (fun _ _ => True) (by decide) (by decide) (by go_simp) hs4 (fun _ => stable_true) (fun W _ _ => ⟨(), W, by go_simp, trivial, Below.refl _ _⟩) (fun i5 hs5 => ?_)
      repeat (with_reducible refine wpC_q (by decide) (by decide) (fun K hK => ?_); go_simp; (try rw [if_neg (by simp [undef])]); refine hK _ ?_; clear hK K)
      with_reducible refine wpC_vg (ι := Unit) (fun _ => .bool true) (fun _ _ => True) (by decide) (by decide) (by go_simp) hs5 (fun _ => stable_true) (fun W _ _ => ⟨(), W, by go_simp, trivial, Below.refl _ _⟩) (fun i6 hs6 => ?_)
      repeat (with_reducible refine wpC_q (by decide) (by decide) (fun K hK => ?_); go_simp; (try rw [if_neg (by simp [undef])]); refine hK _ ?_; clear hK K)
      refine wpC_nil ?_
      intro w2 hb2 _
      clear x0 x1 x2 y0 y1 y2 HLn HG HN hs0 hs1 hs2 hs3 hs4 hs5 hs6
      go_wp2_with fail
      go_roundw
      case rel => exact ⟨m + 1, by omega, by go_num, hbw.trans (hb2.mono hbw.size), hs'⟩
      case measure => simp [intOf]; omega
    have hg : decide ((0 : Int) < (m : Int)) = false := by simp; omega
    have hs' := Lib.hid (hstep.out ⟨e1, f1, f2, f3, fun d' h' => absurd h' hm0⟩)
    clear e1 f1 f2 f3 cdb
    clear hno hstep
    refine wp_region_ch 37 [3, 4, 6, 11, 18, 23, 26] hmo (by kernel_rfl) ?_
    simp only [List.take_succ_cons, List.take_zero, List.drop_succ_cons, List.drop_zero]
    repeat (with_reducible refine wpC_q (by decide) (by decide) (fun K hK => ?_); go_simp; (try rw [if_neg (by simp [undef])]); refine hK _ ?_; clear hK K)
    with_reducible refine wpC_cg (ι := Unit) 23 #[.agg #[.slice pa pn pc, .slice ca cn cc, .slice ja jn jc]] (fun _ => .int .i64 (sumL R.ps)) (fun _ _ => True) (by decide) (by decide) (by go_simp) (fun w => by go_simp) stable_true (fun _ => stable_true) (fun W hW _ => ?_) (fun i0 hs0 => ?_)
    · obtain ⟨pp, rfl⟩ := hW
      refine (HLn.out _ (HG.out _ _)).mono ?_
      rintro e w' ⟨rfl, hbl⟩
      exact ⟨(), rfl, trivial, hbl⟩
    repeat (with_reducible refine wpC_q (by decide) (by decide) (fun K hK => ?_); go_simp; (try rw [if_neg (by simp [undef])]); refine hK _ ?_; clear hK K)
    with_reducible refine wpC_cg (ι := Unit) 65 #[.int .i64 c.place, .int .i64 0, .int .i64 (sumL R.ps)] (fun _ => .bool true) (fun _ _ => True) (by decide) (by decide) (by go_simp) (fun w => by go_simp) hs0 (fun _ => stable_true) (fun W hW _ => ?_) (fun i1 hs1 => ?_)
    · obtain ⟨pp, rfl⟩ := hW
      refine (HN.out _ _ _ _).mono ?_
      rintro e w' ⟨rfl, hbl⟩
      exact ⟨(), by rw [E1.out], trivial, hbl⟩
    repeat (with_reducible refine wpC_q (by decide) (by decide) (fun K hK => ?_); go_simp; (try rw [if_neg (by simp [undef])]); refine hK _ ?_; clear hK K)
    with_reducible refine wpC_vg (ι := Unit) (fun _ => .bool false) (fun _ _ => True) (by decide) (by decide) (by go_simp) hs1 (fun _ => stable_true) (fun W _ _ => ⟨(), W, by go_simp, trivial, Below.refl _ _⟩) (fun i2 hs2 => ?_)
    repeat (with_reducible refine wpC_q (by decide) (by decide) (fun K hK => ?_); go_simp; (try rw [if_neg (by simp [undef])]); refine hK _ ?_; clear hK K)
    with_reducible refine wpC_vg (ι := Unit) (fun _ => .bool false) (fun _ _ => True) (by decide) (by decide) (by go_simp) hs2 (fun _ => stable_true) (fun W _ _ => ⟨(), W, by go_simp, trivial, Below.refl _ _⟩) (fun i3 hs3 => ?_)
    repeat (with_reducible refine wpC_q (by decide) (by decide) (fun K hK => ?_); go_simp; (try rw [if_neg (by simp [undef])]); refine hK _ ?_; clear hK K)
    with_reducible refine wpC_vg (ι := Unit) (fun _ => .bool false) (fun _ _ => True) (by decide) (by decide) (by go_simp) hs3 (fun _ => stable_true) (fun W _ _ => ⟨(), W, by go_simp, trivial, Below.refl _ _⟩) (fun i4 hs4 => ?_)
    repeat (with_reducible refine wpC_q (by decide) (by decide) (fun K hK => ?_); go_simp; (try rw [if_neg (by simp [undef])]); refine hK _ ?_; clear hK K)
    with_reducible refine wpC_vg (ι := Unit) (fun _ => .bool false) (fun _ _ => True) (by decide) (by decide) (by go_simp) hs4 (fun _ => stable_true) (fun W _ _ => ⟨(), W, by go_simp, trivial, Below.refl _ _⟩) (fun i5 hs5 => ?_)
    repeat (with_reducible refine wpC_q (by decide) (by decide) (fun K hK => ?_); go_simp; (try rw [if_neg (by simp [undef])]); refine hK _ ?_; clear hK K)
    with_reducible refine wpC_vg (ι := Unit) (fun _ => .bool false) (fun _ _ => True) (by decide) (by decide) (by go_simp) hs5 (fun _ => stable_true) (fun W _ _ => ⟨(), W, by go_simp, trivial, Below.refl _ _⟩) (fun i6 hs6 => ?_)
    repeat (with_reducible refine wpC_q (by decide) (by decide) (fun K hK => ?_); go_simp; (try rw [if_neg (by simp [undef])]); refine hK _ ?_; clear hK K)
    refine wpC_nil ?_
    intro w2 hb2 _
    clear x0 x1 x2 y0 y1 y2 HLn HG HN hs0 hs1 hs2 hs3 hs4 hs5 hs6
    go_wp2_with fail
    go_roundw
    case rel => exact ⟨m + 1, by omega, by go_num, hbw.trans (hb2.mono hbw.size), hs'⟩
    case measure => simp [intOf]; omega
end Go.Proofs.YtijcbfhlhgjedaaDoor
