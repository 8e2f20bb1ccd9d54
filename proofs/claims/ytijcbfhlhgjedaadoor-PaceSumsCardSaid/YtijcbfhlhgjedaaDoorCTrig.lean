/- The track's test of triggers: whether a list is in order, on the road, and as long as the calls. -/
import Derived.Test.YtijcbfhlhgjedaaDoorCCallsB
namespace Go.Proofs.YtijcbfhlhgjedaaDoor
open Go.RowKit Go.Shelf Go.Sort Go.Proofs

def gAt (n : Int) (ls : List Int) (i : Nat) : Prop := ∀ x, ls[i]? = some x → inR x 0 n = true ∧ ∀ y, 0 < i → ls[i-1]? = some y → y ≤ x
/-- Triggers that are as defined for m calls. -/
structure TOK (n : Int) (m : Nat) (ls : List Int) : Prop where
  l : ls.length = m
  t : ∀ i, i < ls.length → gAt n ls i
def gAtB (n : Int) (ls : List Int) (i : Nat) : Bool := (ls[i]?).all fun x => inR x 0 n && (i == 0 || (ls[i-1]?).all fun y => decide (y ≤ x))
theorem gAtB_iff (n : Int) (ls : List Int) (i : Nat) : gAtB n ls i = true ↔ gAt n ls i := by
  unfold gAtB gAt
  simp only [Option.all_eq_true, Bool.and_eq_true, Bool.or_eq_true, decide_eq_true_eq, beq_iff_eq]
  constructor
  · intro h c hc
    obtain ⟨a1, d⟩ := h c hc
    exact ⟨a1, fun e hi he => (d.resolve_left (by omega)) e he⟩
  · intro h c hc
    obtain ⟨a1, d⟩ := h c hc
    exact ⟨a1, (Nat.eq_zero_or_pos i).imp id fun hi e he => d e hi he⟩
def trB (n : Int) (m : Nat) (ls : List Int) : Bool := (List.range ls.length).all (gAtB n ls) && decide (ls.length = m)
theorem trB_iff (n : Int) (m : Nat) (ls : List Int) : trB n m ls = true ↔ TOK n m ls := by
  unfold trB
  simp only [Bool.and_eq_true, decide_eq_true_eq, List.all_eq_true, List.mem_range, gAtB_iff]
  exact ⟨fun ⟨a, b⟩ => ⟨b, a⟩, fun ⟨a, b⟩ => ⟨b, a⟩⟩
theorem trB_ok {n : Int} {m : Nat} {ls : List Int} (h : TOK n m ls) : trB n m ls = true := (trB_iff n m ls).2 h
theorem trB_bad {n : Int} {m : Nat} {ls : List Int} (h : ¬ TOK n m ls) : trB n m ls = false := by rw [Bool.eq_false_iff]; exact fun q => h ((trB_iff n m ls).1 q)
set_option maxRecDepth 100000 in
set_option maxHeartbeats 4000000 in
theorem trig_any (ka : Option Addr) (kn kc : Nat) (la : Option Addr) (ln lc : Nat) (ls : List Int) (g : Nat) (ta : Option Addr) (tc N : Nat) (S : Spd) (R : Road) (w : World) (h : TS w w.heap.size g ta tc N S R)
    (hk : SL iC 1 w w.heap.size la ln ls) (hN : N ≤ 1000000) (hln : ln ≤ 100000) :
    Calls Tryd.prog 80 #[.pointer (some ⟨g, 0, none⟩), .slice ka kn kc, .slice la ln lc] w fun e w' => e = .returned (.bool (trB N kn ls)) ∧ w = w' := by
  have HT := Lib.hid h
  have HK := Lib.hid hk
  have HL := Lib.hid hk.1
  clear h hk
  go_enter Tryd.func80, Tryd.ntmps80
  go_wp2_with fail
  go_loopw [11] (fun i wr => ∃ k : Nat, k ≤ ln ∧ i = .int .i64 k ∧ wr = w ∧ Hid (∀ i, i < k → gAt N ls i))
    (fun i _ => ln - (intOf i).toNat)
  case atStart => exact ⟨0, Nat.zero_le _, rfl, rfl, by simp [Hid]⟩
  case round =>
    obtain ⟨m, hm, rfl, rfl, hall⟩ := hrel
    by_cases hlt : m < ln
    · have hkl : m < ls.length := by rw [← HL.out]; exact hlt
      obtain ⟨b, off, hA, hbB, c0⟩ := IS.at_ HK.out (k := m) hkl
      have hstep : Hid (∀ (hh : inR ls[m] 0 N = true ∧ ∀ d, 0 < m → ls[m-1]? = some d → d ≤ ls[m]), ∀ i, i < m + 1 → gAt N ls i) := by
        intro hh i hi
        rcases Nat.lt_or_ge i m with h | h
        · exact hall.out i h
        · obtain rfl : i = m := by omega
          intro c hc
          rw [List.getElem?_eq_getElem hkl] at hc
          cases hc
          exact hh
      have hno : Hid (∀ (hh : ¬ (inR ls[m] 0 N = true ∧ ∀ d, 0 < m → ls[m-1]? = some d → d ≤ ls[m])), trB N kn ls = false) := by
        intro hh
        exact trB_bad (fun q => hh (q.t m hkl _ (List.getElem?_eq_getElem hkl)))
      have hprev : 0 < m → ∃ d, Hid (ls[m-1]? = some d) ∧ wr.cell? ⟨b, off + (m-1), none⟩ = some (.int .i64 d) := by
        intro h0
        obtain ⟨b2, off2, hA2, _, c02⟩ := IS.at_ HK.out (k := m - 1) (by omega)
        rw [hA] at hA2
        cases hA2
        exact ⟨ls[m-1], List.getElem?_eq_getElem (by omega), c02⟩
      generalize ls[m]'hkl = c at c0 hstep hno
      clear hkl hall
      have hm1 : (0 : Int) ≤ (m : Int) := by omega
      have hm2 : (m : Int) < (ln : Int) := by omega
      subst hA
      cases e1 : inR c 0 N
      case false =>
        have hc := Lib.hid (hno.out (by simp [e1]))
        have HE := Lib.hid e1
        clear hno hstep hprev e1
        go_wp2_with (go_at_call 59; refine (place_any _ g ta tc N S R _ HT.out hN).mono ?_; rintro e w' ⟨rfl, rfl⟩; rw [HE.out])
        go_ret
        exact ⟨ret_bool hc.out.symm, by trivial⟩
      have HE := Lib.hid e1
      by_cases hm0 : 0 < m
      case pos =>
        obtain ⟨d, hd, cd⟩ := hprev hm0
        have hg : decide ((0 : Int) < (m : Int)) = true := by simp; omega
        by_cases hlt2 : c < d
        case pos =>
          have g3 : decide (c < d) = true := by simpa using hlt2
          have hc := Lib.hid (hno.out (by rintro ⟨-, h⟩; have := h d hm0 hd.out; omega))
          clear hno hstep hprev e1
          go_wp2_with (go_at_call 59; refine (place_any _ g ta tc N S R _ HT.out hN).mono ?_; rintro e w' ⟨rfl, rfl⟩; rw [HE.out])
          go_ret
          exact ⟨ret_bool hc.out.symm, by trivial⟩
        have g3 : decide (c < d) = false := by simpa using hlt2
        have hs' := Lib.hid (hstep.out ⟨e1, fun d' _ h' => by rw [hd.out] at h'; cases h'; omega⟩)
        clear hno hstep hprev e1
        go_wp2_with (go_at_call 59; refine (place_any _ g ta tc N S R _ HT.out hN).mono ?_; rintro e w' ⟨rfl, rfl⟩; rw [HE.out])
        go_roundw
        case rel => exact ⟨m + 1, by omega, by go_num, by trivial, hs'⟩
        case measure => simp [intOf]; omega
      have hg : decide ((0 : Int) < (m : Int)) = false := by simp; omega
      have hs' := Lib.hid (hstep.out ⟨e1, fun d' h' => absurd h' hm0⟩)
      clear hno hstep hprev e1
      go_wp2_with (go_at_call 59; refine (place_any _ g ta tc N S R _ HT.out hN).mono ?_; rintro e w' ⟨rfl, rfl⟩; rw [HE.out])
      go_roundw
      case rel => exact ⟨m + 1, by omega, by go_num, by trivial, hs'⟩
      case measure => simp [intOf]; omega
    · obtain rfl : m = ln := by omega
      have hend : Hid (trB N kn ls = ((m : Int) == (kn : Int))) := by
        show _ = _
        by_cases h3 : m = kn
        · rw [trB_ok ⟨by rw [← HL.out]; exact h3, fun i hi => hall.out i (by rw [HL.out]; exact hi)⟩]; simp [h3]
        · rw [trB_bad (fun q => h3 (by have := q.l; rw [← HL.out] at this; exact this))]; simp; omega
      go_wp2_with fail
      go_ret
      exact ⟨ret_bool hend.out.symm, by trivial⟩
end Go.Proofs.YtijcbfhlhgjedaaDoor
