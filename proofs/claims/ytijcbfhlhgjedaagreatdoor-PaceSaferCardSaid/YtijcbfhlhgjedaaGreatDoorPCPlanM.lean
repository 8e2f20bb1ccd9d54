/- Calls and plans: the latest plan, or the clash, as a function of the sums of times. No program in sight. -/
import Derived.Test.YtijcbfhlhgjedaaGreatDoorPCBReg7
import Derived.Test.YtijcbfhlhgjedaaGreatDoorPCSpCk
namespace Go.Proofs.YtijcbfhlhgjedaaGreatDoor
open Go.RowKit Go.Shelf Go.Sort Go.Proofs

structure CallR where
  place : Int
  lasts : Int
  lead : Int
  ahead : Int
  value : Int
def caC (c : CallR) : List Value := [.int .i64 c.place, .int .i64 c.lasts, .int .i64 c.lead, .int .i64 c.ahead, .int .i64 c.value]
theorem caC_len (c : CallR) : (caC c).length = 5 := rfl
def maxM : Int := 1125899906842624
/-- The call at i is as defined on a road of n meters. -/
def kAt (n : Int) (cs : List CallR) (i : Nat) : Prop := ∀ c, cs[i]? = some c → inR c.place 0 n = true ∧ inR c.lasts 0 maxM = true ∧ inR c.lead 0 maxM = true ∧ inR c.ahead 0 maxM = true ∧ inR c.value 0 100 = true ∧ ∀ d, 0 < i → cs[i-1]? = some d → d.place ≤ c.place
/-- Calls that are as defined. -/
structure COK (n : Int) (cs : List CallR) : Prop where
  l1 : cs.length ≤ 300
  k : ∀ i, i < cs.length → kAt n cs i
/-- By when a run must be at the trigger, call by call, behind s of reading. -/
def rvs (Q : Int → Int) : Int → List CallR → List Int
  | _, [] => []
  | s, c :: cs => (Q c.place - (s + c.lasts) - c.lead) :: rvs Q (s + c.lasts) cs
theorem rvs_len (Q : Int → Int) : ∀ (s : Int) (cs : List CallR), (rvs Q s cs).length = cs.length
  | _, [] => rfl
  | s, c :: cs => by rw [rvs, List.length_cons, List.length_cons, rvs_len Q _ cs]
def minL (l : List Int) : Int := l.foldl min maxM
theorem minL_le_aux : ∀ (l : List Int) (m x : Int), x ≤ l.foldl min m ↔ x ≤ m ∧ ∀ y ∈ l, x ≤ y
  | [], m, x => by simp
  | y :: l, m, x => by
    rw [List.foldl_cons, minL_le_aux l (min m y) x]
    simp only [List.mem_cons, forall_eq_or_imp]
    rw [Int.le_min]
    exact ⟨fun ⟨⟨a, b⟩, c⟩ => ⟨a, b, c⟩, fun ⟨a, b, c⟩ => ⟨⟨a, b⟩, c⟩⟩
theorem le_minL (l : List Int) (x : Int) : x ≤ minL l ↔ x ≤ maxM ∧ ∀ y ∈ l, x ≤ y := minL_le_aux l maxM x
/-- The first call that would end too late for the start. -/
def lateM (Q : Int → Int) (cs : List CallR) : Option Nat := (rvs Q 0 cs).findIdx? fun r => decide (r < 0)
def roomM (Q : Int → Int) (cs : List CallR) : Int := minL (rvs Q 0 cs)
/-- The greatest number up to n for which f holds; 0, if for none. -/
def lastN (f : Nat → Bool) : Nat → Nat
  | 0 => 0
  | n + 1 => if f (n + 1) = true then n + 1 else lastN f n
theorem lastN_le (f : Nat → Bool) : ∀ n, lastN f n ≤ n
  | 0 => Nat.le_refl _
  | n + 1 => by
    unfold lastN
    split
    · exact Nat.le_refl _
    · exact Nat.le_succ_of_le (lastN_le f n)
theorem lastN_above (f : Nat → Bool) : ∀ n k, lastN f n < k → k ≤ n → f k = false
  | 0, k, h, h' => by simp [lastN] at h; omega
  | n + 1, k, h, h' => by
    unfold lastN at h
    split at h
    · omega
    · rename_i hf
      by_cases e : k = n + 1
      · subst e; exact Bool.eq_false_iff.2 hf
      · exact lastN_above f n k h (by omega)
/-- What the bisection ends with. -/
theorem lastN_eq {f : Nat → Bool} {n k : Nat} (hk : k ≤ n) (h1 : f k = true) (h2 : ∀ j, k < j → j ≤ n → f j = false) : lastN f n = k := by
  rcases Nat.lt_trichotomy (lastN f n) k with h | h | h
  · have := lastN_above f n k h hk; rw [h1] at this; cases this
  · exact h
  · have h3 := h2 _ h (lastN_le f n)
    have h0 : ∀ m, k ≤ m → f (lastN f m) = true := by
      intro m
      induction m with
      | zero =>
        intro hm
        have e : k = 0 := by omega
        rw [e] at h1
        exact h1
      | succ m ih =>
        intro hm
        unfold lastN
        split
        · assumption
        · by_cases e : k = m + 1
          · subst e; rename_i hf; exact absurd h1 hf
          · exact ih (by omega)
    rw [h0 n hk] at h3
    cases h3
structure Clash where
  first : Int
  last : Int
  early : Bool
/-- The trigger of the first of some calls. -/
def trigM (Q : Int → Int) (c : CallR) (cs : List CallR) : Nat := lastN (fun p => decide (Q p ≤ roomM Q (c :: cs))) c.place.toNat
/-- Call by call from number j on: the clash of calls that are too late, or the triggers and the first call that would begin too early. -/
def planA (Q Mo : Int → Int) : Nat → List CallR → Sum (Nat × Nat) (List Int × Option Nat)
  | _, [] => .inr ([], none)
  | j, c :: cs =>
    match lateM Q (c :: cs) with
    | some i => .inl (j, j + i)
    | none =>
      match planA Q Mo (j + 1) cs with
      | .inl x => .inl x
      | .inr (l, e) => .inr ((trigM Q c cs : Int) :: l, if Mo (trigM Q c cs) + c.ahead < Mo c.place then some j else e)
/-- The latest plan, or the clash, and the error. -/
def planR (Q Mo : Int → Int) (cs : List CallR) : List Int × Clash × Int :=
  match planA Q Mo 0 cs with
  | .inl (a, b) => ([], ⟨a, b, false⟩, 5)
  | .inr (l, none) => (l, ⟨0, 0, false⟩, 0)
  | .inr (_, some j) => ([], ⟨j, j, true⟩, 5)
end Go.Proofs.YtijcbfhlhgjedaaGreatDoor

/- A track: the sums of the times of a road's meters, behind a pointer; and what its small methods answer. -/
namespace Go.Proofs.YtijcbfhlhgjedaaGreatDoor
open Go.RowKit Go.Shelf Go.Sort Go.Proofs

def tiC (x : Int × Int) : List Value := [.int .i64 x.1, .int .i64 x.2]
theorem tiC_len (x : Int × Int) : (tiC x).length = 2 := rfl
/-- The sums up to each of the first n places. -/
def tms (S : Spd) (ps : List Piece) (n : Nat) : List (Int × Int) := (List.range n).map fun k => (tQ S ps k, tSl S ps k)
theorem tms_len (S : Spd) (ps : List Piece) (n : Nat) : (tms S ps n).length = n := by simp [tms]
theorem tms_at (S : Spd) (ps : List Piece) (n k : Nat) (h : k < (tms S ps n).length) : (tms S ps n)[k] = (tQ S ps k, tSl S ps k) := by simp [tms]
structure TS (w : World) (B g : Nat) (ta : Option Addr) (tc N : Nat) (S : Spd) (R : Road) : Prop where
  lt : g < B
  c3 : w.cell? ⟨g, 3, none⟩ = some (.slice ta (N + 1) tc)
  t : SL tiC 2 w B ta (N + 1) (tms S R.ps (N + 1))
  n : sumL R.ps = N
theorem TS.grow {w w' : World} {B B' g : Nat} {ta : Option Addr} {tc N : Nat} {S : Spd} {R : Road} (h : TS w B g ta tc N S R) (hb : Below B w w') (hB : B ≤ B') : TS w' B' g ta tc N S R :=
  ⟨Nat.lt_of_lt_of_le h.lt hB, (hb.cell (p := ⟨g, 3, none⟩) h.lt).trans h.c3, h.t.grow hb hB, h.n⟩
theorem TT.at_ {w : World} {B N : Nat} {ta : Option Addr} {S : Spd} {ps : List Piece} (h : SL tiC 2 w B ta (N + 1) (tms S ps (N + 1))) {k : Nat} (hk : k ≤ N) : ∃ b off, ta = some ⟨b, off, none⟩ ∧ b < B ∧
    w.cell? ⟨b, off + k * 2, none⟩ = some (.int .i64 (tQ S ps k)) ∧ w.cell? ⟨b, off + k * 2 + 1, none⟩ = some (.int .i64 (tSl S ps k)) := by
  have hl : k < (tms S ps (N + 1)).length := by rw [tms_len]; omega
  obtain ⟨b, off, e, hb, hc⟩ := h.at_ hl
  rw [tms_at] at hc
  exact ⟨b, off, e, hb, hc 0 _ rfl, hc 1 _ rfl⟩
theorem take_bd {R : Road} (hv : OK R) {f : Piece → Int} {hi : Int} (h0 : 0 ≤ hi) (h : ∀ p ∈ units R.ps, 0 ≤ f p ∧ f p ≤ hi) (k : Nat) : 0 ≤ (((units R.ps).take k).map f).sum ∧ (((units R.ps).take k).map f).sum ≤ hi * 100000 := by
  have h1 := sum_bd (l := (units R.ps).take k) (f := f) (lo := 0) (hi := hi) (fun p hp => h p (List.mem_of_mem_take hp))
  have h2 : ((units R.ps).take k).length ≤ (units R.ps).length := by rw [List.length_take]; omega
  have h3 := units_nat hv.pk
  have h4 := hv.n1
  have h5 : hi * (((units R.ps).take k).length : Int) ≤ hi * 100000 := Int.mul_le_mul_of_nonneg_left (by omega) h0
  have h6 : (0 : Int) * (((units R.ps).take k).length : Int) = 0 := Int.zero_mul _
  omega
theorem tQ_bd {S : Spd} {R : Road} (hS : SOK S) (hv : OK R) (k : Nat) : 0 ≤ tQ S R.ps k ∧ tQ S R.ps k ≤ 1000000000000 :=
  take_bd hv (hi := 10000000) (by decide) (fun p hp => mQ_bd hS (units_ok hv.pk p hp)) k
theorem tSl_bd {S : Spd} {R : Road} (hS : SOK S) (hv : OK R) (k : Nat) : 0 ≤ tSl S R.ps k ∧ tSl S R.ps k ≤ 1000070000000 :=
  take_bd hv (hi := 10000700) (by decide) (fun p hp => by have := mSl_bd hS (units_ok hv.pk p hp); omega) k
theorem tlen_any (g : Nat) (ta : Option Addr) (tc N : Nat) (S : Spd) (R : Road) (w : World) (h : TS w w.heap.size g ta tc N S R) (hN : N ≤ 1000000) :
    Calls Tryz.prog 80 #[.pointer (some ⟨g, 0, none⟩)] w fun e w' => e = .returned (.int .i64 N) ∧ w = w' := by
  have hl := h.lt
  have c3 := h.c3
  clear h
  go_enter Tryz.func80, Tryz.ntmps80
  go_wp2_with fail
  go_ret
  exact ⟨ret_int (by simp), rfl⟩
theorem place_any (p : Int) (g : Nat) (ta : Option Addr) (tc N : Nat) (S : Spd) (R : Road) (w : World) (h : TS w w.heap.size g ta tc N S R) (hN : N ≤ 1000000) :
    Calls Tryz.prog 39 #[.pointer (some ⟨g, 0, none⟩), .int .i64 p] w fun e w' => e = .returned (.bool (inR p 0 N)) ∧ w = w' := by
  have HT := Lib.hid h
  clear h
  go_enter Tryz.func39, Tryz.ntmps39
  go_wp2_with fail
  refine (tlen_any g ta tc N S R _ HT.out hN).mono ?_
  rintro e w' ⟨rfl, rfl⟩
  go_wp2_with fail
  refine (pwithin_any _ _ _ _).mono ?_
  rintro e w' ⟨rfl, rfl⟩
  go_wp2_with fail
  go_ret
  exact ⟨rfl, rfl⟩
set_option maxRecDepth 100000 in
theorem between0_any (a b : Nat) (g : Nat) (ta : Option Addr) (tc N : Nat) (S : Spd) (R : Road) (w : World) (h : TS w w.heap.size g ta tc N S R) (hS : SOK S) (hv : OK R) (ha : a ≤ N) (hb : b ≤ N) :
    Calls Tryz.prog 40 #[.pointer (some ⟨g, 0, none⟩), .int .i64 0, .int .i64 a, .int .i64 b] w fun e w' => e = .returned (.int .i64 (tQ S R.ps b - tQ S R.ps a)) ∧ ∃ m, w' = w.drewN m := by
  have hl := h.lt
  have c3 := h.c3
  have hN : N ≤ 100000 := by have := h.n; have := hv.n1; omega
  obtain ⟨b1, o1, hA, hb1, q0, q1⟩ := TT.at_ h.t ha
  obtain ⟨b2, o2, hA2, hb2, r0, r1⟩ := TT.at_ h.t hb
  have x1 := tQ_bd hS hv a
  have x2 := tQ_bd hS hv b
  generalize tQ S R.ps a = u at *
  generalize tQ S R.ps b = v at *
  obtain ⟨x3, x4⟩ := x1
  obtain ⟨x5, x6⟩ := x2
  clear h hS hv
  subst hA
  cases hA2
  have i1 : (0 : Int) ≤ (a : Int) := by omega
  have i2 : (a : Int) < (N : Int) + 1 := by omega
  have i3 : (0 : Int) ≤ (b : Int) := by omega
  have i4 : (b : Int) < (N : Int) + 1 := by omega
  go_enter Tryz.func40, Tryz.ntmps40
  go_wp2_with fail
  go_quiet (fail)
  go_wp2_with fail
  go_ret
  exact ⟨rfl, _, rfl⟩
set_option maxRecDepth 100000 in
theorem between1_any (a b : Nat) (g : Nat) (ta : Option Addr) (tc N : Nat) (S : Spd) (R : Road) (w : World) (h : TS w w.heap.size g ta tc N S R) (hS : SOK S) (hv : OK R) (ha : a ≤ N) (hb : b ≤ N) :
    Calls Tryz.prog 40 #[.pointer (some ⟨g, 0, none⟩), .int .i64 1, .int .i64 a, .int .i64 b] w fun e w' => e = .returned (.int .i64 (tSl S R.ps b - tSl S R.ps a)) ∧ ∃ m, w' = w.drewN m := by
  have hl := h.lt
  have c3 := h.c3
  have hN : N ≤ 100000 := by have := h.n; have := hv.n1; omega
  obtain ⟨b1, o1, hA, hb1, q0, q1⟩ := TT.at_ h.t ha
  obtain ⟨b2, o2, hA2, hb2, r0, r1⟩ := TT.at_ h.t hb
  have x1 := tSl_bd hS hv a
  have x2 := tSl_bd hS hv b
  generalize tSl S R.ps a = u at *
  generalize tSl S R.ps b = v at *
  obtain ⟨x3, x4⟩ := x1
  obtain ⟨x5, x6⟩ := x2
  clear h hS hv
  subst hA
  cases hA2
  have i1 : (0 : Int) ≤ (a : Int) := by omega
  have i2 : (a : Int) < (N : Int) + 1 := by omega
  have i3 : (0 : Int) ≤ (b : Int) := by omega
  have i4 : (b : Int) < (N : Int) + 1 := by omega
  go_enter Tryz.func40, Tryz.ntmps40
  go_wp2_with fail
  go_quiet (fail)
  go_wp2_with fail
  go_ret
  exact ⟨rfl, _, rfl⟩
end Go.Proofs.YtijcbfhlhgjedaaGreatDoor
