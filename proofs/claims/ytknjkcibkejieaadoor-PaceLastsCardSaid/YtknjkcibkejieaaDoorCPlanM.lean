/- Calls and plans: the latest plan, or the clash, as a function of the sums of times. No program in sight. -/
import Derived.Test.YtknjkcibkejieaaDoorCSpd
namespace Go.Proofs.YtknjkcibkejieaaDoor
open Go.RowKit Go.Shelf Go.Sort Go.Proofs

structure CallR where
  place : Int
  lasts : Int
  lead : Int
  ahead : Int
  value : Int
def caC (c : CallR) : List Value := [.int .i64 c.place, .int .i64 c.lasts, .int .i64 c.lead, .int .i64 c.ahead, .int .i64 c.value]
theorem caC_len (c : CallR) : (caC c).length = 5 := rfl
def maxM : Int := 1125899906842624
/-- The call at i is as defined on a road of n meters. -/
def kAt (n : Int) (cs : List CallR) (i : Nat) : Prop := ∀ c, cs[i]? = some c → inR c.place 0 n = true ∧ inR c.lasts 0 maxM = true ∧ inR c.lead 0 maxM = true ∧ inR c.ahead 0 maxM = true ∧ inR c.value 0 100 = true ∧ ∀ d, 0 < i → cs[i-1]? = some d → d.place ≤ c.place
/-- Calls that are as defined. -/
structure COK (n : Int) (cs : List CallR) : Prop where
  l1 : cs.length ≤ 300
  k : ∀ i, i < cs.length → kAt n cs i
/-- By when a run must be at the trigger, call by call, behind s of reading. -/
def rvs (Q : Int → Int) : Int → List CallR → List Int
  | _, [] => []
  | s, c :: cs => (Q c.place - (s + c.lasts) - c.lead) :: rvs Q (s + c.lasts) cs
theorem rvs_len (Q : Int → Int) : ∀ (s : Int) (cs : List CallR), (rvs Q s cs).length = cs.length
  | _, [] => rfl
  | s, c :: cs => by rw [rvs, List.length_cons, List.length_cons, rvs_len Q _ cs]
def minL (l : List Int) : Int := l.foldl min maxM
theorem minL_le_aux : ∀ (l : List Int) (m x : Int), x ≤ l.foldl min m ↔ x ≤ m ∧ ∀ y ∈ l, x ≤ y
  | [], m, x => by simp
  | y :: l, m, x => by
    rw [List.foldl_cons, minL_le_aux l (min m y) x]
    simp only [List.mem_cons, forall_eq_or_imp]
    rw [Int.le_min]
    exact ⟨fun ⟨⟨a, b⟩, c⟩ => ⟨a, b, c⟩, fun ⟨a, b, c⟩ => ⟨⟨a, b⟩, c⟩⟩
theorem le_minL (l : List Int) (x : Int) : x ≤ minL l ↔ x ≤ maxM ∧ ∀ y ∈ l, x ≤ y := minL_le_aux l maxM x
/-- The first call that would end too late for the start. -/
def lateM (Q : Int → Int) (cs : List CallR) : Option Nat := (rvs Q 0 cs).findIdx? fun r => decide (r < 0)
def roomM (Q : Int → Int) (cs : List CallR) : Int := minL (rvs Q 0 cs)
/-- The greatest number up to n for which f holds; 0, if for none. -/
def lastN (f : Nat → Bool) : Nat → Nat
  | 0 => 0
  | n + 1 => if f (n + 1) = true then n + 1 else lastN f n
theorem lastN_le (f : Nat → Bool) : ∀ n, lastN f n ≤ n
  | 0 => Nat.le_refl _
  | n + 1 => by
    unfold lastN
    split
    · exact Nat.le_refl _
    · exact Nat.le_succ_of_le (lastN_le f n)
theorem lastN_holds (f : Nat → Bool) (h0 : f 0 = true) : ∀ n, f (lastN f n) = true
  | 0 => h0
  | n + 1 => by
    unfold lastN
    split
    · assumption
    · exact lastN_holds f h0 n
theorem lastN_above (f : Nat → Bool) : ∀ n k, lastN f n < k → k ≤ n → f k = false
  | 0, k, h, h' => by simp [lastN] at h; omega
  | n + 1, k, h, h' => by
    unfold lastN at h
    split at h
    · omega
    · rename_i hf
      by_cases e : k = n + 1
      · subst e; exact Bool.eq_false_iff.2 hf
      · exact lastN_above f n k h (by omega)
/-- What the bisection ends with. -/
theorem lastN_eq {f : Nat → Bool} {n k : Nat} (hk : k ≤ n) (h1 : f k = true) (h2 : ∀ j, k < j → j ≤ n → f j = false) : lastN f n = k := by
  rcases Nat.lt_trichotomy (lastN f n) k with h | h | h
  · have := lastN_above f n k h hk; rw [h1] at this; cases this
  · exact h
  · have h3 := h2 _ h (lastN_le f n)
    have h0 : ∀ m, k ≤ m → f (lastN f m) = true := by
      intro m
      induction m with
      | zero =>
        intro hm
        have e : k = 0 := by omega
        rw [e] at h1
        exact h1
      | succ m ih =>
        intro hm
        unfold lastN
        split
        · assumption
        · by_cases e : k = m + 1
          · subst e; rename_i hf; exact absurd h1 hf
          · exact ih (by omega)
    rw [h0 n hk] at h3
    cases h3
structure Clash where
  first : Int
  last : Int
  early : Bool
/-- The trigger of the first of some calls. -/
def trigM (Q : Int → Int) (c : CallR) (cs : List CallR) : Nat := lastN (fun p => decide (Q p ≤ roomM Q (c :: cs))) c.place.toNat
/-- Call by call from number j on: the clash of calls that are too late, or the triggers and the first call that would begin too early. -/
def planA (Q Mo : Int → Int) : Nat → List CallR → Sum (Nat × Nat) (List Int × Option Nat)
  | _, [] => .inr ([], none)
  | j, c :: cs =>
    match lateM Q (c :: cs) with
    | some i => .inl (j, j + i)
    | none =>
      match planA Q Mo (j + 1) cs with
      | .inl x => .inl x
      | .inr (l, e) => .inr ((trigM Q c cs : Int) :: l, if Mo (trigM Q c cs) + c.ahead < Mo c.place then some j else e)
/-- The latest plan, or the clash, and the error. -/
def planR (Q Mo : Int → Int) (cs : List CallR) : List Int × Clash × Int :=
  match planA Q Mo 0 cs with
  | .inl (a, b) => ([], ⟨a, b, false⟩, 5)
  | .inr (l, none) => (l, ⟨0, 0, false⟩, 0)
  | .inr (_, some j) => ([], ⟨j, j, true⟩, 5)
end Go.Proofs.YtknjkcibkejieaaDoor
