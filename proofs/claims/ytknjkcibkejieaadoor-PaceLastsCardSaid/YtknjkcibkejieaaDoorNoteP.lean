/- Notes, plain: which notes are valid, the text of a valid note (ASCII), how long a text takes. -/
import Derived.Lib.ItoaLen
namespace Go.Proofs.YtknjkcibkejieaaDoor
open Go.Lib
/-- A note: ten numbers. -/
structure NoteR where
  k : Int
  tu : Int
  gr : Int
  lo : Int
  ch : Int
  ton : Int
  me : Int
  si : Int
  wa : Int
  ar : Int
/-- Which notes are valid. -/
def nCor (n : NoteR) : Prop := (n.tu = -1 ∨ n.tu = 1) ∧ (1 ≤ n.gr ∧ n.gr ≤ 9) ∧ (-1 ≤ n.lo ∧ n.lo ≤ 1) ∧ ((n.ch = 0 ∧ n.ton = 0) ∨ (n.ch = -1 ∧ n.gr + 1 ≤ n.ton ∧ n.ton ≤ 9) ∨ (n.ch = 1 ∧ 1 ≤ n.ton ∧ n.ton ≤ n.gr - 1))
def nNoCor (n : NoteR) : Prop := n.tu = 0 ∧ n.gr = 0 ∧ n.lo = 0 ∧ n.ch = 0 ∧ n.ton = 0
instance (n : NoteR) : Decidable (nCor n) := by unfold nCor; infer_instance
instance (n : NoteR) : Decidable (nNoCor n) := by unfold nNoCor; infer_instance
def nVal (n : NoteR) : Bool :=
  if n.k = 1 then decide (nCor n ∧ n.me = 0 ∧ n.si = 0 ∧ n.wa = 0 ∧ n.ar = 0)
  else if n.k = 2 then decide (nNoCor n ∧ 1 ≤ n.me ∧ n.me ≤ 9999 ∧ n.si = 0 ∧ n.wa = 0 ∧ n.ar = 0)
  else if n.k = 3 ∨ n.k = 4 then decide (nNoCor n ∧ n.me = 0 ∧ n.si = 0 ∧ n.wa = 0 ∧ n.ar = 0)
  else if n.k = 5 ∨ n.k = 6 then decide (nNoCor n ∧ n.me = 0 ∧ 1 ≤ n.si ∧ n.si ≤ 3 ∧ n.wa = 0 ∧ n.ar = 0)
  else if n.k = 7 then decide (nNoCor n ∧ n.me = 0 ∧ n.si = 0 ∧ 2 ≤ n.ar ∧ n.ar ≤ 6 ∧ 1 ≤ n.wa ∧ n.wa ≤ n.ar)
  else false
section
variable (tu gr lo ch ton me si wa ar : Int)
theorem nVal1 : nVal ⟨1, tu, gr, lo, ch, ton, me, si, wa, ar⟩ = true ↔ ((tu = -1 ∨ tu = 1) ∧ (1 ≤ gr ∧ gr ≤ 9) ∧ (-1 ≤ lo ∧ lo ≤ 1) ∧ ((ch = 0 ∧ ton = 0) ∨ (ch = -1 ∧ gr + 1 ≤ ton ∧ ton ≤ 9) ∨ (ch = 1 ∧ 1 ≤ ton ∧ ton ≤ gr - 1))) ∧ me = 0 ∧ si = 0 ∧ wa = 0 ∧ ar = 0 := decide_eq_true_iff
theorem nVal2 : nVal ⟨2, tu, gr, lo, ch, ton, me, si, wa, ar⟩ = true ↔ (tu = 0 ∧ gr = 0 ∧ lo = 0 ∧ ch = 0 ∧ ton = 0) ∧ 1 ≤ me ∧ me ≤ 9999 ∧ si = 0 ∧ wa = 0 ∧ ar = 0 := decide_eq_true_iff
theorem nVal3 : nVal ⟨3, tu, gr, lo, ch, ton, me, si, wa, ar⟩ = true ↔ (tu = 0 ∧ gr = 0 ∧ lo = 0 ∧ ch = 0 ∧ ton = 0) ∧ me = 0 ∧ si = 0 ∧ wa = 0 ∧ ar = 0 := decide_eq_true_iff
theorem nVal4 : nVal ⟨4, tu, gr, lo, ch, ton, me, si, wa, ar⟩ = true ↔ (tu = 0 ∧ gr = 0 ∧ lo = 0 ∧ ch = 0 ∧ ton = 0) ∧ me = 0 ∧ si = 0 ∧ wa = 0 ∧ ar = 0 := decide_eq_true_iff
theorem nVal5 : nVal ⟨5, tu, gr, lo, ch, ton, me, si, wa, ar⟩ = true ↔ (tu = 0 ∧ gr = 0 ∧ lo = 0 ∧ ch = 0 ∧ ton = 0) ∧ me = 0 ∧ 1 ≤ si ∧ si ≤ 3 ∧ wa = 0 ∧ ar = 0 := decide_eq_true_iff
theorem nVal6 : nVal ⟨6, tu, gr, lo, ch, ton, me, si, wa, ar⟩ = true ↔ (tu = 0 ∧ gr = 0 ∧ lo = 0 ∧ ch = 0 ∧ ton = 0) ∧ me = 0 ∧ 1 ≤ si ∧ si ≤ 3 ∧ wa = 0 ∧ ar = 0 := decide_eq_true_iff
theorem nVal7 : nVal ⟨7, tu, gr, lo, ch, ton, me, si, wa, ar⟩ = true ↔ (tu = 0 ∧ gr = 0 ∧ lo = 0 ∧ ch = 0 ∧ ton = 0) ∧ me = 0 ∧ si = 0 ∧ 2 ≤ ar ∧ ar ≤ 6 ∧ 1 ≤ wa ∧ wa ≤ ar := decide_eq_true_iff
theorem nVal0 (k : Int) (m1 : ¬k = 1) (m2 : ¬k = 2) (m3 : ¬k = 3) (m4 : ¬k = 4) (m5 : ¬k = 5) (m6 : ¬k = 6) (m7 : ¬k = 7) : nVal ⟨k, tu, gr, lo, ch, ton, me, si, wa, ar⟩ = false := by
  simp [nVal, *]
end
def nbs (l : List UInt8) : ByteArray := ⟨l.toArray⟩
theorem nbs_size (t : List UInt8) : (nbs t).size = t.length := by simp [nbs, ByteArray.size]
theorem nbs_get (t : List UInt8) (p : Nat) (h : p < (nbs t).size) : t[p]? = some ((nbs t)[p]'h) := by
  have h' : p < t.length := by rw [← nbs_size]; exact h
  rw [List.getElem?_eq_getElem h']
  rfl
/-- The text of a note. -/
def nTxt (n : NoteR) : List UInt8 :=
  if n.k = 1 then (if n.tu < 0 then [76] else [82]) ++ itoa n.gr ++ (if n.lo < 0 then [32, 115, 104, 111, 114, 116] else if 0 < n.lo then [32, 108, 111, 110, 103] else []) ++ (if n.ch < 0 then [32, 111, 112, 101, 110, 115, 32] ++ itoa n.ton else if 0 < n.ch then [32, 116, 105, 103, 104, 116, 101, 110, 115, 32] ++ itoa n.ton else [])
  else if n.k = 2 then itoa n.me
  else if n.k = 3 then [105, 110, 116, 111]
  else if n.k = 4 then [97, 110, 100]
  else if n.k = 5 then (if n.si = 1 then [99, 114, 101, 115, 116] else if n.si = 2 then [106, 117, 109, 112] else [98, 105, 103, 106, 117, 109, 112])
  else if n.k = 6 then (if n.si = 1 then [33] else if n.si = 2 then [33, 33] else [33, 33, 33])
  else [106, 117, 110, 99, 116, 105, 111, 110, 32] ++ itoa n.wa ++ [32, 111, 102, 32] ++ itoa n.ar
/-- ASCII. -/
def asc (l : List UInt8) : Prop := ∀ b ∈ l, b < 128
theorem asc_append {a b : List UInt8} (ha : asc a) (hb : asc b) : asc (a ++ b) := fun x hx => by
  rcases List.mem_append.1 hx with h | h
  · exact ha x h
  · exact hb x h
theorem asc_digit (u : Nat) (h : u < 10) : UInt8.ofNat (48 + u) < 128 := by
  have : ∀ v : Fin 10, UInt8.ofNat (48 + v.val) < 128 := by decide
  exact this ⟨u, h⟩
theorem asc_dec (u : Nat) : asc (decDigits u) := by
  induction u using Nat.strongRecOn with
  | ind u ih =>
    rw [decDigits]
    split
    · rename_i h
      intro b hb
      rw [List.mem_singleton] at hb
      rw [hb]
      exact asc_digit u h
    · rename_i h
      refine asc_append (ih _ (by omega)) ?_
      intro b hb
      rw [List.mem_singleton] at hb
      rw [hb]
      exact asc_digit _ (by omega)
theorem asc_itoa (n : Int) : asc (itoa n) := by
  unfold itoa
  split
  · intro b hb
    rcases List.mem_cons.1 hb with rfl | h
    · decide
    · exact asc_dec _ b h
  · exact asc_dec _
theorem asc_nTxt (n : NoteR) : asc (nTxt n) := by
  have h0 : ∀ l : List UInt8, (l.all fun b => decide (b < 128)) = true → asc l := fun l h b hb => by simpa using List.all_eq_true.1 h b hb
  unfold nTxt
  have hi := asc_itoa
  split
  · refine asc_append (asc_append (asc_append ?_ (hi _)) ?_) ?_
    · split <;> exact h0 _ (by decide)
    · split
      · exact h0 _ (by decide)
      · split <;> exact h0 _ (by decide)
    · split
      · exact asc_append (h0 _ (by decide)) (hi _)
      · split
        · exact asc_append (h0 _ (by decide)) (hi _)
        · exact h0 _ (by decide)
  · split
    · exact hi _
    · split
      · exact h0 _ (by decide)
      · split
        · exact h0 _ (by decide)
        · split
          · split
            · exact h0 _ (by decide)
            · split <;> exact h0 _ (by decide)
          · split
            · split
              · exact h0 _ (by decide)
              · split <;> exact h0 _ (by decide)
            · exact asc_append (asc_append (asc_append (h0 _ (by decide)) (hi _)) (h0 _ (by decide))) (hi _)
/-- The numbers of a note are ints. -/
def nIn (n : NoteR) : Prop := ∀ x ∈ [n.k, n.tu, n.gr, n.lo, n.ch, n.ton, n.me, n.si, n.wa, n.ar], -9223372036854775808 ≤ x ∧ x ≤ 9223372036854775807
theorem nIn.all {n : NoteR} (h : nIn n) : (-9223372036854775808 ≤ n.k ∧ n.k ≤ 9223372036854775807) ∧ (-9223372036854775808 ≤ n.tu ∧ n.tu ≤ 9223372036854775807) ∧ (-9223372036854775808 ≤ n.gr ∧ n.gr ≤ 9223372036854775807) ∧ (-9223372036854775808 ≤ n.lo ∧ n.lo ≤ 9223372036854775807) ∧ (-9223372036854775808 ≤ n.ch ∧ n.ch ≤ 9223372036854775807) ∧ (-9223372036854775808 ≤ n.ton ∧ n.ton ≤ 9223372036854775807) ∧ (-9223372036854775808 ≤ n.me ∧ n.me ≤ 9223372036854775807) ∧ (-9223372036854775808 ≤ n.si ∧ n.si ≤ 9223372036854775807) ∧ (-9223372036854775808 ≤ n.wa ∧ n.wa ≤ 9223372036854775807) ∧ (-9223372036854775808 ≤ n.ar ∧ n.ar ≤ 9223372036854775807) :=
  ⟨h _ (by simp), h _ (by simp), h _ (by simp), h _ (by simp), h _ (by simp), h _ (by simp), h _ (by simp), h _ (by simp), h _ (by simp), h _ (by simp)⟩
theorem len_nTxt (n : NoteR) (h : nIn n) : (nTxt n).length ≤ 80 := by
  have hi : ∀ x ∈ [n.k, n.tu, n.gr, n.lo, n.ch, n.ton, n.me, n.si, n.wa, n.ar], (itoa x).length ≤ 21 := fun x hx => itoa_length_le x (h x hx).1 (h x hx).2
  have h1 := hi n.gr (by simp)
  have h2 := hi n.ton (by simp)
  have h3 := hi n.me (by simp)
  have h4 := hi n.wa (by simp)
  have h5 := hi n.ar (by simp)
  have q1 : (if n.tu < 0 then [76] else [82] : List UInt8).length = 1 := by split <;> rfl
  have q2 : (if n.lo < 0 then [32, 115, 104, 111, 114, 116] else if 0 < n.lo then [32, 108, 111, 110, 103] else [] : List UInt8).length ≤ 6 := by
    split
    · decide
    · split <;> decide
  have q3 : (if n.ch < 0 then [32, 111, 112, 101, 110, 115, 32] ++ itoa n.ton else if 0 < n.ch then [32, 116, 105, 103, 104, 116, 101, 110, 115, 32] ++ itoa n.ton else [] : List UInt8).length ≤ 31 := by
    split
    · rw [List.length_append]; simp only [List.length_cons, List.length_nil]; omega
    · split
      · rw [List.length_append]; simp only [List.length_cons, List.length_nil]; omega
      · decide
  unfold nTxt
  split
  · simp only [List.length_append]; omega
  · split
    · omega
    · split
      · decide
      · split
        · decide
        · split
          · split
            · decide
            · split <;> decide
          · split
            · split
              · decide
              · split <;> decide
            · simp only [List.length_append, List.length_cons, List.length_nil]; omega
/-- How many bytes of a text are no blanks. -/
def inkd (l : List UInt8) : Nat := (l.filter fun b => b != 32).length
theorem inkd_le (l : List UInt8) : inkd l ≤ l.length := List.length_filter_le _ _
theorem inkd_take_succ (l : List UInt8) (p : Nat) (b : UInt8) (h : l[p]? = some b) : inkd (l.take (p + 1)) = inkd (l.take p) + (if b = 32 then 0 else 1) := by
  unfold inkd
  rw [List.take_add_one, h, List.filter_append, List.length_append]
  by_cases hb : b = 32
  · simp [hb]
  · simp [hb]
theorem inkd_take_le (l : List UInt8) (p : Nat) : inkd (l.take p) ≤ l.length := Nat.le_trans (inkd_le _) (by rw [List.length_take]; omega)
/-- How long a text takes. -/
def lastS (v l : Int) (t : List UInt8) : Int := v + l * inkd t
theorem lastS_step (v l : Int) (t : List UInt8) (p : Nat) (b : UInt8) (h : t[p]? = some b) : lastS v l (t.take (p + 1)) = if b = 32 then lastS v l (t.take p) else lastS v l (t.take p) + l := by
  unfold lastS
  rw [inkd_take_succ t p b h]
  split
  · simp
  · rw [Int.natCast_add, Int.mul_add]; omega
theorem lastS_bd (v l : Int) (t : List UInt8) (hv : 0 ≤ v ∧ v ≤ 10000000) (hl : 0 ≤ l ∧ l ≤ 1000000) (ht : t.length ≤ 100000) (p : Nat) : 0 ≤ lastS v l (t.take p) ∧ lastS v l (t.take p) ≤ 1000000000000 := by
  unfold lastS
  have h1 := inkd_take_le t p
  have h2 : 0 ≤ l * (inkd (t.take p) : Int) := Int.mul_nonneg hl.1 (by omega)
  have h3 : l * (inkd (t.take p) : Int) ≤ 1000000 * 100000 := Int.mul_le_mul hl.2 (by omega) (by omega) (by decide)
  omega
/-- Which speeches are as defined. -/
def spchB (v l : Int) : Bool := decide (0 ≤ v ∧ v ≤ 10000000) && decide (0 ≤ l ∧ l ≤ 1000000)
end Go.Proofs.YtknjkcibkejieaaDoor
