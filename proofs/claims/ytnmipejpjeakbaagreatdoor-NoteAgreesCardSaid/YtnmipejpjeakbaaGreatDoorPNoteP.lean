/- Notes, plain: which notes are valid, the text of a valid note (ASCII), how long a text takes. -/
import Derived.Lib.ItoaLen
import Derived.Lib.Join
namespace Go.Proofs.YtnmipejpjeakbaaGreatDoor
open Go.Lib
/-- A note: ten numbers. -/
structure NoteR where
  k : Int
  tu : Int
  gr : Int
  lo : Int
  ch : Int
  ton : Int
  me : Int
  si : Int
  wa : Int
  ar : Int
/-- Which notes are valid. -/
def nCor (n : NoteR) : Prop := (n.tu = -1 ∨ n.tu = 1) ∧ (1 ≤ n.gr ∧ n.gr ≤ 9) ∧ (-1 ≤ n.lo ∧ n.lo ≤ 1) ∧ ((n.ch = 0 ∧ n.ton = 0) ∨ (n.ch = -1 ∧ n.gr + 1 ≤ n.ton ∧ n.ton ≤ 9) ∨ (n.ch = 1 ∧ 1 ≤ n.ton ∧ n.ton ≤ n.gr - 1))
def nNoCor (n : NoteR) : Prop := n.tu = 0 ∧ n.gr = 0 ∧ n.lo = 0 ∧ n.ch = 0 ∧ n.ton = 0
instance (n : NoteR) : Decidable (nCor n) := by unfold nCor; infer_instance
instance (n : NoteR) : Decidable (nNoCor n) := by unfold nNoCor; infer_instance
def nVal (n : NoteR) : Bool :=
  if n.k = 1 then decide (nCor n ∧ n.me = 0 ∧ n.si = 0 ∧ n.wa = 0 ∧ n.ar = 0)
  else if n.k = 2 then decide (nNoCor n ∧ 1 ≤ n.me ∧ n.me ≤ 9999 ∧ n.si = 0 ∧ n.wa = 0 ∧ n.ar = 0)
  else if n.k = 3 ∨ n.k = 4 then decide (nNoCor n ∧ n.me = 0 ∧ n.si = 0 ∧ n.wa = 0 ∧ n.ar = 0)
  else if n.k = 5 ∨ n.k = 6 then decide (nNoCor n ∧ n.me = 0 ∧ 1 ≤ n.si ∧ n.si ≤ 3 ∧ n.wa = 0 ∧ n.ar = 0)
  else if n.k = 7 then decide (nNoCor n ∧ n.me = 0 ∧ n.si = 0 ∧ 2 ≤ n.ar ∧ n.ar ≤ 6 ∧ 1 ≤ n.wa ∧ n.wa ≤ n.ar)
  else false
section
variable (tu gr lo ch ton me si wa ar : Int)
theorem nVal1 : nVal ⟨1, tu, gr, lo, ch, ton, me, si, wa, ar⟩ = true ↔ ((tu = -1 ∨ tu = 1) ∧ (1 ≤ gr ∧ gr ≤ 9) ∧ (-1 ≤ lo ∧ lo ≤ 1) ∧ ((ch = 0 ∧ ton = 0) ∨ (ch = -1 ∧ gr + 1 ≤ ton ∧ ton ≤ 9) ∨ (ch = 1 ∧ 1 ≤ ton ∧ ton ≤ gr - 1))) ∧ me = 0 ∧ si = 0 ∧ wa = 0 ∧ ar = 0 := decide_eq_true_iff
theorem nVal2 : nVal ⟨2, tu, gr, lo, ch, ton, me, si, wa, ar⟩ = true ↔ (tu = 0 ∧ gr = 0 ∧ lo = 0 ∧ ch = 0 ∧ ton = 0) ∧ 1 ≤ me ∧ me ≤ 9999 ∧ si = 0 ∧ wa = 0 ∧ ar = 0 := decide_eq_true_iff
theorem nVal3 : nVal ⟨3, tu, gr, lo, ch, ton, me, si, wa, ar⟩ = true ↔ (tu = 0 ∧ gr = 0 ∧ lo = 0 ∧ ch = 0 ∧ ton = 0) ∧ me = 0 ∧ si = 0 ∧ wa = 0 ∧ ar = 0 := decide_eq_true_iff
theorem nVal4 : nVal ⟨4, tu, gr, lo, ch, ton, me, si, wa, ar⟩ = true ↔ (tu = 0 ∧ gr = 0 ∧ lo = 0 ∧ ch = 0 ∧ ton = 0) ∧ me = 0 ∧ si = 0 ∧ wa = 0 ∧ ar = 0 := decide_eq_true_iff
theorem nVal5 : nVal ⟨5, tu, gr, lo, ch, ton, me, si, wa, ar⟩ = true ↔ (tu = 0 ∧ gr = 0 ∧ lo = 0 ∧ ch = 0 ∧ ton = 0) ∧ me = 0 ∧ 1 ≤ si ∧ si ≤ 3 ∧ wa = 0 ∧ ar = 0 := decide_eq_true_iff
theorem nVal6 : nVal ⟨6, tu, gr, lo, ch, ton, me, si, wa, ar⟩ = true ↔ (tu = 0 ∧ gr = 0 ∧ lo = 0 ∧ ch = 0 ∧ ton = 0) ∧ me = 0 ∧ 1 ≤ si ∧ si ≤ 3 ∧ wa = 0 ∧ ar = 0 := decide_eq_true_iff
theorem nVal7 : nVal ⟨7, tu, gr, lo, ch, ton, me, si, wa, ar⟩ = true ↔ (tu = 0 ∧ gr = 0 ∧ lo = 0 ∧ ch = 0 ∧ ton = 0) ∧ me = 0 ∧ si = 0 ∧ 2 ≤ ar ∧ ar ≤ 6 ∧ 1 ≤ wa ∧ wa ≤ ar := decide_eq_true_iff
theorem nVal0 (k : Int) (m1 : ¬k = 1) (m2 : ¬k = 2) (m3 : ¬k = 3) (m4 : ¬k = 4) (m5 : ¬k = 5) (m6 : ¬k = 6) (m7 : ¬k = 7) : nVal ⟨k, tu, gr, lo, ch, ton, me, si, wa, ar⟩ = false := by
  simp [nVal, *]
end
def nbs (l : List UInt8) : ByteArray := ⟨l.toArray⟩
theorem nbs_size (t : List UInt8) : (nbs t).size = t.length := by simp [nbs, ByteArray.size]
theorem nbs_get (t : List UInt8) (p : Nat) (h : p < (nbs t).size) : t[p]? = some ((nbs t)[p]'h) := by
  have h' : p < t.length := by rw [← nbs_size]; exact h
  rw [List.getElem?_eq_getElem h']
  rfl
/-- The text of a note. -/
def nTxt (n : NoteR) : List UInt8 :=
  if n.k = 1 then (if n.tu < 0 then [76] else [82]) ++ itoa n.gr ++ (if n.lo < 0 then [32, 115, 104, 111, 114, 116] else if 0 < n.lo then [32, 108, 111, 110, 103] else []) ++ (if n.ch < 0 then [32, 111, 112, 101, 110, 115, 32] ++ itoa n.ton else if 0 < n.ch then [32, 116, 105, 103, 104, 116, 101, 110, 115, 32] ++ itoa n.ton else [])
  else if n.k = 2 then itoa n.me
  else if n.k = 3 then [105, 110, 116, 111]
  else if n.k = 4 then [97, 110, 100]
  else if n.k = 5 then (if n.si = 1 then [99, 114, 101, 115, 116] else if n.si = 2 then [106, 117, 109, 112] else [98, 105, 103, 106, 117, 109, 112])
  else if n.k = 6 then (if n.si = 1 then [33] else if n.si = 2 then [33, 33] else [33, 33, 33])
  else [106, 117, 110, 99, 116, 105, 111, 110, 32] ++ itoa n.wa ++ [32, 111, 102, 32] ++ itoa n.ar
/-- The numbers of a note are ints. -/
def nIn (n : NoteR) : Prop := ∀ x ∈ [n.k, n.tu, n.gr, n.lo, n.ch, n.ton, n.me, n.si, n.wa, n.ar], -9223372036854775808 ≤ x ∧ x ≤ 9223372036854775807
theorem nIn.all {n : NoteR} (h : nIn n) : (-9223372036854775808 ≤ n.k ∧ n.k ≤ 9223372036854775807) ∧ (-9223372036854775808 ≤ n.tu ∧ n.tu ≤ 9223372036854775807) ∧ (-9223372036854775808 ≤ n.gr ∧ n.gr ≤ 9223372036854775807) ∧ (-9223372036854775808 ≤ n.lo ∧ n.lo ≤ 9223372036854775807) ∧ (-9223372036854775808 ≤ n.ch ∧ n.ch ≤ 9223372036854775807) ∧ (-9223372036854775808 ≤ n.ton ∧ n.ton ≤ 9223372036854775807) ∧ (-9223372036854775808 ≤ n.me ∧ n.me ≤ 9223372036854775807) ∧ (-9223372036854775808 ≤ n.si ∧ n.si ≤ 9223372036854775807) ∧ (-9223372036854775808 ≤ n.wa ∧ n.wa ≤ 9223372036854775807) ∧ (-9223372036854775808 ≤ n.ar ∧ n.ar ≤ 9223372036854775807) :=
  ⟨h _ (by simp), h _ (by simp), h _ (by simp), h _ (by simp), h _ (by simp), h _ (by simp), h _ (by simp), h _ (by simp), h _ (by simp), h _ (by simp)⟩
theorem len_nTxt (n : NoteR) (h : nIn n) : (nTxt n).length ≤ 80 := by
  have hi : ∀ x ∈ [n.k, n.tu, n.gr, n.lo, n.ch, n.ton, n.me, n.si, n.wa, n.ar], (itoa x).length ≤ 21 := fun x hx => itoa_length_le x (h x hx).1 (h x hx).2
  have h1 := hi n.gr (by simp)
  have h2 := hi n.ton (by simp)
  have h3 := hi n.me (by simp)
  have h4 := hi n.wa (by simp)
  have h5 := hi n.ar (by simp)
  have q1 : (if n.tu < 0 then [76] else [82] : List UInt8).length = 1 := by split <;> rfl
  have q2 : (if n.lo < 0 then [32, 115, 104, 111, 114, 116] else if 0 < n.lo then [32, 108, 111, 110, 103] else [] : List UInt8).length ≤ 6 := by
    split
    · decide
    · split <;> decide
  have q3 : (if n.ch < 0 then [32, 111, 112, 101, 110, 115, 32] ++ itoa n.ton else if 0 < n.ch then [32, 116, 105, 103, 104, 116, 101, 110, 115, 32] ++ itoa n.ton else [] : List UInt8).length ≤ 31 := by
    split
    · rw [List.length_append]; simp only [List.length_cons, List.length_nil]; omega
    · split
      · rw [List.length_append]; simp only [List.length_cons, List.length_nil]; omega
      · decide
  unfold nTxt
  split
  · simp only [List.length_append]; omega
  · split
    · omega
    · split
      · decide
      · split
        · decide
        · split
          · split
            · decide
            · split <;> decide
          · split
            · split
              · decide
              · split <;> decide
            · simp only [List.length_append, List.length_cons, List.length_nil]; omega
end Go.Proofs.YtnmipejpjeakbaaGreatDoor

/- Notes read from a text, plain: words, numbers, notes. -/
namespace Go.Proofs.YtnmipejpjeakbaaGreatDoor
open Go.Lib
abbrev Wd := List UInt8
/-- A text split at its blanks: one word at least. -/
def splitB : List UInt8 → List Wd
  | [] => [[]]
  | b :: r => if b = 32 then [] :: splitB r else match splitB r with
    | [] => [[b]]
    | x :: xs => (b :: x) :: xs
/-- The words of a text. -/
def wordsB (s : List UInt8) : List Wd := if s = [] then [] else splitB s
def digB (b : UInt8) : Bool := decide (48 ≤ b.toNat) && decide (b.toNat ≤ 57)
/-- The number that digits say. -/
def numV (w : Wd) : Int := w.foldl (fun n b => 10 * n + ((b.toNat : Int) - 48)) 0
/-- The number that a word says: one to four digits, the first not 0. -/
def numB (w : Wd) : Option Int := if (decide (1 ≤ w.length) && decide (w.length ≤ 4) && w.head? != some 48 && w.all digB) then some (numV w) else none
def wInto : Wd := [105, 110, 116, 111]
def wAnd : Wd := [97, 110, 100]
def wCrest : Wd := [99, 114, 101, 115, 116]
def wJump : Wd := [106, 117, 109, 112]
def wBigjump : Wd := [98, 105, 103, 106, 117, 109, 112]
def wJunction : Wd := [106, 117, 110, 99, 116, 105, 111, 110]
def wShort : Wd := [115, 104, 111, 114, 116]
def wLong : Wd := [108, 111, 110, 103]
def wOpens : Wd := [111, 112, 101, 110, 115]
def wTightens : Wd := [116, 105, 103, 104, 116, 101, 110, 115]
def wOf : Wd := [111, 102]
/-- A word taken, if it is one of two. -/
def takeB (x y : Wd) (r : List Wd) : Int × List Wd :=
  match r with
  | [] => (0, [])
  | w :: r' => if w = x then (-1, r') else if w = y then (1, r') else (0, w :: r')
/-- The rest of a corner whose first word is w. -/
def pCor (w : Wd) (r : List Wd) : Option (NoteR × List Wd) :=
  match numB w.tail with
  | none => none
  | some g =>
    let a := takeB wShort wLong r
    let b := takeB wOpens wTightens a.2
    let tu : Int := if w.head? = some 76 then -1 else 1
    if b.1 = 0 then some (⟨1, tu, g, a.1, 0, 0, 0, 0, 0, 0⟩, b.2)
    else match b.2 with
      | [] => none
      | x :: r3 => match numB x with
        | none => none
        | some t => some (⟨1, tu, g, a.1, b.1, t, 0, 0, 0, 0⟩, r3)
/-- The rest of a junction. -/
def pWay (r : List Wd) : Option (NoteR × List Wd) :=
  match r with
  | x :: o :: y :: r3 => match numB x with
    | none => none
    | some a => if o = wOf then (match numB y with | none => none | some b => some (⟨7, 0, 0, 0, 0, 0, 0, 0, a, b⟩, r3)) else none
  | _ => none
/-- A note whose first word is w, valid or not. -/
def pRaw (w : Wd) (r : List Wd) : Option (NoteR × List Wd) :=
  if w = wInto then some (⟨3, 0, 0, 0, 0, 0, 0, 0, 0, 0⟩, r)
  else if w = wAnd then some (⟨4, 0, 0, 0, 0, 0, 0, 0, 0, 0⟩, r)
  else if w = wCrest then some (⟨5, 0, 0, 0, 0, 0, 0, 1, 0, 0⟩, r)
  else if w = wJump then some (⟨5, 0, 0, 0, 0, 0, 0, 2, 0, 0⟩, r)
  else if w = wBigjump then some (⟨5, 0, 0, 0, 0, 0, 0, 3, 0, 0⟩, r)
  else if w = [33] then some (⟨6, 0, 0, 0, 0, 0, 0, 1, 0, 0⟩, r)
  else if w = [33, 33] then some (⟨6, 0, 0, 0, 0, 0, 0, 2, 0, 0⟩, r)
  else if w = [33, 33, 33] then some (⟨6, 0, 0, 0, 0, 0, 0, 3, 0, 0⟩, r)
  else if w = wJunction then pWay r
  else if w.head? = some 76 ∨ w.head? = some 82 then pCor w r
  else match numB w with
    | none => none
    | some m => some (⟨2, 0, 0, 0, 0, 0, m, 0, 0, 0⟩, r)
/-- A note that some words begin with, and the words behind it. -/
def pNote (l : List Wd) : Option (NoteR × List Wd) :=
  match l with
  | [] => none
  | w :: r => match pRaw w r with
    | none => none
    | some (n, r') => if nVal n then some (n, r') else none
theorem takeB_le (x y : Wd) (r : List Wd) : (takeB x y r).2.length ≤ r.length := by
  cases r with
  | nil => exact Nat.le_refl _
  | cons w r' =>
    unfold takeB
    dsimp only
    split
    · simp
    · split <;> simp
theorem pCor_le {w : Wd} {r r' : List Wd} {n : NoteR} (h : pCor w r = some (n, r')) : r'.length ≤ r.length := by
  unfold pCor at h
  split at h
  · cases h
  · dsimp only at h
    have h1 := takeB_le wShort wLong r
    have h2 := takeB_le wOpens wTightens (takeB wShort wLong r).2
    split at h
    · injection h with h; injection h with _ h; subst h; omega
    · split at h
      · cases h
      · rename_i x r3 he
        split at h
        · cases h
        · injection h with h; injection h with _ h; subst h
          rw [he] at h2
          simp at h2
          omega
theorem pWay_le {r r' : List Wd} {n : NoteR} (h : pWay r = some (n, r')) : r'.length ≤ r.length := by
  unfold pWay at h
  split at h
  · split at h
    · cases h
    · split at h
      · split at h
        · cases h
        · injection h with h; injection h with _ h; subst h; simp; omega
      · cases h
  · cases h
theorem pRaw_le {w : Wd} {r r' : List Wd} {n : NoteR} (h : pRaw w r = some (n, r')) : r'.length ≤ r.length := by
  unfold pRaw at h
  repeat' split at h
  all_goals first
    | (injection h with h; injection h with _ h; subst h; exact Nat.le_refl _)
    | exact pWay_le h
    | exact pCor_le h
    | cases h
theorem pNote_lt {l r' : List Wd} {n : NoteR} (h : pNote l = some (n, r')) : r'.length < l.length := by
  unfold pNote at h
  split at h
  · cases h
  · rename_i w r
    split at h
    · cases h
    · rename_i n2 r2 he
      split at h
      · injection h with h; injection h with _ h; subst h
        have := pRaw_le he
        simp; omega
      · cases h
/-- All notes of some words. -/
def pAll (l : List Wd) : Option (List NoteR) :=
  match l with
  | [] => some []
  | w :: r => match h : pNote (w :: r) with
    | none => none
    | some (n, r') =>
      have _hd := pNote_lt h
      (pAll r').map (n :: ·)
termination_by l.length
theorem pAll_nil : pAll [] = some [] := by rw [pAll]
theorem pAll_none {l : List Wd} (hl : l ≠ []) (h : pNote l = none) : pAll l = none := by
  cases l with
  | nil => exact absurd rfl hl
  | cons w r =>
    rw [pAll]
    split
    · rfl
    · rename_i n r' he; rw [h] at he; cases he
theorem pAll_some {l r' : List Wd} {n : NoteR} (h : pNote l = some (n, r')) : pAll l = (pAll r').map (n :: ·) := by
  cases l with
  | nil => cases h
  | cons w r =>
    rw [pAll]
    split
    · rename_i he; rw [h] at he; cases he
    · rename_i n2 r2 he
      rw [h] at he
      injection he with he
      injection he with h1 h2
      subst h1; subst h2; rfl
/-- The notes of a text. -/
def readB (s : List UInt8) : Option (List NoteR) := pAll (wordsB s)
end Go.Proofs.YtnmipejpjeakbaaGreatDoor

/- Notes read from a text, plain: the words of a note; reading and writing are inverse. -/
namespace Go.Proofs.YtnmipejpjeakbaaGreatDoor
open Go.Lib
theorem snoc_ind {α : Type} {p : List α → Prop} (nil : p []) (snoc : ∀ l a, p l → p (l ++ [a])) (l : List α) : p l := by
  have h : ∀ r : List α, p r.reverse := fun r => by
    induction r with
    | nil => exact nil
    | cons a r ih => rw [List.reverse_cons]; exact snoc _ _ ih
  have h2 := h l.reverse
  rwa [List.reverse_reverse] at h2
theorem head_app {α : Type} {xs : List α} (ys : List α) (h : xs ≠ []) : (xs ++ ys).head? = xs.head? := by
  cases xs with
  | nil => exact absurd rfl h
  | cons x xs => rfl
theorem dig_of (d : Nat) (h : d < 10) : (UInt8.ofNat (48 + d)).toNat = 48 + d := by
  rw [UInt8.toNat_ofNat']
  omega
theorem numV_snoc (w : Wd) (b : UInt8) : numV (w ++ [b]) = 10 * numV w + ((b.toNat : Int) - 48) := by simp [numV]
theorem numV_dec (m : Nat) : numV (decDigits m) = m := by
  induction m using Nat.strongRecOn with
  | ind m ih =>
    rw [decDigits]
    split
    · rename_i h
      simp only [numV, List.foldl_cons, List.foldl_nil, dig_of m h]
      omega
    · rename_i h
      rw [numV_snoc, ih _ (by omega), dig_of _ (by omega)]
      omega
theorem dec_digs (m : Nat) : (decDigits m).all digB = true := by
  induction m using Nat.strongRecOn with
  | ind m ih =>
    rw [decDigits]
    split
    · rename_i h
      simp only [List.all_cons, List.all_nil, digB, dig_of m h, Bool.and_true, Bool.and_eq_true, decide_eq_true_eq]
      omega
    · rename_i h
      rw [List.all_append, ih _ (by omega), Bool.true_and]
      simp only [List.all_cons, List.all_nil, digB, dig_of (m % 10) (by omega), Bool.and_true, Bool.and_eq_true, decide_eq_true_eq]
      omega
theorem dec_ne (m : Nat) : decDigits m ≠ [] := by
  rw [decDigits]
  split <;> simp
theorem dec_len (m k : Nat) (h : m < 10 ^ (k + 1)) : (decDigits m).length ≤ k + 1 := by
  induction k generalizing m with
  | zero =>
    rw [decDigits, dif_pos (by simpa using h)]
    simp
  | succ k ih =>
    rw [decDigits]
    split
    · simp
    · have := ih (m / 10) (by rw [Nat.pow_succ] at h; omega)
      simp; omega
theorem dec_head (m : Nat) (h : 0 < m) : (decDigits m).head? ≠ some 48 := by
  induction m using Nat.strongRecOn with
  | ind m ih =>
    rw [decDigits]
    split
    · rename_i h9
      intro hh
      simp only [List.head?_cons, Option.some.injEq] at hh
      have := congrArg UInt8.toNat hh
      rw [dig_of m h9] at this
      change 48 + m = 48 at this
      omega
    · rename_i h9
      have := ih (m / 10) (by omega) (by omega)
      rw [head_app _ (dec_ne _)]
      exact this
theorem numV_pos (w : Wd) (h : w.all digB = true) (h0 : w ≠ []) (h1 : w.head? ≠ some 48) : 1 ≤ numV w := by
  induction w using snoc_ind with
  | nil => exact absurd rfl h0
  | snoc w b ih =>
    rw [List.all_append, Bool.and_eq_true] at h
    have hb := h.2
    simp only [List.all_cons, List.all_nil, digB, Bool.and_true, Bool.and_eq_true, decide_eq_true_eq] at hb
    rw [numV_snoc]
    by_cases hw : w = []
    · subst hw
      have : b.toNat ≠ 48 := fun hh => h1 (by
        have : b = 48 := UInt8.toNat_inj.1 hh
        rw [this]; rfl)
      simp [numV]
      omega
    · have := ih h.1 hw (by rw [head_app _ hw] at h1; exact h1)
      omega
theorem dec_numV (w : Wd) (h : w.all digB = true) (h0 : w ≠ []) (h1 : w.head? ≠ some 48) : decDigits (numV w).toNat = w := by
  induction w using snoc_ind with
  | nil => exact absurd rfl h0
  | snoc w b ih =>
    rw [List.all_append, Bool.and_eq_true] at h
    have hb := h.2
    simp only [List.all_cons, List.all_nil, digB, Bool.and_true, Bool.and_eq_true, decide_eq_true_eq] at hb
    rw [numV_snoc]
    by_cases hw : w = []
    · subst hw
      have e : (10 * numV [] + ((b.toNat : Int) - 48)).toNat = b.toNat - 48 := by simp [numV]; omega
      rw [e, decDigits, dif_pos (by omega), show 48 + (b.toNat - 48) = b.toNat by omega]
      simp
    · have h2 : w.head? ≠ some 48 := by rw [head_app _ hw] at h1; exact h1
      have h3 := ih h.1 hw h2
      have h4 := numV_pos w h.1 hw h2
      have e : (10 * numV w + ((b.toNat : Int) - 48)).toNat = 10 * (numV w).toNat + (b.toNat - 48) := by omega
      rw [e, decDigits, dif_neg (by omega), show (10 * (numV w).toNat + (b.toNat - 48)) / 10 = (numV w).toNat by omega, show 48 + (10 * (numV w).toNat + (b.toNat - 48)) % 10 = b.toNat by omega, h3]
      simp
theorem numB_some {w : Wd} {g : Int} (h : numB w = some g) : w = itoa g ∧ 1 ≤ g ∧ g ≤ 9999 ∧ g = numV w := by
  unfold numB at h
  split at h
  · rename_i hc
    injection h with h
    subst h
    simp only [Bool.and_eq_true, decide_eq_true_eq, bne_iff_ne] at hc
    obtain ⟨⟨⟨h1, h2⟩, h3⟩, h4⟩ := hc
    have h0 : w ≠ [] := fun hh => by subst hh; simp at h1
    have h5 := numV_pos w h4 h0 h3
    have h6 := dec_numV w h4 h0 h3
    refine ⟨?_, h5, ?_, rfl⟩
    · rw [show numV w = ((numV w).toNat : Int) by omega, itoa_nonneg, h6]
    · have h7 : ∀ (v : Wd) (k : Nat), v.all digB = true → v.length ≤ k → numV v < 10 ^ k := by
        intro v
        induction v using snoc_ind with
        | nil => intro k _ _; simp [numV]; exact Int.pow_pos (by decide)
        | snoc v b ih =>
          intro k hv hk
          rw [List.all_append, Bool.and_eq_true] at hv
          have hb := hv.2
          simp only [List.all_cons, List.all_nil, digB, Bool.and_true, Bool.and_eq_true, decide_eq_true_eq] at hb
          cases k with
          | zero => simp at hk
          | succ k =>
            have := ih k hv.1 (by simp at hk; omega)
            rw [numV_snoc, Int.pow_succ]
            omega
      have := h7 w 4 h4 h2
      omega
  · cases h
theorem numB_itoa {g : Int} (h1 : 1 ≤ g) (h2 : g ≤ 9999) : numB (itoa g) = some g := by
  obtain ⟨m, rfl⟩ : ∃ m : Nat, g = (m : Int) := ⟨g.toNat, by omega⟩
  rw [itoa_nonneg]
  unfold numB
  rw [if_pos, numV_dec]
  simp only [Bool.and_eq_true, decide_eq_true_eq, bne_iff_ne]
  refine ⟨⟨⟨?_, dec_len m 3 (by omega)⟩, dec_head m (by omega)⟩, dec_digs m⟩
  exact List.length_pos_iff.2 (dec_ne m)
/-- The words of a note's text. -/
def nWds (n : NoteR) : List Wd :=
  if n.k = 1 then ((if n.tu < 0 then 76 else 82) :: itoa n.gr) :: ((if n.lo < 0 then [wShort] else if 0 < n.lo then [wLong] else []) ++ (if n.ch < 0 then [wOpens, itoa n.ton] else if 0 < n.ch then [wTightens, itoa n.ton] else []))
  else if n.k = 2 then [itoa n.me]
  else if n.k = 3 then [wInto]
  else if n.k = 4 then [wAnd]
  else if n.k = 5 then (if n.si = 1 then [wCrest] else if n.si = 2 then [wJump] else [wBigjump])
  else if n.k = 6 then (if n.si = 1 then [[33]] else if n.si = 2 then [[33, 33]] else [[33, 33, 33]])
  else [wJunction, itoa n.wa, wOf, itoa n.ar]
theorem join_cons (x : Wd) (xs : List Wd) (h : xs ≠ []) : join (x :: xs) [32] = x ++ 32 :: join xs [32] := by
  cases xs with
  | nil => exact absurd rfl h
  | cons y ys => simp [join, List.intercalate_cons_cons]
theorem join_append (xs ys : List Wd) (h1 : xs ≠ []) (h2 : ys ≠ []) : join (xs ++ ys) [32] = join xs [32] ++ 32 :: join ys [32] := by
  induction xs with
  | nil => exact absurd rfl h1
  | cons x xs ih =>
    by_cases hx : xs = []
    · subst hx
      rw [List.singleton_append, join_cons _ _ h2]
      simp [join, List.intercalate]
    · rw [List.cons_append, join_cons _ _ (by simp [hx]), join_cons _ _ hx, ih hx]
      simp
theorem nTxt_join (n : NoteR) : nTxt n = join (nWds n) [32] := by
  have j1 : ∀ x : Wd, join [x] [32] = x := fun x => by simp [join, List.intercalate]
  have j2 : ∀ x y : Wd, join [x, y] [32] = x ++ 32 :: y := fun x y => by rw [join_cons _ _ (by simp), j1]
  have j3 : ∀ x y z : Wd, join [x, y, z] [32] = x ++ 32 :: (y ++ 32 :: z) := fun x y z => by rw [join_cons _ _ (by simp), j2]
  have j4 : ∀ x y z u : Wd, join [x, y, z, u] [32] = x ++ 32 :: (y ++ 32 :: (z ++ 32 :: u)) := fun x y z u => by rw [join_cons _ _ (by simp), j3]
  unfold nTxt nWds
  split
  · by_cases h1 : n.tu < 0 <;> by_cases h2 : n.lo < 0 <;> by_cases h3 : 0 < n.lo <;> by_cases h4 : n.ch < 0 <;> by_cases h5 : 0 < n.ch <;>
      simp [h1, h2, h3, h4, h5, j1, j2, j3, j4, wShort, wLong, wOpens, wTightens]
  · split
    · rw [j1]
    · split
      · rw [j1]; rfl
      · split
        · rw [j1]; rfl
        · split
          · split
            · rw [j1]; rfl
            · split
              · rw [j1]; rfl
              · rw [j1]; rfl
          · split
            · split
              · rw [j1]
              · split
                · rw [j1]
                · rw [j1]
            · rw [j4]
              simp [wJunction, wOf]
theorem nWds_ne (n : NoteR) : nWds n ≠ [] := by
  unfold nWds
  split
  · simp
  · split
    · simp
    · split
      · simp
      · split
        · simp
        · split
          · split
            · simp
            · split <;> simp
          · split
            · split
              · simp
              · split <;> simp
            · simp
end Go.Proofs.YtnmipejpjeakbaaGreatDoor
