/- Notes, plain: which notes are valid, the text of a valid note (ASCII), how long a text takes. -/
import Derived.Lib.ItoaLen
namespace Go.Proofs.YtcniibngfnkobaaGreatDoor
open Go.Lib
/-- A note: ten numbers. -/
structure NoteR where
  k : Int
  tu : Int
  gr : Int
  lo : Int
  ch : Int
  ton : Int
  me : Int
  si : Int
  wa : Int
  ar : Int
/-- Which notes are valid. -/
def nCor (n : NoteR) : Prop := (n.tu = -1 ∨ n.tu = 1) ∧ (1 ≤ n.gr ∧ n.gr ≤ 9) ∧ (-1 ≤ n.lo ∧ n.lo ≤ 1) ∧ ((n.ch = 0 ∧ n.ton = 0) ∨ (n.ch = -1 ∧ n.gr + 1 ≤ n.ton ∧ n.ton ≤ 9) ∨ (n.ch = 1 ∧ 1 ≤ n.ton ∧ n.ton ≤ n.gr - 1))
def nNoCor (n : NoteR) : Prop := n.tu = 0 ∧ n.gr = 0 ∧ n.lo = 0 ∧ n.ch = 0 ∧ n.ton = 0
instance (n : NoteR) : Decidable (nCor n) := by unfold nCor; infer_instance
instance (n : NoteR) : Decidable (nNoCor n) := by unfold nNoCor; infer_instance
def nVal (n : NoteR) : Bool :=
  if n.k = 1 then decide (nCor n ∧ n.me = 0 ∧ n.si = 0 ∧ n.wa = 0 ∧ n.ar = 0)
  else if n.k = 2 then decide (nNoCor n ∧ 1 ≤ n.me ∧ n.me ≤ 9999 ∧ n.si = 0 ∧ n.wa = 0 ∧ n.ar = 0)
  else if n.k = 3 ∨ n.k = 4 then decide (nNoCor n ∧ n.me = 0 ∧ n.si = 0 ∧ n.wa = 0 ∧ n.ar = 0)
  else if n.k = 5 ∨ n.k = 6 then decide (nNoCor n ∧ n.me = 0 ∧ 1 ≤ n.si ∧ n.si ≤ 3 ∧ n.wa = 0 ∧ n.ar = 0)
  else if n.k = 7 then decide (nNoCor n ∧ n.me = 0 ∧ n.si = 0 ∧ 2 ≤ n.ar ∧ n.ar ≤ 6 ∧ 1 ≤ n.wa ∧ n.wa ≤ n.ar)
  else false
section
variable (tu gr lo ch ton me si wa ar : Int)
theorem nVal1 : nVal ⟨1, tu, gr, lo, ch, ton, me, si, wa, ar⟩ = true ↔ ((tu = -1 ∨ tu = 1) ∧ (1 ≤ gr ∧ gr ≤ 9) ∧ (-1 ≤ lo ∧ lo ≤ 1) ∧ ((ch = 0 ∧ ton = 0) ∨ (ch = -1 ∧ gr + 1 ≤ ton ∧ ton ≤ 9) ∨ (ch = 1 ∧ 1 ≤ ton ∧ ton ≤ gr - 1))) ∧ me = 0 ∧ si = 0 ∧ wa = 0 ∧ ar = 0 := decide_eq_true_iff
theorem nVal2 : nVal ⟨2, tu, gr, lo, ch, ton, me, si, wa, ar⟩ = true ↔ (tu = 0 ∧ gr = 0 ∧ lo = 0 ∧ ch = 0 ∧ ton = 0) ∧ 1 ≤ me ∧ me ≤ 9999 ∧ si = 0 ∧ wa = 0 ∧ ar = 0 := decide_eq_true_iff
theorem nVal3 : nVal ⟨3, tu, gr, lo, ch, ton, me, si, wa, ar⟩ = true ↔ (tu = 0 ∧ gr = 0 ∧ lo = 0 ∧ ch = 0 ∧ ton = 0) ∧ me = 0 ∧ si = 0 ∧ wa = 0 ∧ ar = 0 := decide_eq_true_iff
theorem nVal4 : nVal ⟨4, tu, gr, lo, ch, ton, me, si, wa, ar⟩ = true ↔ (tu = 0 ∧ gr = 0 ∧ lo = 0 ∧ ch = 0 ∧ ton = 0) ∧ me = 0 ∧ si = 0 ∧ wa = 0 ∧ ar = 0 := decide_eq_true_iff
theorem nVal5 : nVal ⟨5, tu, gr, lo, ch, ton, me, si, wa, ar⟩ = true ↔ (tu = 0 ∧ gr = 0 ∧ lo = 0 ∧ ch = 0 ∧ ton = 0) ∧ me = 0 ∧ 1 ≤ si ∧ si ≤ 3 ∧ wa = 0 ∧ ar = 0 := decide_eq_true_iff
theorem nVal6 : nVal ⟨6, tu, gr, lo, ch, ton, me, si, wa, ar⟩ = true ↔ (tu = 0 ∧ gr = 0 ∧ lo = 0 ∧ ch = 0 ∧ ton = 0) ∧ me = 0 ∧ 1 ≤ si ∧ si ≤ 3 ∧ wa = 0 ∧ ar = 0 := decide_eq_true_iff
theorem nVal7 : nVal ⟨7, tu, gr, lo, ch, ton, me, si, wa, ar⟩ = true ↔ (tu = 0 ∧ gr = 0 ∧ lo = 0 ∧ ch = 0 ∧ ton = 0) ∧ me = 0 ∧ si = 0 ∧ 2 ≤ ar ∧ ar ≤ 6 ∧ 1 ≤ wa ∧ wa ≤ ar := decide_eq_true_iff
theorem nVal0 (k : Int) (m1 : ¬k = 1) (m2 : ¬k = 2) (m3 : ¬k = 3) (m4 : ¬k = 4) (m5 : ¬k = 5) (m6 : ¬k = 6) (m7 : ¬k = 7) : nVal ⟨k, tu, gr, lo, ch, ton, me, si, wa, ar⟩ = false := by
  simp [nVal, *]
end
def nbs (l : List UInt8) : ByteArray := ⟨l.toArray⟩
theorem nbs_size (t : List UInt8) : (nbs t).size = t.length := by simp [nbs, ByteArray.size]
theorem nbs_get (t : List UInt8) (p : Nat) (h : p < (nbs t).size) : t[p]? = some ((nbs t)[p]'h) := by
  have h' : p < t.length := by rw [← nbs_size]; exact h
  rw [List.getElem?_eq_getElem h']
  rfl
/-- The text of a note. -/
def nTxt (n : NoteR) : List UInt8 :=
  if n.k = 1 then (if n.tu < 0 then [76] else [82]) ++ itoa n.gr ++ (if n.lo < 0 then [32, 115, 104, 111, 114, 116] else if 0 < n.lo then [32, 108, 111, 110, 103] else []) ++ (if n.ch < 0 then [32, 111, 112, 101, 110, 115, 32] ++ itoa n.ton else if 0 < n.ch then [32, 116, 105, 103, 104, 116, 101, 110, 115, 32] ++ itoa n.ton else [])
  else if n.k = 2 then itoa n.me
  else if n.k = 3 then [105, 110, 116, 111]
  else if n.k = 4 then [97, 110, 100]
  else if n.k = 5 then (if n.si = 1 then [99, 114, 101, 115, 116] else if n.si = 2 then [106, 117, 109, 112] else [98, 105, 103, 106, 117, 109, 112])
  else if n.k = 6 then (if n.si = 1 then [33] else if n.si = 2 then [33, 33] else [33, 33, 33])
  else [106, 117, 110, 99, 116, 105, 111, 110, 32] ++ itoa n.wa ++ [32, 111, 102, 32] ++ itoa n.ar
/-- The numbers of a note are ints. -/
def nIn (n : NoteR) : Prop := ∀ x ∈ [n.k, n.tu, n.gr, n.lo, n.ch, n.ton, n.me, n.si, n.wa, n.ar], -9223372036854775808 ≤ x ∧ x ≤ 9223372036854775807
theorem nIn.all {n : NoteR} (h : nIn n) : (-9223372036854775808 ≤ n.k ∧ n.k ≤ 9223372036854775807) ∧ (-9223372036854775808 ≤ n.tu ∧ n.tu ≤ 9223372036854775807) ∧ (-9223372036854775808 ≤ n.gr ∧ n.gr ≤ 9223372036854775807) ∧ (-9223372036854775808 ≤ n.lo ∧ n.lo ≤ 9223372036854775807) ∧ (-9223372036854775808 ≤ n.ch ∧ n.ch ≤ 9223372036854775807) ∧ (-9223372036854775808 ≤ n.ton ∧ n.ton ≤ 9223372036854775807) ∧ (-9223372036854775808 ≤ n.me ∧ n.me ≤ 9223372036854775807) ∧ (-9223372036854775808 ≤ n.si ∧ n.si ≤ 9223372036854775807) ∧ (-9223372036854775808 ≤ n.wa ∧ n.wa ≤ 9223372036854775807) ∧ (-9223372036854775808 ≤ n.ar ∧ n.ar ≤ 9223372036854775807) :=
  ⟨h _ (by simp), h _ (by simp), h _ (by simp), h _ (by simp), h _ (by simp), h _ (by simp), h _ (by simp), h _ (by simp), h _ (by simp), h _ (by simp)⟩
theorem len_nTxt (n : NoteR) (h : nIn n) : (nTxt n).length ≤ 80 := by
  have hi : ∀ x ∈ [n.k, n.tu, n.gr, n.lo, n.ch, n.ton, n.me, n.si, n.wa, n.ar], (itoa x).length ≤ 21 := fun x hx => itoa_length_le x (h x hx).1 (h x hx).2
  have h1 := hi n.gr (by simp)
  have h2 := hi n.ton (by simp)
  have h3 := hi n.me (by simp)
  have h4 := hi n.wa (by simp)
  have h5 := hi n.ar (by simp)
  have q1 : (if n.tu < 0 then [76] else [82] : List UInt8).length = 1 := by split <;> rfl
  have q2 : (if n.lo < 0 then [32, 115, 104, 111, 114, 116] else if 0 < n.lo then [32, 108, 111, 110, 103] else [] : List UInt8).length ≤ 6 := by
    split
    · decide
    · split <;> decide
  have q3 : (if n.ch < 0 then [32, 111, 112, 101, 110, 115, 32] ++ itoa n.ton else if 0 < n.ch then [32, 116, 105, 103, 104, 116, 101, 110, 115, 32] ++ itoa n.ton else [] : List UInt8).length ≤ 31 := by
    split
    · rw [List.length_append]; simp only [List.length_cons, List.length_nil]; omega
    · split
      · rw [List.length_append]; simp only [List.length_cons, List.length_nil]; omega
      · decide
  unfold nTxt
  split
  · simp only [List.length_append]; omega
  · split
    · omega
    · split
      · decide
      · split
        · decide
        · split
          · split
            · decide
            · split <;> decide
          · split
            · split
              · decide
              · split <;> decide
            · simp only [List.length_append, List.length_cons, List.length_nil]; omega
end Go.Proofs.YtcniibngfnkobaaGreatDoor

/- Notes read from a text, plain: words, numbers, notes. -/
namespace Go.Proofs.YtcniibngfnkobaaGreatDoor
open Go.Lib
abbrev Wd := List UInt8
/-- A text split at its blanks: one word at least. -/
def splitB : List UInt8 → List Wd
  | [] => [[]]
  | b :: r => if b = 32 then [] :: splitB r else match splitB r with
    | [] => [[b]]
    | x :: xs => (b :: x) :: xs
/-- The words of a text. -/
def wordsB (s : List UInt8) : List Wd := if s = [] then [] else splitB s
def digB (b : UInt8) : Bool := decide (48 ≤ b.toNat) && decide (b.toNat ≤ 57)
/-- The number that digits say. -/
def numV (w : Wd) : Int := w.foldl (fun n b => 10 * n + ((b.toNat : Int) - 48)) 0
/-- The number that a word says: one to four digits, the first not 0. -/
def numB (w : Wd) : Option Int := if (decide (1 ≤ w.length) && decide (w.length ≤ 4) && w.head? != some 48 && w.all digB) then some (numV w) else none
def wInto : Wd := [105, 110, 116, 111]
def wAnd : Wd := [97, 110, 100]
def wCrest : Wd := [99, 114, 101, 115, 116]
def wJump : Wd := [106, 117, 109, 112]
def wBigjump : Wd := [98, 105, 103, 106, 117, 109, 112]
def wJunction : Wd := [106, 117, 110, 99, 116, 105, 111, 110]
def wShort : Wd := [115, 104, 111, 114, 116]
def wLong : Wd := [108, 111, 110, 103]
def wOpens : Wd := [111, 112, 101, 110, 115]
def wTightens : Wd := [116, 105, 103, 104, 116, 101, 110, 115]
def wOf : Wd := [111, 102]
/-- A word taken, if it is one of two. -/
def takeB (x y : Wd) (r : List Wd) : Int × List Wd :=
  match r with
  | [] => (0, [])
  | w :: r' => if w = x then (-1, r') else if w = y then (1, r') else (0, w :: r')
/-- The rest of a corner whose first word is w. -/
def pCor (w : Wd) (r : List Wd) : Option (NoteR × List Wd) :=
  match numB w.tail with
  | none => none
  | some g =>
    let a := takeB wShort wLong r
    let b := takeB wOpens wTightens a.2
    let tu : Int := if w.head? = some 76 then -1 else 1
    if b.1 = 0 then some (⟨1, tu, g, a.1, 0, 0, 0, 0, 0, 0⟩, b.2)
    else match b.2 with
      | [] => none
      | x :: r3 => match numB x with
        | none => none
        | some t => some (⟨1, tu, g, a.1, b.1, t, 0, 0, 0, 0⟩, r3)
/-- The rest of a junction. -/
def pWay (r : List Wd) : Option (NoteR × List Wd) :=
  match r with
  | x :: o :: y :: r3 => match numB x with
    | none => none
    | some a => if o = wOf then (match numB y with | none => none | some b => some (⟨7, 0, 0, 0, 0, 0, 0, 0, a, b⟩, r3)) else none
  | _ => none
/-- A note whose first word is w, valid or not. -/
def pRaw (w : Wd) (r : List Wd) : Option (NoteR × List Wd) :=
  if w = wInto then some (⟨3, 0, 0, 0, 0, 0, 0, 0, 0, 0⟩, r)
  else if w = wAnd then some (⟨4, 0, 0, 0, 0, 0, 0, 0, 0, 0⟩, r)
  else if w = wCrest then some (⟨5, 0, 0, 0, 0, 0, 0, 1, 0, 0⟩, r)
  else if w = wJump then some (⟨5, 0, 0, 0, 0, 0, 0, 2, 0, 0⟩, r)
  else if w = wBigjump then some (⟨5, 0, 0, 0, 0, 0, 0, 3, 0, 0⟩, r)
  else if w = [33] then some (⟨6, 0, 0, 0, 0, 0, 0, 1, 0, 0⟩, r)
  else if w = [33, 33] then some (⟨6, 0, 0, 0, 0, 0, 0, 2, 0, 0⟩, r)
  else if w = [33, 33, 33] then some (⟨6, 0, 0, 0, 0, 0, 0, 3, 0, 0⟩, r)
  else if w = wJunction then pWay r
  else if w.head? = some 76 ∨ w.head? = some 82 then pCor w r
  else match numB w with
    | none => none
    | some m => some (⟨2, 0, 0, 0, 0, 0, m, 0, 0, 0⟩, r)
/-- A note that some words begin with, and the words behind it. -/
def pNote (l : List Wd) : Option (NoteR × List Wd) :=
  match l with
  | [] => none
  | w :: r => match pRaw w r with
    | none => none
    | some (n, r') => if nVal n then some (n, r') else none
theorem takeB_le (x y : Wd) (r : List Wd) : (takeB x y r).2.length ≤ r.length := by
  cases r with
  | nil => exact Nat.le_refl _
  | cons w r' =>
    unfold takeB
    dsimp only
    split
    · simp
    · split <;> simp
theorem pCor_le {w : Wd} {r r' : List Wd} {n : NoteR} (h : pCor w r = some (n, r')) : r'.length ≤ r.length := by
  unfold pCor at h
  split at h
  · cases h
  · dsimp only at h
    have h1 := takeB_le wShort wLong r
    have h2 := takeB_le wOpens wTightens (takeB wShort wLong r).2
    split at h
    · injection h with h; injection h with _ h; subst h; omega
    · split at h
      · cases h
      · rename_i x r3 he
        split at h
        · cases h
        · injection h with h; injection h with _ h; subst h
          rw [he] at h2
          simp at h2
          omega
theorem pWay_le {r r' : List Wd} {n : NoteR} (h : pWay r = some (n, r')) : r'.length ≤ r.length := by
  unfold pWay at h
  split at h
  · split at h
    · cases h
    · split at h
      · split at h
        · cases h
        · injection h with h; injection h with _ h; subst h; simp; omega
      · cases h
  · cases h
theorem pRaw_le {w : Wd} {r r' : List Wd} {n : NoteR} (h : pRaw w r = some (n, r')) : r'.length ≤ r.length := by
  unfold pRaw at h
  repeat' split at h
  all_goals first
    | (injection h with h; injection h with _ h; subst h; exact Nat.le_refl _)
    | exact pWay_le h
    | exact pCor_le h
    | cases h
theorem pNote_lt {l r' : List Wd} {n : NoteR} (h : pNote l = some (n, r')) : r'.length < l.length := by
  unfold pNote at h
  split at h
  · cases h
  · rename_i w r
    split at h
    · cases h
    · rename_i n2 r2 he
      split at h
      · injection h with h; injection h with _ h; subst h
        have := pRaw_le he
        simp; omega
      · cases h
/-- All notes of some words. -/
def pAll (l : List Wd) : Option (List NoteR) :=
  match l with
  | [] => some []
  | w :: r => match h : pNote (w :: r) with
    | none => none
    | some (n, r') =>
      have _hd := pNote_lt h
      (pAll r').map (n :: ·)
termination_by l.length
theorem pAll_nil : pAll [] = some [] := by rw [pAll]
theorem pAll_none {l : List Wd} (hl : l ≠ []) (h : pNote l = none) : pAll l = none := by
  cases l with
  | nil => exact absurd rfl hl
  | cons w r =>
    rw [pAll]
    split
    · rfl
    · rename_i n r' he; rw [h] at he; cases he
theorem pAll_some {l r' : List Wd} {n : NoteR} (h : pNote l = some (n, r')) : pAll l = (pAll r').map (n :: ·) := by
  cases l with
  | nil => cases h
  | cons w r =>
    rw [pAll]
    split
    · rename_i he; rw [h] at he; cases he
    · rename_i n2 r2 he
      rw [h] at he
      injection he with he
      injection he with h1 h2
      subst h1; subst h2; rfl
/-- The notes of a text. -/
def readB (s : List UInt8) : Option (List NoteR) := pAll (wordsB s)
end Go.Proofs.YtcniibngfnkobaaGreatDoor
