/- Notes read from a text as the document does, plain: it is what the program reads. No program in sight. -/
import Derived.Test.YtnmipejpjeakbaaGreatDoorPReadR
namespace Go.Proofs.YtnmipejpjeakbaaGreatDoor
open Go.Lib
def zeroN : NoteR := ⟨0, 0, 0, 0, 0, 0, 0, 0, 0, 0⟩
/-- The document's number of a word: 0 for none. -/
def rnum (w : Wd) : Int := (numB w).getD 0
/-- The document's word of a list. -/
def wrd (l : List Wd) (i : Nat) : Wd := (l[i]?).getD []
/-- Which of two words a word is. -/
def tokI (x y v : Wd) : Int := if v = x then -1 else if v = y then 1 else 0
def rCorN (w : Wd) (lo ch ton : Int) : NoteR := ⟨1, if w.head? = some 76 then -1 else 1, rnum w.tail, lo, ch, ton, 0, 0, 0, 0⟩
/-- The document's corner. -/
def rCor (w : Wd) (l : List Wd) : NoteR × Nat :=
  let lo := tokI wShort wLong (wrd l 1)
  let m1 : Nat := if lo = 0 then 1 else 2
  let ch := tokI wOpens wTightens (wrd l m1)
  let n := rCorN w lo ch (if ch = 0 then 0 else rnum (wrd l (m1 + 1)))
  if nVal n then (n, if ch = 0 then m1 else m1 + 2) else (zeroN, 0)
/-- The document's next note, and how many words it has. -/
def rNext (l : List Wd) : NoteR × Nat :=
  let w := wrd l 0
  if w = wInto then (⟨3, 0, 0, 0, 0, 0, 0, 0, 0, 0⟩, 1)
  else if w = wAnd then (⟨4, 0, 0, 0, 0, 0, 0, 0, 0, 0⟩, 1)
  else if w = wCrest then (⟨5, 0, 0, 0, 0, 0, 0, 1, 0, 0⟩, 1)
  else if w = wJump then (⟨5, 0, 0, 0, 0, 0, 0, 2, 0, 0⟩, 1)
  else if w = wBigjump then (⟨5, 0, 0, 0, 0, 0, 0, 3, 0, 0⟩, 1)
  else if w = [33] then (⟨6, 0, 0, 0, 0, 0, 0, 1, 0, 0⟩, 1)
  else if w = [33, 33] then (⟨6, 0, 0, 0, 0, 0, 0, 2, 0, 0⟩, 1)
  else if w = [33, 33, 33] then (⟨6, 0, 0, 0, 0, 0, 0, 3, 0, 0⟩, 1)
  else if w = wJunction then
    if wrd l 2 = wOf ∧ nVal ⟨7, 0, 0, 0, 0, 0, 0, 0, rnum (wrd l 1), rnum (wrd l 3)⟩ = true then (⟨7, 0, 0, 0, 0, 0, 0, 0, rnum (wrd l 1), rnum (wrd l 3)⟩, 4) else (zeroN, 0)
  else if nVal ⟨2, 0, 0, 0, 0, 0, rnum w, 0, 0, 0⟩ then (⟨2, 0, 0, 0, 0, 0, rnum w, 0, 0, 0⟩, 1)
  else if w.length = 2 ∧ (w.head? = some 76 ∨ w.head? = some 82) then rCor w l
  else (zeroN, 0)
theorem takeB_wrd (x y : Wd) (hx : x ≠ []) (hy : y ≠ []) (r : List Wd) : takeB x y r = (tokI x y (wrd r 0), if tokI x y (wrd r 0) = 0 then r else r.tail) := by
  cases r with
  | nil => simp [takeB, wrd, tokI, Ne.symm hx, Ne.symm hy]
  | cons v r' =>
    show (if v = x then ((-1 : Int), r') else if v = y then (1, r') else (0, v :: r')) = (tokI x y v, if tokI x y v = 0 then v :: r' else r')
    unfold tokI
    by_cases h1 : v = x
    · rw [if_pos h1, if_pos h1]; rfl
    · by_cases h2 : v = y
      · rw [if_neg h1, if_pos h2, if_neg h1, if_pos h2]; rfl
      · rw [if_neg h1, if_neg h2, if_neg h1, if_neg h2]; rfl
theorem wrd_succ (w : Wd) (r : List Wd) (i : Nat) : wrd (w :: r) (i + 1) = wrd r i := by simp [wrd]
theorem wrd_tail (r : List Wd) (i : Nat) : wrd r.tail i = wrd r (i + 1) := by cases r <;> simp [wrd]
theorem numB_nil : numB [] = none := by decide
theorem rnum_none {w : Wd} (h : numB w = none) : rnum w = 0 := by simp [rnum, h]
theorem rnum_some {w : Wd} {g : Int} (h : numB w = some g) : rnum w = g := by simp [rnum, h]
theorem rnum_pos {w : Wd} (h : 1 ≤ rnum w) : numB w = some (rnum w) := by
  unfold rnum at h ⊢
  cases hn : numB w with
  | none => rw [hn] at h; simp at h
  | some g => rfl
theorem wrd_len {r : List Wd} {i : Nat} (h : wrd r i ≠ []) : i < r.length := by
  apply Nat.lt_of_not_le
  intro hh
  exact h (by simp [wrd, List.getElem?_eq_none hh])
theorem itoa_1 {g : Int} (h1 : 1 ≤ g) (h9 : g ≤ 9) : (itoa g).length = 1 := by
  obtain ⟨m, rfl⟩ : ∃ m : Nat, g = (m : Int) := ⟨g.toNat, by omega⟩
  rw [itoa_nonneg, decDigits, dif_pos (by omega)]
  rfl
theorem tokI_ne {x y v : Wd} (hx : x ≠ []) (hy : y ≠ []) (h : tokI x y v ≠ 0) : v ≠ [] := by
  intro e
  subst e
  simp [tokI, Ne.symm hx, Ne.symm hy] at h
/-- pCor, said with the document's words. -/
theorem pCor_wrd (w : Wd) (r : List Wd) : pCor w r = match numB w.tail with
    | none => none
    | some _ =>
      let lo := tokI wShort wLong (wrd r 0)
      let r1 := if lo = 0 then r else r.tail
      let ch := tokI wOpens wTightens (wrd r1 0)
      if ch = 0 then some (rCorN w lo 0 0, r1)
      else match numB (wrd r1 1) with
        | none => none
        | some t => some (rCorN w lo ch t, r1.tail.tail) := by
  unfold pCor
  cases hg : numB w.tail with
  | none => rfl
  | some g =>
    dsimp only
    rw [takeB_wrd wShort wLong (by decide) (by decide) r]
    dsimp only
    rw [takeB_wrd wOpens wTightens (by decide) (by decide)]
    dsimp only
    obtain ⟨r1, hr1⟩ : ∃ r1, r1 = (if tokI wShort wLong (wrd r 0) = 0 then r else r.tail) := ⟨_, rfl⟩
    rw [← hr1]
    by_cases hc : tokI wOpens wTightens (wrd r1 0) = 0
    · rw [if_pos hc, if_pos hc, if_pos hc]
      simp [rCorN, rnum, hg]
    · rw [if_neg hc, if_neg hc, if_neg hc, ← wrd_tail]
      cases hr2 : r1.tail with
      | nil => simp [wrd, numB_nil]
      | cons x r3 =>
        simp only [wrd, List.getElem?_cons_zero, Option.getD_some, List.tail_cons]
        cases hx : numB x with
        | none => rfl
        | some t => simp [rCorN, rnum, hg]
theorem rCor_val {w : Wd} {lo ch ton : Int} (h : nVal (rCorN w lo ch ton) = true) : (∃ g, numB w.tail = some g ∧ 1 ≤ g ∧ g ≤ 9) ∧ (ch ≠ 0 → 1 ≤ ton) := by
  have h2 := (nVal1 _ _ _ _ _ _ _ _ _).1 h
  obtain ⟨⟨-, ⟨h3, h4⟩, -, h5⟩, -⟩ := h2
  refine ⟨⟨_, rnum_pos h3, h3, h4⟩, fun hc => ?_⟩
  rcases h5 with h5 | h5 | h5
  · exact absurd h5.1 hc
  · omega
  · omega
theorem drop_tail (w : Wd) (r : List Wd) : (w :: r).drop 2 = r.tail := by cases r <;> rfl
theorem drop_tail3 (w : Wd) (r : List Wd) : (w :: r).drop 3 = r.tail.tail := by cases r with | nil => rfl | cons a r => cases r <;> rfl
theorem drop_tail4 (w : Wd) (r : List Wd) : (w :: r).drop 4 = r.tail.tail.tail := by cases r with | nil => rfl | cons a r => cases r with | nil => rfl | cons b r => cases r <;> rfl
/-- What the program reads, the document's next reads too. -/
def Agrees (l : List Wd) (q : NoteR × Nat) (p : Option (NoteR × List Wd)) : Prop :=
  (p = none ∧ q = (zeroN, 0)) ∨ ∃ n k, p = some (n, l.drop k) ∧ q = (n, k) ∧ 0 < k ∧ k ≤ l.length
theorem rCor_agrees (w : Wd) (r : List Wd) : Agrees (w :: r) (rCor w (w :: r)) (match pCor w r with
    | none => none
    | some (n, r') => if nVal n then some (n, r') else none) := by
  rw [pCor_wrd]
  unfold rCor
  dsimp only
  rw [show wrd (w :: r) 1 = wrd r 0 from wrd_succ w r 0]
  cases hg : numB w.tail with
  | none =>
    dsimp only
    rw [if_neg]
    · exact .inl ⟨rfl, rfl⟩
    · intro h
      obtain ⟨⟨g, h3, -⟩, -⟩ := rCor_val h
      rw [hg] at h3; cases h3
  | some g =>
    dsimp only
    obtain ⟨lo, hlo⟩ : ∃ lo, lo = tokI wShort wLong (wrd r 0) := ⟨_, rfl⟩
    have hl0 : lo ≠ 0 → 1 ≤ r.length := fun h => wrd_len (r := r) (i := 0) (tokI_ne (x := wShort) (y := wLong) (by decide) (by decide) (by rw [← hlo]; exact h))
    rw [← hlo]
    by_cases h0 : lo = 0
    · subst h0
      simp only [if_pos]
      rw [show wrd (w :: r) 1 = wrd r 0 from wrd_succ w r 0, show wrd (w :: r) (1 + 1) = wrd r 1 from wrd_succ w r 1]
      obtain ⟨ch, hch⟩ : ∃ ch, ch = tokI wOpens wTightens (wrd r 0) := ⟨_, rfl⟩
      rw [← hch]
      by_cases hc : ch = 0
      · subst hc
        simp only [if_pos]
        by_cases hv : nVal (rCorN w 0 0 0) = true
        · rw [if_pos hv, if_pos hv]
          exact .inr ⟨_, 1, rfl, rfl, by decide, by simp⟩
        · rw [if_neg hv, if_neg hv]
          exact .inl ⟨rfl, rfl⟩
      · simp only [if_neg hc]
        cases ht : numB (wrd r 1) with
        | none =>
          rw [rnum_none ht, if_neg]
          · exact .inl ⟨rfl, rfl⟩
          · intro h
            have := (rCor_val h).2 hc
            omega
        | some t =>
          rw [rnum_some ht]
          dsimp only
          have hl : 1 < r.length := wrd_len (fun e => by rw [e, numB_nil] at ht; cases ht)
          by_cases hv : nVal (rCorN w 0 ch t) = true
          · rw [if_pos hv, if_pos hv]
            exact .inr ⟨_, 3, by rw [drop_tail3], rfl, by decide, by simp; omega⟩
          · rw [if_neg hv, if_neg hv]
            exact .inl ⟨rfl, rfl⟩
    · simp only [if_neg h0]
      have hl1 := hl0 h0
      rw [show wrd (w :: r) 2 = wrd r 1 from wrd_succ w r 1, show wrd (w :: r) (2 + 1) = wrd r 2 from wrd_succ w r 2, wrd_tail, wrd_tail]
      obtain ⟨ch, hch⟩ : ∃ ch, ch = tokI wOpens wTightens (wrd r (0 + 1)) := ⟨_, rfl⟩
      rw [show wrd r 1 = wrd r (0 + 1) from rfl, ← hch]
      by_cases hc : ch = 0
      · subst hc
        simp only [if_pos]
        by_cases hv : nVal (rCorN w lo 0 0) = true
        · rw [if_pos hv, if_pos hv]
          exact .inr ⟨_, 2, by rw [drop_tail], rfl, by decide, by simp; omega⟩
        · rw [if_neg hv, if_neg hv]
          exact .inl ⟨rfl, rfl⟩
      · simp only [if_neg hc]
        rw [show wrd r (1 + 1) = wrd r 2 from rfl]
        cases ht : numB (wrd r 2) with
        | none =>
          rw [rnum_none ht, if_neg]
          · exact .inl ⟨rfl, rfl⟩
          · intro h
            have := (rCor_val h).2 hc
            omega
        | some t =>
          rw [rnum_some ht]
          dsimp only
          have hl : 2 < r.length := wrd_len (fun e => by rw [e, numB_nil] at ht; cases ht)
          by_cases hv : nVal (rCorN w lo ch t) = true
          · rw [if_pos hv, if_pos hv]
            exact .inr ⟨_, 4, by rw [drop_tail4], rfl, by decide, by simp; omega⟩
          · rw [if_neg hv, if_neg hv]
            exact .inl ⟨rfl, rfl⟩
theorem pCor_short {w : Wd} {r r' : List Wd} {n : NoteR} (h : pCor w r = some (n, r')) (hv : nVal n = true) : w.tail.length = 1 := by
  have h9 : ∃ lo ch t, n = rCorN w lo ch t := by
    rw [pCor_wrd] at h
    cases hg : numB w.tail with
    | none => rw [hg] at h; cases h
    | some g =>
      rw [hg] at h
      dsimp only at h
      generalize (if tokI wShort wLong (wrd r 0) = 0 then r else r.tail) = r1 at h
      by_cases hc : tokI wOpens wTightens (wrd r1 0) = 0
      · rw [if_pos hc] at h
        injection h with h; injection h with h _; exact ⟨_, _, _, h.symm⟩
      · rw [if_neg hc] at h
        cases ht : numB (wrd r1 1) with
        | none => rw [ht] at h; cases h
        | some t => rw [ht] at h; injection h with h; injection h with h _; exact ⟨_, _, _, h.symm⟩
  obtain ⟨lo, ch, t, rfl⟩ := h9
  obtain ⟨⟨g, hg, h1, h2⟩, -⟩ := rCor_val hv
  rw [(numB_some hg).1, itoa_1 h1 h2]
theorem lr_numB {w : Wd} (h : w.head? = some 76 ∨ w.head? = some 82) : numB w = none := by
  cases w with
  | nil => rfl
  | cons b t =>
    have hb : digB b = false := by
      rcases h with h | h
      · injection h with h; subst h; decide
      · injection h with h; subst h; decide
    unfold numB
    rw [if_neg]
    simp [hb]
theorem val2 (m : Int) : nVal ⟨2, 0, 0, 0, 0, 0, m, 0, 0, 0⟩ = true ↔ 1 ≤ m ∧ m ≤ 9999 := by
  rw [nVal2]
  simp
theorem rNext_agrees (w : Wd) (r : List Wd) : Agrees (w :: r) (rNext (w :: r)) (pNote (w :: r)) := by
  have hw0 : wrd (w :: r) 0 = w := rfl
  have hsimple : ∀ n, nVal n = true → Agrees (w :: r) (n, 1) (if nVal n then some (n, r) else none) := fun n hv => by
    rw [if_pos hv]
    exact .inr ⟨n, 1, rfl, rfl, by decide, by simp⟩
  unfold rNext pNote pRaw
  dsimp only
  rw [hw0]
  by_cases c1 : w = wInto
  · rw [if_pos c1, if_pos c1]; exact hsimple _ (by decide)
  rw [if_neg c1, if_neg c1]
  by_cases c2 : w = wAnd
  · rw [if_pos c2, if_pos c2]; exact hsimple _ (by decide)
  rw [if_neg c2, if_neg c2]
  by_cases c3 : w = wCrest
  · rw [if_pos c3, if_pos c3]; exact hsimple _ (by decide)
  rw [if_neg c3, if_neg c3]
  by_cases c4 : w = wJump
  · rw [if_pos c4, if_pos c4]; exact hsimple _ (by decide)
  rw [if_neg c4, if_neg c4]
  by_cases c5 : w = wBigjump
  · rw [if_pos c5, if_pos c5]; exact hsimple _ (by decide)
  rw [if_neg c5, if_neg c5]
  by_cases c6 : w = [33]
  · rw [if_pos c6, if_pos c6]; exact hsimple _ (by decide)
  rw [if_neg c6, if_neg c6]
  by_cases c7 : w = [33, 33]
  · rw [if_pos c7, if_pos c7]; exact hsimple _ (by decide)
  rw [if_neg c7, if_neg c7]
  by_cases c8 : w = [33, 33, 33]
  · rw [if_pos c8, if_pos c8]; exact hsimple _ (by decide)
  rw [if_neg c8, if_neg c8]
  by_cases c9 : w = wJunction
  · rw [if_pos c9, if_pos c9, show wrd (w :: r) 2 = wrd r 1 from wrd_succ w r 1, show wrd (w :: r) 1 = wrd r 0 from wrd_succ w r 0, show wrd (w :: r) 3 = wrd r 2 from wrd_succ w r 2]
    by_cases hd : wrd r 1 = wOf ∧ nVal ⟨7, 0, 0, 0, 0, 0, 0, 0, rnum (wrd r 0), rnum (wrd r 2)⟩ = true
    · rw [if_pos hd]
      have hv := (nVal7 _ _ _ _ _ _ _ _ _).1 hd.2
      have ha := rnum_pos (w := wrd r 0) (by omega)
      have hb := rnum_pos (w := wrd r 2) (by omega)
      match r, hd, ha, hb with
      | x :: o :: y :: r3, hd, ha, hb =>
        have ha' : numB x = some (rnum x) := ha
        have hb' : numB y = some (rnum y) := hb
        have ho : o = wOf := hd.1
        have hv' : nVal ⟨7, 0, 0, 0, 0, 0, 0, 0, rnum x, rnum y⟩ = true := hd.2
        unfold pWay
        dsimp only
        rw [ha']
        dsimp only
        rw [if_pos ho, hb']
        dsimp only
        rw [if_pos hv']
        exact .inr ⟨_, 4, rfl, rfl, by decide, by simp⟩
      | [], _, ha, _ => exact absurd ha (by decide)
      | [_], hd, _, _ => exact absurd hd.1 (by show ([] : Wd) ≠ wOf; decide)
      | [_, _], _, _, hb => exact absurd (show numB [] = some (rnum []) from hb) (by decide)
    · rw [if_neg hd]
      refine .inl ⟨?_, rfl⟩
      unfold pWay
      split
      · rfl
      · rename_i n r' he
        rw [if_neg]
        intro hv
        split at he
        · rename_i x o y r3
          split at he
          · cases he
          · rename_i a ha
            split at he
            · rename_i ho
              split at he
              · cases he
              · rename_i b hb
                injection he with he; injection he with he _; subst he
                apply hd
                refine ⟨ho, ?_⟩
                rw [show rnum (wrd (x :: o :: y :: r3) 0) = a from rnum_some ha, show rnum (wrd (x :: o :: y :: r3) 2) = b from rnum_some hb]
                exact hv
            · cases he
        · cases he
  rw [if_neg c9, if_neg c9]
  by_cases c10 : w.head? = some 76 ∨ w.head? = some 82
  · have hm : rnum w = 0 := rnum_none (lr_numB c10)
    rw [hm, if_neg (by decide), if_pos c10]
    by_cases h2 : w.length = 2
    · rw [if_pos ⟨h2, c10⟩]
      exact rCor_agrees w r
    · rw [if_neg (fun h => h2 h.1)]
      refine .inl ⟨?_, rfl⟩
      split
      · rfl
      · rename_i n r' he
        rw [if_neg]
        intro hv
        have := pCor_short he hv
        rw [List.length_tail] at this
        omega
  · rw [if_neg c10]
    have e3 : ¬(w.length = 2 ∧ (w.head? = some 76 ∨ w.head? = some 82)) := fun h => c10 h.2
    rw [if_neg e3]
    cases hn : numB w with
    | none =>
      rw [rnum_none hn, if_neg (by decide)]
      exact .inl ⟨rfl, rfl⟩
    | some m =>
      rw [rnum_some hn]
      have hv : nVal ⟨2, 0, 0, 0, 0, 0, m, 0, 0, 0⟩ = true := (val2 m).2 ⟨(numB_some hn).2.1, (numB_some hn).2.2.1⟩
      rw [if_pos hv]
      exact hsimple _ hv
end Go.Proofs.YtnmipejpjeakbaaGreatDoor
