/- Notes read from a text, plain: the words of a note; reading and writing are inverse. -/
import Derived.Test.YtcniibngfnkobaaGreatDoorPNoteP
import Derived.Lib.Join
namespace Go.Proofs.YtcniibngfnkobaaGreatDoor
open Go.Lib
theorem snoc_ind {α : Type} {p : List α → Prop} (nil : p []) (snoc : ∀ l a, p l → p (l ++ [a])) (l : List α) : p l := by
  have h : ∀ r : List α, p r.reverse := fun r => by
    induction r with
    | nil => exact nil
    | cons a r ih => rw [List.reverse_cons]; exact snoc _ _ ih
  have h2 := h l.reverse
  rwa [List.reverse_reverse] at h2
theorem head_app {α : Type} {xs : List α} (ys : List α) (h : xs ≠ []) : (xs ++ ys).head? = xs.head? := by
  cases xs with
  | nil => exact absurd rfl h
  | cons x xs => rfl
theorem dig_of (d : Nat) (h : d < 10) : (UInt8.ofNat (48 + d)).toNat = 48 + d := by
  rw [UInt8.toNat_ofNat']
  omega
theorem numV_snoc (w : Wd) (b : UInt8) : numV (w ++ [b]) = 10 * numV w + ((b.toNat : Int) - 48) := by simp [numV]
theorem numV_dec (m : Nat) : numV (decDigits m) = m := by
  induction m using Nat.strongRecOn with
  | ind m ih =>
    rw [decDigits]
    split
    · rename_i h
      simp only [numV, List.foldl_cons, List.foldl_nil, dig_of m h]
      omega
    · rename_i h
      rw [numV_snoc, ih _ (by omega), dig_of _ (by omega)]
      omega
theorem dec_digs (m : Nat) : (decDigits m).all digB = true := by
  induction m using Nat.strongRecOn with
  | ind m ih =>
    rw [decDigits]
    split
    · rename_i h
      simp only [List.all_cons, List.all_nil, digB, dig_of m h, Bool.and_true, Bool.and_eq_true, decide_eq_true_eq]
      omega
    · rename_i h
      rw [List.all_append, ih _ (by omega), Bool.true_and]
      simp only [List.all_cons, List.all_nil, digB, dig_of (m % 10) (by omega), Bool.and_true, Bool.and_eq_true, decide_eq_true_eq]
      omega
theorem dec_ne (m : Nat) : decDigits m ≠ [] := by
  rw [decDigits]
  split <;> simp
theorem dec_len (m k : Nat) (h : m < 10 ^ (k + 1)) : (decDigits m).length ≤ k + 1 := by
  induction k generalizing m with
  | zero =>
    rw [decDigits, dif_pos (by simpa using h)]
    simp
  | succ k ih =>
    rw [decDigits]
    split
    · simp
    · have := ih (m / 10) (by rw [Nat.pow_succ] at h; omega)
      simp; omega
theorem dec_head (m : Nat) (h : 0 < m) : (decDigits m).head? ≠ some 48 := by
  induction m using Nat.strongRecOn with
  | ind m ih =>
    rw [decDigits]
    split
    · rename_i h9
      intro hh
      simp only [List.head?_cons, Option.some.injEq] at hh
      have := congrArg UInt8.toNat hh
      rw [dig_of m h9] at this
      change 48 + m = 48 at this
      omega
    · rename_i h9
      have := ih (m / 10) (by omega) (by omega)
      rw [head_app _ (dec_ne _)]
      exact this
theorem numV_pos (w : Wd) (h : w.all digB = true) (h0 : w ≠ []) (h1 : w.head? ≠ some 48) : 1 ≤ numV w := by
  induction w using snoc_ind with
  | nil => exact absurd rfl h0
  | snoc w b ih =>
    rw [List.all_append, Bool.and_eq_true] at h
    have hb := h.2
    simp only [List.all_cons, List.all_nil, digB, Bool.and_true, Bool.and_eq_true, decide_eq_true_eq] at hb
    rw [numV_snoc]
    by_cases hw : w = []
    · subst hw
      have : b.toNat ≠ 48 := fun hh => h1 (by
        have : b = 48 := UInt8.toNat_inj.1 hh
        rw [this]; rfl)
      simp [numV]
      omega
    · have := ih h.1 hw (by rw [head_app _ hw] at h1; exact h1)
      omega
theorem dec_numV (w : Wd) (h : w.all digB = true) (h0 : w ≠ []) (h1 : w.head? ≠ some 48) : decDigits (numV w).toNat = w := by
  induction w using snoc_ind with
  | nil => exact absurd rfl h0
  | snoc w b ih =>
    rw [List.all_append, Bool.and_eq_true] at h
    have hb := h.2
    simp only [List.all_cons, List.all_nil, digB, Bool.and_true, Bool.and_eq_true, decide_eq_true_eq] at hb
    rw [numV_snoc]
    by_cases hw : w = []
    · subst hw
      have e : (10 * numV [] + ((b.toNat : Int) - 48)).toNat = b.toNat - 48 := by simp [numV]; omega
      rw [e, decDigits, dif_pos (by omega), show 48 + (b.toNat - 48) = b.toNat by omega]
      simp
    · have h2 : w.head? ≠ some 48 := by rw [head_app _ hw] at h1; exact h1
      have h3 := ih h.1 hw h2
      have h4 := numV_pos w h.1 hw h2
      have e : (10 * numV w + ((b.toNat : Int) - 48)).toNat = 10 * (numV w).toNat + (b.toNat - 48) := by omega
      rw [e, decDigits, dif_neg (by omega), show (10 * (numV w).toNat + (b.toNat - 48)) / 10 = (numV w).toNat by omega, show 48 + (10 * (numV w).toNat + (b.toNat - 48)) % 10 = b.toNat by omega, h3]
      simp
theorem numB_some {w : Wd} {g : Int} (h : numB w = some g) : w = itoa g ∧ 1 ≤ g ∧ g ≤ 9999 ∧ g = numV w := by
  unfold numB at h
  split at h
  · rename_i hc
    injection h with h
    subst h
    simp only [Bool.and_eq_true, decide_eq_true_eq, bne_iff_ne] at hc
    obtain ⟨⟨⟨h1, h2⟩, h3⟩, h4⟩ := hc
    have h0 : w ≠ [] := fun hh => by subst hh; simp at h1
    have h5 := numV_pos w h4 h0 h3
    have h6 := dec_numV w h4 h0 h3
    refine ⟨?_, h5, ?_, rfl⟩
    · rw [show numV w = ((numV w).toNat : Int) by omega, itoa_nonneg, h6]
    · have h7 : ∀ (v : Wd) (k : Nat), v.all digB = true → v.length ≤ k → numV v < 10 ^ k := by
        intro v
        induction v using snoc_ind with
        | nil => intro k _ _; simp [numV]; exact Int.pow_pos (by decide)
        | snoc v b ih =>
          intro k hv hk
          rw [List.all_append, Bool.and_eq_true] at hv
          have hb := hv.2
          simp only [List.all_cons, List.all_nil, digB, Bool.and_true, Bool.and_eq_true, decide_eq_true_eq] at hb
          cases k with
          | zero => simp at hk
          | succ k =>
            have := ih k hv.1 (by simp at hk; omega)
            rw [numV_snoc, Int.pow_succ]
            omega
      have := h7 w 4 h4 h2
      omega
  · cases h
theorem numB_itoa {g : Int} (h1 : 1 ≤ g) (h2 : g ≤ 9999) : numB (itoa g) = some g := by
  obtain ⟨m, rfl⟩ : ∃ m : Nat, g = (m : Int) := ⟨g.toNat, by omega⟩
  rw [itoa_nonneg]
  unfold numB
  rw [if_pos, numV_dec]
  simp only [Bool.and_eq_true, decide_eq_true_eq, bne_iff_ne]
  refine ⟨⟨⟨?_, dec_len m 3 (by omega)⟩, dec_head m (by omega)⟩, dec_digs m⟩
  exact List.length_pos_iff.2 (dec_ne m)
/-- The words of a note's text. -/
def nWds (n : NoteR) : List Wd :=
  if n.k = 1 then ((if n.tu < 0 then 76 else 82) :: itoa n.gr) :: ((if n.lo < 0 then [wShort] else if 0 < n.lo then [wLong] else []) ++ (if n.ch < 0 then [wOpens, itoa n.ton] else if 0 < n.ch then [wTightens, itoa n.ton] else []))
  else if n.k = 2 then [itoa n.me]
  else if n.k = 3 then [wInto]
  else if n.k = 4 then [wAnd]
  else if n.k = 5 then (if n.si = 1 then [wCrest] else if n.si = 2 then [wJump] else [wBigjump])
  else if n.k = 6 then (if n.si = 1 then [[33]] else if n.si = 2 then [[33, 33]] else [[33, 33, 33]])
  else [wJunction, itoa n.wa, wOf, itoa n.ar]
theorem join_cons (x : Wd) (xs : List Wd) (h : xs ≠ []) : join (x :: xs) [32] = x ++ 32 :: join xs [32] := by
  cases xs with
  | nil => exact absurd rfl h
  | cons y ys => simp [join, List.intercalate_cons_cons]
theorem join_append (xs ys : List Wd) (h1 : xs ≠ []) (h2 : ys ≠ []) : join (xs ++ ys) [32] = join xs [32] ++ 32 :: join ys [32] := by
  induction xs with
  | nil => exact absurd rfl h1
  | cons x xs ih =>
    by_cases hx : xs = []
    · subst hx
      rw [List.singleton_append, join_cons _ _ h2]
      simp [join, List.intercalate]
    · rw [List.cons_append, join_cons _ _ (by simp [hx]), join_cons _ _ hx, ih hx]
      simp
theorem nTxt_join (n : NoteR) : nTxt n = join (nWds n) [32] := by
  have j1 : ∀ x : Wd, join [x] [32] = x := fun x => by simp [join, List.intercalate]
  have j2 : ∀ x y : Wd, join [x, y] [32] = x ++ 32 :: y := fun x y => by rw [join_cons _ _ (by simp), j1]
  have j3 : ∀ x y z : Wd, join [x, y, z] [32] = x ++ 32 :: (y ++ 32 :: z) := fun x y z => by rw [join_cons _ _ (by simp), j2]
  have j4 : ∀ x y z u : Wd, join [x, y, z, u] [32] = x ++ 32 :: (y ++ 32 :: (z ++ 32 :: u)) := fun x y z u => by rw [join_cons _ _ (by simp), j3]
  unfold nTxt nWds
  split
  · by_cases h1 : n.tu < 0 <;> by_cases h2 : n.lo < 0 <;> by_cases h3 : 0 < n.lo <;> by_cases h4 : n.ch < 0 <;> by_cases h5 : 0 < n.ch <;>
      simp [h1, h2, h3, h4, h5, j1, j2, j3, j4, wShort, wLong, wOpens, wTightens]
  · split
    · rw [j1]
    · split
      · rw [j1]; rfl
      · split
        · rw [j1]; rfl
        · split
          · split
            · rw [j1]; rfl
            · split
              · rw [j1]; rfl
              · rw [j1]; rfl
          · split
            · split
              · rw [j1]
              · split
                · rw [j1]
                · rw [j1]
            · rw [j4]
              simp [wJunction, wOf]
theorem nWds_ne (n : NoteR) : nWds n ≠ [] := by
  unfold nWds
  split
  · simp
  · split
    · simp
    · split
      · simp
      · split
        · simp
        · split
          · split
            · simp
            · split <;> simp
          · split
            · split
              · simp
              · split <;> simp
            · simp
end Go.Proofs.YtcniibngfnkobaaGreatDoor
