/- Notes read from a text, plain: what is read is what was written. -/
import Derived.Test.YtcniibngfnkobaaGreatDoorPReadQ
namespace Go.Proofs.YtcniibngfnkobaaGreatDoor
open Go.Lib
theorem takeB_eq {x y : Wd} {r : List Wd} : r = (if (takeB x y r).1 < 0 then [x] else if 0 < (takeB x y r).1 then [y] else []) ++ (takeB x y r).2 := by
  cases r with
  | nil => simp [takeB]
  | cons w r' =>
    unfold takeB
    dsimp only
    split
    · rename_i h; subst h; simp
    · split
      · rename_i h; subst h; simp
      · simp
theorem takeB_rng {x y : Wd} {r : List Wd} : (takeB x y r).1 = -1 ∨ (takeB x y r).1 = 0 ∨ (takeB x y r).1 = 1 := by
  cases r with
  | nil => simp [takeB]
  | cons w r' =>
    unfold takeB
    dsimp only
    split
    · simp
    · split <;> simp
theorem pCor_wds {w : Wd} {r r' : List Wd} {n : NoteR} (hw : w.head? = some 76 ∨ w.head? = some 82) (h : pCor w r = some (n, r')) : w :: r = nWds n ++ r' := by
  unfold pCor at h
  split at h
  · cases h
  · rename_i g hg
    obtain ⟨hg1, -, -, -⟩ := numB_some hg
    dsimp only at h
    have e1 := takeB_eq (x := wShort) (y := wLong) (r := r)
    have e2 := takeB_eq (x := wOpens) (y := wTightens) (r := (takeB wShort wLong r).2)
    have r2 := takeB_rng (x := wOpens) (y := wTightens) (r := (takeB wShort wLong r).2)
    have hh : w = (if (if w.head? = some 76 then (-1 : Int) else 1) < 0 then 76 else 82) :: itoa g := by
      cases w with
      | nil => rcases hw with hw | hw <;> cases hw
      | cons b w' =>
        rw [← hg1]
        simp only [List.head?_cons, Option.some.injEq, List.tail_cons] at hw ⊢
        rcases hw with rfl | rfl
        · rfl
        · rfl
    split at h
    · rename_i hz
      injection h with h; injection h with h1 h2
      subst h1; subst h2
      simp only [nWds, if_true]
      rw [hz] at e2
      simp only [Int.lt_irrefl, if_false, List.nil_append, List.append_nil] at e2 ⊢
      rw [← hh, List.cons_append, ← e2, ← e1]
    · rename_i hz
      split at h
      · cases h
      · rename_i x r3 he
        split at h
        · cases h
        · rename_i t ht
          obtain ⟨ht1, -, -, -⟩ := numB_some ht
          injection h with h; injection h with h1 h2
          subst h1; subst h2
          simp only [nWds, if_true]
          rw [← hh, List.cons_append]
          refine congrArg (w :: ·) ?_
          rw [List.append_assoc]
          refine e1.trans (congrArg (fun z : List Wd => (if (takeB wShort wLong r).1 < 0 then [wShort] else if 0 < (takeB wShort wLong r).1 then [wLong] else []) ++ z) ?_)
          refine e2.trans ?_
          rw [he, ← ht1]
          rcases r2 with q | q | q
          · rw [q]; rfl
          · exact absurd q hz
          · rw [q]; rfl
theorem pWay_wds {r r' : List Wd} {n : NoteR} (h : pWay r = some (n, r')) : wJunction :: r = nWds n ++ r' := by
  unfold pWay at h
  split at h
  · split at h
    · cases h
    · rename_i a ha
      split at h
      · rename_i ho
        split at h
        · cases h
        · rename_i b hb
          injection h with h; injection h with h1 h2
          subst h1; subst h2; subst ho
          rw [(numB_some ha).1, (numB_some hb).1]
          rfl
      · cases h
  · cases h
theorem pRaw_wds {w : Wd} {r r' : List Wd} {n : NoteR} (h : pRaw w r = some (n, r')) : w :: r = nWds n ++ r' := by
  unfold pRaw at h
  split at h
  · rename_i hw; subst hw; injection h with h; injection h with h1 h2; subst h1; subst h2; rfl
  split at h
  · rename_i hw; subst hw; injection h with h; injection h with h1 h2; subst h1; subst h2; rfl
  split at h
  · rename_i hw; subst hw; injection h with h; injection h with h1 h2; subst h1; subst h2; rfl
  split at h
  · rename_i hw; subst hw; injection h with h; injection h with h1 h2; subst h1; subst h2; rfl
  split at h
  · rename_i hw; subst hw; injection h with h; injection h with h1 h2; subst h1; subst h2; rfl
  split at h
  · rename_i hw; subst hw; injection h with h; injection h with h1 h2; subst h1; subst h2; rfl
  split at h
  · rename_i hw; subst hw; injection h with h; injection h with h1 h2; subst h1; subst h2; rfl
  split at h
  · rename_i hw; subst hw; injection h with h; injection h with h1 h2; subst h1; subst h2; rfl
  split at h
  · rename_i hw; subst hw; exact pWay_wds h
  split at h
  · rename_i hw; exact pCor_wds hw h
  split at h
  · cases h
  · rename_i m hm
    injection h with h; injection h with h1 h2; subst h1; subst h2
    rw [(numB_some hm).1]
    rfl
theorem pNote_wds {l r' : List Wd} {n : NoteR} (h : pNote l = some (n, r')) : l = nWds n ++ r' := by
  unfold pNote at h
  split at h
  · cases h
  · split at h
    · cases h
    · rename_i n2 r2 he
      split at h
      · injection h with h; injection h with h1 h2; subst h1; subst h2; exact pRaw_wds he
      · cases h
theorem splitB_ne (s : List UInt8) : splitB s ≠ [] := by
  cases s with
  | nil => simp [splitB]
  | cons b r =>
    unfold splitB
    split
    · simp
    · split <;> simp
theorem splitB_word (w : Wd) (h : 32 ∉ w) : splitB w = [w] := by
  induction w with
  | nil => rfl
  | cons b r ih =>
    simp only [List.mem_cons, not_or] at h
    unfold splitB
    rw [if_neg (fun hh => h.1 hh.symm), ih h.2]
theorem splitB_app (w : Wd) (s : List UInt8) (h : 32 ∉ w) : splitB (w ++ 32 :: s) = w :: splitB s := by
  induction w with
  | nil =>
    show splitB (32 :: s) = _
    rw [splitB, if_pos rfl]
  | cons b r ih =>
    simp only [List.mem_cons, not_or] at h
    rw [List.cons_append, splitB, if_neg (fun hh => h.1 hh.symm), ih h.2]
theorem splitB_join (ws : List Wd) (h0 : ws ≠ []) (h : ∀ w ∈ ws, 32 ∉ w) : splitB (join ws [32]) = ws := by
  induction ws with
  | nil => exact absurd rfl h0
  | cons w ws ih =>
    by_cases hw : ws = []
    · subst hw
      have j1 : ∀ x : Wd, join [x] [32] = x := fun x => by simp [join, List.intercalate]
      rw [j1]
      exact splitB_word w (h w (by simp))
    · rw [join_cons _ _ hw, splitB_app _ _ (h w (by simp)), ih hw fun v hv => h v (by simp [hv])]
theorem no_blank_dec (m : Nat) : (32 : UInt8) ∉ decDigits m := fun hm => by
  have := List.all_eq_true.1 (dec_digs m) 32 hm
  exact absurd this (by decide)
theorem no_blank_itoa {g : Int} (h : 0 ≤ g) : (32 : UInt8) ∉ itoa g := by
  obtain ⟨m, rfl⟩ : ∃ m : Nat, g = (m : Int) := ⟨g.toNat, by omega⟩
  rw [itoa_nonneg]
  exact no_blank_dec m
theorem dec_hd (m : Nat) : ∃ b, (decDigits m).head? = some b ∧ 48 ≤ b.toNat ∧ b.toNat ≤ 57 := by
  cases h : decDigits m with
  | nil => exact absurd h (dec_ne m)
  | cons b r =>
    have := List.all_eq_true.1 (dec_digs m) b (by rw [h]; simp)
    simp only [digB, Bool.and_eq_true, decide_eq_true_eq] at this
    exact ⟨b, rfl, this.1, this.2⟩
/-- A word that begins with none of the known words' letters. -/
theorem pRaw_else {w : Wd} {b : UInt8} (r : List Wd) (hb : w.head? = some b) (h : b ≠ 105 ∧ b ≠ 97 ∧ b ≠ 99 ∧ b ≠ 106 ∧ b ≠ 98 ∧ b ≠ 33) :
    pRaw w r = if b = 76 ∨ b = 82 then pCor w r else match numB w with | none => none | some m => some (⟨2, 0, 0, 0, 0, 0, m, 0, 0, 0⟩, r) := by
  have hne : ∀ v : Wd, v.head? ≠ some b → w ≠ v := fun v hv hh => hv (hh ▸ hb)
  obtain ⟨h1, h2, h3, h4, h5, h6⟩ := h
  unfold pRaw
  rw [if_neg (hne _ (by simp [wInto]; exact Ne.symm h1)), if_neg (hne _ (by simp [wAnd]; exact Ne.symm h2)), if_neg (hne _ (by simp [wCrest]; exact Ne.symm h3)), if_neg (hne _ (by simp [wJump]; exact Ne.symm h4)),
    if_neg (hne _ (by simp [wBigjump]; exact Ne.symm h5)), if_neg (hne _ (by simp; exact Ne.symm h6)), if_neg (hne _ (by simp; exact Ne.symm h6)), if_neg (hne _ (by simp; exact Ne.symm h6)), if_neg (hne _ (by simp [wJunction]; exact Ne.symm h4)), hb]
  by_cases hq : b = 76 ∨ b = 82
  · rw [if_pos hq, if_pos (by simpa using hq)]
  · rw [if_neg hq, if_neg (by simpa using hq)]
    cases numB w <;> rfl
/-- No word that a corner takes stands first. -/
def noTok (r : List Wd) : Prop := ∀ w, r.head? = some w → w ≠ wShort ∧ w ≠ wLong ∧ w ≠ wOpens ∧ w ≠ wTightens
theorem takeB_no {r : List Wd} (x y : Wd) (h : ∀ w, r.head? = some w → w ≠ x ∧ w ≠ y) : takeB x y r = (0, r) := by
  cases r with
  | nil => rfl
  | cons w r' =>
    obtain ⟨h1, h2⟩ := h w rfl
    simp [takeB, h1, h2]
theorem noTok.sl {r : List Wd} (h : noTok r) : takeB wShort wLong r = (0, r) := takeB_no _ _ fun w hw => ⟨(h w hw).1, (h w hw).2.1⟩
theorem noTok.ot {r : List Wd} (h : noTok r) : takeB wOpens wTightens r = (0, r) := takeB_no _ _ fun w hw => ⟨(h w hw).2.2.1, (h w hw).2.2.2⟩
theorem take_x (x y : Wd) (r : List Wd) : takeB x y (x :: r) = (-1, r) := by simp [takeB]
theorem take_y (x y : Wd) (r : List Wd) (h : y ≠ x) : takeB x y (y :: r) = (1, r) := by simp [takeB, h]
theorem sl_o (r : List Wd) : takeB wShort wLong (wOpens :: r) = (0, wOpens :: r) := takeB_no _ _ fun w hw => by cases hw; exact ⟨by decide, by decide⟩
theorem sl_t (r : List Wd) : takeB wShort wLong (wTightens :: r) = (0, wTightens :: r) := takeB_no _ _ fun w hw => by cases hw; exact ⟨by decide, by decide⟩
theorem pRaw_way (r : List Wd) : pRaw wJunction r = pWay r := rfl
theorem pNote_nWds {n : NoteR} (hv : nVal n = true) (r : List Wd) (hr : noTok r) : pNote (nWds n ++ r) = some (n, r) := by
  have key : ∀ w r0, nWds n ++ r = w :: r0 → pRaw w r0 = some (n, r) → pNote (nWds n ++ r) = some (n, r) := fun w r0 e h => by
    rw [e]
    simp only [pNote, h, hv, if_true]
  obtain ⟨k, tu, gr, lo, ch, ton, me, si, wa, ar⟩ := n
  by_cases k1 : k = 1
  · subst k1
    have hv0 := hv
    rw [nVal1] at hv0
    obtain ⟨⟨htu, hgr, hlo, hch⟩, rfl, rfl, rfl, rfl⟩ := hv0
    have hg := numB_itoa (g := gr) hgr.1 (by omega)
    have hlo : lo = -1 ∨ lo = 0 ∨ lo = 1 := by omega
    have hL : ∀ (a : List UInt8) (q : List Wd), pRaw (76 :: a) q = pCor (76 :: a) q := fun a q => (pRaw_else q rfl (by decide)).trans (if_pos (.inl rfl))
    have hR : ∀ (a : List UInt8) (q : List Wd), pRaw (82 :: a) q = pCor (82 :: a) q := fun a q => (pRaw_else q rfl (by decide)).trans (if_pos (.inr rfl))
    have so := sl_o
    have st := sl_t
    have t1 := take_x wShort wLong
    have t2 := fun r => take_y wShort wLong r (by decide)
    have t3 := take_x wOpens wTightens
    have t4 := fun r => take_y wOpens wTightens r (by decide)
    have n1 := hr.sl
    have n2 := hr.ot
    rcases hch with ⟨rfl, rfl⟩ | ⟨rfl, hto⟩ | ⟨rfl, hto⟩
    · rcases htu with rfl | rfl <;> rcases hlo with rfl | rfl | rfl <;> refine key _ _ rfl ?_ <;> (first | rw [if_pos (by decide : (-1 : Int) < 0)] | skip) <;>
        simp [hL, hR, pCor, hg, t1, t2, n1, n2]
    · have ht := numB_itoa (g := ton) (by omega) (by omega)
      rcases htu with rfl | rfl <;> rcases hlo with rfl | rfl | rfl <;> refine key _ _ rfl ?_ <;>
        simp [hL, hR, pCor, hg, ht, t1, t2, t3, so]
    · have ht := numB_itoa (g := ton) (by omega) (by omega)
      rcases htu with rfl | rfl <;> rcases hlo with rfl | rfl | rfl <;> refine key _ _ rfl ?_ <;>
        simp [hL, hR, pCor, hg, ht, t1, t2, t4, st]
  by_cases k2 : k = 2
  · subst k2
    have hv0 := hv
    rw [nVal2] at hv0
    obtain ⟨⟨rfl, rfl, rfl, rfl, rfl⟩, h1, h2, rfl, rfl, rfl⟩ := hv0
    have hm := numB_itoa h1 h2
    obtain ⟨m, rfl⟩ : ∃ m : Nat, me = (m : Int) := ⟨me.toNat, by omega⟩
    obtain ⟨b, hb, h3, h4⟩ := dec_hd m
    rw [← itoa_nonneg] at hb
    have hq : ∀ c : UInt8, 57 < c.toNat ∨ c.toNat < 48 → b ≠ c := fun c hc hh => by subst hh; omega
    refine key (itoa (m : Int)) r rfl ?_
    rw [pRaw_else r hb ⟨hq _ (by decide), hq _ (by decide), hq _ (by decide), hq _ (by decide), hq _ (by decide), hq _ (by decide)⟩, if_neg (by rintro (h | h); exact hq 76 (by decide) h; exact hq 82 (by decide) h), hm]
  by_cases k3 : k = 3
  · subst k3
    have hv0 := hv
    rw [nVal3] at hv0
    obtain ⟨⟨rfl, rfl, rfl, rfl, rfl⟩, rfl, rfl, rfl, rfl⟩ := hv0
    exact key wInto r rfl rfl
  by_cases k4 : k = 4
  · subst k4
    have hv0 := hv
    rw [nVal4] at hv0
    obtain ⟨⟨rfl, rfl, rfl, rfl, rfl⟩, rfl, rfl, rfl, rfl⟩ := hv0
    exact key wAnd r rfl rfl
  by_cases k5 : k = 5
  · subst k5
    have hv0 := hv
    rw [nVal5] at hv0
    obtain ⟨⟨rfl, rfl, rfl, rfl, rfl⟩, rfl, h1, h2, rfl, rfl⟩ := hv0
    rcases (show si = 1 ∨ si = 2 ∨ si = 3 by omega) with rfl | rfl | rfl
    · exact key wCrest r rfl rfl
    · exact key wJump r rfl rfl
    · exact key wBigjump r rfl rfl
  by_cases k6 : k = 6
  · subst k6
    have hv0 := hv
    rw [nVal6] at hv0
    obtain ⟨⟨rfl, rfl, rfl, rfl, rfl⟩, rfl, h1, h2, rfl, rfl⟩ := hv0
    rcases (show si = 1 ∨ si = 2 ∨ si = 3 by omega) with rfl | rfl | rfl
    · exact key [33] r rfl rfl
    · exact key [33, 33] r rfl rfl
    · exact key [33, 33, 33] r rfl rfl
  by_cases k7 : k = 7
  · subst k7
    have hv0 := hv
    rw [nVal7] at hv0
    obtain ⟨⟨rfl, rfl, rfl, rfl, rfl⟩, rfl, rfl, h1, h2, h3, h4⟩ := hv0
    have ha := numB_itoa (g := wa) (by omega) (by omega)
    have hb := numB_itoa (g := ar) (by omega) (by omega)
    refine key wJunction (itoa wa :: wOf :: itoa ar :: r) rfl ?_
    rw [pRaw_way]
    simp [pWay, ha, hb]
  exact absurd (hv.symm.trans (nVal0 tu gr lo ch ton me si wa ar k k1 k2 k3 k4 k5 k6 k7)) (by decide)
theorem itoa_hd {g : Int} (h : 0 ≤ g) : ∃ b, (itoa g).head? = some b ∧ 48 ≤ b.toNat ∧ b.toNat ≤ 57 := by
  obtain ⟨m, rfl⟩ : ∃ m : Nat, g = (m : Int) := ⟨g.toNat, by omega⟩
  rw [itoa_nonneg]
  exact dec_hd m
/-- No note's first word is one that a corner takes. -/
theorem nWds_tok {n : NoteR} (hv : nVal n = true) (r : List Wd) : noTok (nWds n ++ r) := by
  intro w hw
  have hd : ∀ v : Wd, (∃ b, v.head? = some b ∧ b ≠ 115 ∧ b ≠ 108 ∧ b ≠ 111 ∧ b ≠ 116) → v ≠ wShort ∧ v ≠ wLong ∧ v ≠ wOpens ∧ v ≠ wTightens := fun v ⟨b, hb, h1, h2, h3, h4⟩ => by
    refine ⟨?_, ?_, ?_, ?_⟩ <;> intro hh <;> subst hh <;> simp [wShort, wLong, wOpens, wTightens] at hb
    · exact h1 hb.symm
    · exact h2 hb.symm
    · exact h3 hb.symm
    · exact h4 hb.symm
  obtain ⟨k, tu, gr, lo, ch, ton, me, si, wa, ar⟩ := n
  by_cases k1 : k = 1
  · subst k1
    simp only [nWds, if_true, List.cons_append, List.head?_cons, Option.some.injEq] at hw
    subst hw
    refine hd _ ⟨_, rfl, ?_⟩
    split <;> decide
  by_cases k2 : k = 2
  · subst k2
    rw [nVal2] at hv
    have hw : itoa me = w := by simpa [nWds] using hw
    subst hw
    obtain ⟨b, hb, h1, h2⟩ := itoa_hd (g := me) (by omega)
    have hq : ∀ c : UInt8, 57 < c.toNat ∨ c.toNat < 48 → b ≠ c := fun c hc hh => by subst hh; omega
    exact hd _ ⟨b, hb, hq _ (by decide), hq _ (by decide), hq _ (by decide), hq _ (by decide)⟩
  have h0 : w ∈ [wInto, wAnd, wCrest, wJump, wBigjump, [33], [33, 33], [33, 33, 33], wJunction] := by
    simp only [nWds, if_neg k1, if_neg k2] at hw
    (repeat' split at hw) <;> simp at hw <;> subst hw <;> simp
  refine hd w ?_
  simp only [List.mem_cons, List.not_mem_nil, or_false] at h0
  rcases h0 with rfl | rfl | rfl | rfl | rfl | rfl | rfl | rfl | rfl <;> exact ⟨_, rfl, by decide, by decide, by decide, by decide⟩
theorem nWds_blank {n : NoteR} (hv : nVal n = true) : ∀ w ∈ nWds n, (32 : UInt8) ∉ w := by
  intro w hw
  obtain ⟨k, tu, gr, lo, ch, ton, me, si, wa, ar⟩ := n
  by_cases k1 : k = 1
  · subst k1
    rw [nVal1] at hv
    obtain ⟨⟨htu, hgr, hlo, hch⟩, -, -, -, -⟩ := hv
    have h1 := no_blank_itoa (g := gr) (by omega)
    simp only [nWds, if_true, List.mem_cons, List.mem_append] at hw
    rcases hw with rfl | hw | hw
    · simp only [List.mem_cons, not_or]
      refine ⟨?_, h1⟩
      split <;> decide
    · (repeat' split at hw) <;> simp at hw <;> subst hw <;> decide
    · rcases hch with ⟨rfl, rfl⟩ | ⟨rfl, hto⟩ | ⟨rfl, hto⟩
      · simp at hw
      · have h2 := no_blank_itoa (g := ton) (by omega)
        simp at hw
        rcases hw with rfl | rfl
        · decide
        · exact h2
      · have h2 := no_blank_itoa (g := ton) (by omega)
        simp at hw
        rcases hw with rfl | rfl
        · decide
        · exact h2
  by_cases k2 : k = 2
  · subst k2
    rw [nVal2] at hv
    have hw : w = itoa me := by simpa [nWds] using hw
    subst hw
    exact no_blank_itoa (by omega)
  by_cases k7 : k = 7
  · subst k7
    rw [nVal7] at hv
    have hw : w = wJunction ∨ w = itoa wa ∨ w = wOf ∨ w = itoa ar := by simpa [nWds] using hw
    rcases hw with rfl | rfl | rfl | rfl
    · decide
    · exact no_blank_itoa (by omega)
    · decide
    · exact no_blank_itoa (by omega)
  have h0 : w ∈ [wInto, wAnd, wCrest, wJump, wBigjump, [33], [33, 33], [33, 33, 33]] := by
    by_cases k3 : k = 3
    · subst k3; simp [nWds] at hw; subst hw; simp
    by_cases k4 : k = 4
    · subst k4; simp [nWds] at hw; subst hw; simp
    by_cases k5 : k = 5
    · subst k5
      simp [nWds] at hw
      (repeat' split at hw) <;> simp at hw <;> subst hw <;> simp
    by_cases k6 : k = 6
    · subst k6
      simp [nWds] at hw
      (repeat' split at hw) <;> simp at hw <;> subst hw <;> simp
    exact absurd (hv.symm.trans (nVal0 tu gr lo ch ton me si wa ar k k1 k2 k3 k4 k5 k6 k7)) (by decide)
  simp only [List.mem_cons, List.not_mem_nil, or_false] at h0
  rcases h0 with rfl | rfl | rfl | rfl | rfl | rfl | rfl | rfl <;> decide
theorem flat_ne {L : List NoteR} (h : L ≠ []) : L.flatMap nWds ≠ [] := by
  cases L with
  | nil => exact absurd rfl h
  | cons n L => rw [List.flatMap_cons]; exact List.append_ne_nil_of_left_ne_nil (nWds_ne n) _
theorem join_flat (L : List NoteR) : join (L.map nTxt) [32] = join (L.flatMap nWds) [32] := by
  induction L with
  | nil => rfl
  | cons n L ih =>
    by_cases hL : L = []
    · subst hL
      have j1 : ∀ x : Wd, join [x] [32] = x := fun x => by simp [join, List.intercalate]
      rw [List.map_cons, List.map_nil, j1, nTxt_join, List.flatMap_cons, List.flatMap_nil, List.append_nil]
    · rw [List.map_cons, join_cons _ _ (by simpa using hL), ih, List.flatMap_cons, join_append _ _ (nWds_ne n) (flat_ne hL), nTxt_join]
theorem pAll_flat (L : List NoteR) (h : L.all nVal = true) : pAll (L.flatMap nWds) = some L := by
  induction L with
  | nil => exact pAll_nil
  | cons n L ih =>
    rw [List.all_cons, Bool.and_eq_true] at h
    have ht : noTok (L.flatMap nWds) := by
      cases L with
      | nil => intro w hw; cases hw
      | cons m L =>
        rw [List.flatMap_cons]
        exact nWds_tok (by have := h.2; rw [List.all_cons, Bool.and_eq_true] at this; exact this.1) _
    rw [List.flatMap_cons, pAll_some (pNote_nWds h.1 _ ht), ih h.2]
    rfl
/-- What is written is read back. -/
theorem read_write (L : List NoteR) (h : L.all nVal = true) : readB (join (L.map nTxt) [32]) = some L := by
  unfold readB wordsB
  by_cases hL : L = []
  · subst hL
    rw [if_pos (show join (List.map nTxt []) [32] = [] from rfl)]
    exact pAll_nil
  have hb : ∀ w ∈ L.flatMap nWds, (32 : UInt8) ∉ w := fun w hw => by
    obtain ⟨n, hn, hw⟩ := List.mem_flatMap.1 hw
    exact nWds_blank (List.all_eq_true.1 h n hn) w hw
  rw [join_flat, splitB_join _ (flat_ne hL) hb]
  split
  · rename_i he
    have := splitB_join _ (flat_ne hL) hb
    rw [he] at this
    have h1 : L.flatMap nWds = [[]] := this.symm
    exfalso
    have h2 := pAll_flat L h
    rw [h1, pAll_none (by simp) (by rfl)] at h2
    cases h2
  · exact pAll_flat L h
end Go.Proofs.YtcniibngfnkobaaGreatDoor
