/- Notes, plain: which notes are valid, the text of a valid note (ASCII), how long a text takes. -/
import Derived.Lib.ItoaLen
import Derived.Test.YtogkmnopggmdjaaGreatDoorPOrdM
import Derived.Test.YtogkmnopggmdjaaGreatDoorPCorn
import Derived.Test.YtogkmnopggmdjaaGreatDoorPValid
import Derived.Test.YtogkmnopggmdjaaGreatDoorPReg7
import Derived.Test.YtogkmnopggmdjaaGreatDoorPReg
import Derived.Test.YtogkmnopggmdjaaGreatDoorPShelf
namespace Go.Proofs.YtogkmnopggmdjaaGreatDoor
open Go.Lib
/-- A note: ten numbers. -/
structure NoteR where
  k : Int
  tu : Int
  gr : Int
  lo : Int
  ch : Int
  ton : Int
  me : Int
  si : Int
  wa : Int
  ar : Int
/-- Which notes are valid. -/
def nCor (n : NoteR) : Prop := (n.tu = -1 ∨ n.tu = 1) ∧ (1 ≤ n.gr ∧ n.gr ≤ 9) ∧ (-1 ≤ n.lo ∧ n.lo ≤ 1) ∧ ((n.ch = 0 ∧ n.ton = 0) ∨ (n.ch = -1 ∧ n.gr + 1 ≤ n.ton ∧ n.ton ≤ 9) ∨ (n.ch = 1 ∧ 1 ≤ n.ton ∧ n.ton ≤ n.gr - 1))
def nNoCor (n : NoteR) : Prop := n.tu = 0 ∧ n.gr = 0 ∧ n.lo = 0 ∧ n.ch = 0 ∧ n.ton = 0
instance (n : NoteR) : Decidable (nCor n) := by unfold nCor; infer_instance
instance (n : NoteR) : Decidable (nNoCor n) := by unfold nNoCor; infer_instance
def nVal (n : NoteR) : Bool :=
  if n.k = 1 then decide (nCor n ∧ n.me = 0 ∧ n.si = 0 ∧ n.wa = 0 ∧ n.ar = 0)
  else if n.k = 2 then decide (nNoCor n ∧ 1 ≤ n.me ∧ n.me ≤ 9999 ∧ n.si = 0 ∧ n.wa = 0 ∧ n.ar = 0)
  else if n.k = 3 ∨ n.k = 4 then decide (nNoCor n ∧ n.me = 0 ∧ n.si = 0 ∧ n.wa = 0 ∧ n.ar = 0)
  else if n.k = 5 ∨ n.k = 6 then decide (nNoCor n ∧ n.me = 0 ∧ 1 ≤ n.si ∧ n.si ≤ 3 ∧ n.wa = 0 ∧ n.ar = 0)
  else if n.k = 7 then decide (nNoCor n ∧ n.me = 0 ∧ n.si = 0 ∧ 2 ≤ n.ar ∧ n.ar ≤ 6 ∧ 1 ≤ n.wa ∧ n.wa ≤ n.ar)
  else false
section
variable (tu gr lo ch ton me si wa ar : Int)
theorem nVal1 : nVal ⟨1, tu, gr, lo, ch, ton, me, si, wa, ar⟩ = true ↔ ((tu = -1 ∨ tu = 1) ∧ (1 ≤ gr ∧ gr ≤ 9) ∧ (-1 ≤ lo ∧ lo ≤ 1) ∧ ((ch = 0 ∧ ton = 0) ∨ (ch = -1 ∧ gr + 1 ≤ ton ∧ ton ≤ 9) ∨ (ch = 1 ∧ 1 ≤ ton ∧ ton ≤ gr - 1))) ∧ me = 0 ∧ si = 0 ∧ wa = 0 ∧ ar = 0 := decide_eq_true_iff
theorem nVal2 : nVal ⟨2, tu, gr, lo, ch, ton, me, si, wa, ar⟩ = true ↔ (tu = 0 ∧ gr = 0 ∧ lo = 0 ∧ ch = 0 ∧ ton = 0) ∧ 1 ≤ me ∧ me ≤ 9999 ∧ si = 0 ∧ wa = 0 ∧ ar = 0 := decide_eq_true_iff
theorem nVal3 : nVal ⟨3, tu, gr, lo, ch, ton, me, si, wa, ar⟩ = true ↔ (tu = 0 ∧ gr = 0 ∧ lo = 0 ∧ ch = 0 ∧ ton = 0) ∧ me = 0 ∧ si = 0 ∧ wa = 0 ∧ ar = 0 := decide_eq_true_iff
theorem nVal4 : nVal ⟨4, tu, gr, lo, ch, ton, me, si, wa, ar⟩ = true ↔ (tu = 0 ∧ gr = 0 ∧ lo = 0 ∧ ch = 0 ∧ ton = 0) ∧ me = 0 ∧ si = 0 ∧ wa = 0 ∧ ar = 0 := decide_eq_true_iff
theorem nVal5 : nVal ⟨5, tu, gr, lo, ch, ton, me, si, wa, ar⟩ = true ↔ (tu = 0 ∧ gr = 0 ∧ lo = 0 ∧ ch = 0 ∧ ton = 0) ∧ me = 0 ∧ 1 ≤ si ∧ si ≤ 3 ∧ wa = 0 ∧ ar = 0 := decide_eq_true_iff
theorem nVal6 : nVal ⟨6, tu, gr, lo, ch, ton, me, si, wa, ar⟩ = true ↔ (tu = 0 ∧ gr = 0 ∧ lo = 0 ∧ ch = 0 ∧ ton = 0) ∧ me = 0 ∧ 1 ≤ si ∧ si ≤ 3 ∧ wa = 0 ∧ ar = 0 := decide_eq_true_iff
theorem nVal7 : nVal ⟨7, tu, gr, lo, ch, ton, me, si, wa, ar⟩ = true ↔ (tu = 0 ∧ gr = 0 ∧ lo = 0 ∧ ch = 0 ∧ ton = 0) ∧ me = 0 ∧ si = 0 ∧ 2 ≤ ar ∧ ar ≤ 6 ∧ 1 ≤ wa ∧ wa ≤ ar := decide_eq_true_iff
theorem nVal0 (k : Int) (m1 : ¬k = 1) (m2 : ¬k = 2) (m3 : ¬k = 3) (m4 : ¬k = 4) (m5 : ¬k = 5) (m6 : ¬k = 6) (m7 : ¬k = 7) : nVal ⟨k, tu, gr, lo, ch, ton, me, si, wa, ar⟩ = false := by
  simp [nVal, *]
end
def nbs (l : List UInt8) : ByteArray := ⟨l.toArray⟩
theorem nbs_size (t : List UInt8) : (nbs t).size = t.length := by simp [nbs, ByteArray.size]
theorem nbs_get (t : List UInt8) (p : Nat) (h : p < (nbs t).size) : t[p]? = some ((nbs t)[p]'h) := by
  have h' : p < t.length := by rw [← nbs_size]; exact h
  rw [List.getElem?_eq_getElem h']
  rfl
/-- The text of a note. -/
def nTxt (n : NoteR) : List UInt8 :=
  if n.k = 1 then (if n.tu < 0 then [76] else [82]) ++ itoa n.gr ++ (if n.lo < 0 then [32, 115, 104, 111, 114, 116] else if 0 < n.lo then [32, 108, 111, 110, 103] else []) ++ (if n.ch < 0 then [32, 111, 112, 101, 110, 115, 32] ++ itoa n.ton else if 0 < n.ch then [32, 116, 105, 103, 104, 116, 101, 110, 115, 32] ++ itoa n.ton else [])
  else if n.k = 2 then itoa n.me
  else if n.k = 3 then [105, 110, 116, 111]
  else if n.k = 4 then [97, 110, 100]
  else if n.k = 5 then (if n.si = 1 then [99, 114, 101, 115, 116] else if n.si = 2 then [106, 117, 109, 112] else [98, 105, 103, 106, 117, 109, 112])
  else if n.k = 6 then (if n.si = 1 then [33] else if n.si = 2 then [33, 33] else [33, 33, 33])
  else [106, 117, 110, 99, 116, 105, 111, 110, 32] ++ itoa n.wa ++ [32, 111, 102, 32] ++ itoa n.ar
/-- ASCII. -/
def asc (l : List UInt8) : Prop := ∀ b ∈ l, b < 128
theorem asc_append {a b : List UInt8} (ha : asc a) (hb : asc b) : asc (a ++ b) := fun x hx => by
  rcases List.mem_append.1 hx with h | h
  · exact ha x h
  · exact hb x h
theorem asc_digit (u : Nat) (h : u < 10) : UInt8.ofNat (48 + u) < 128 := by
  have : ∀ v : Fin 10, UInt8.ofNat (48 + v.val) < 128 := by decide
  exact this ⟨u, h⟩
theorem asc_dec (u : Nat) : asc (decDigits u) := by
  induction u using Nat.strongRecOn with
  | ind u ih =>
    rw [decDigits]
    split
    · rename_i h
      intro b hb
      rw [List.mem_singleton] at hb
      rw [hb]
      exact asc_digit u h
    · rename_i h
      refine asc_append (ih _ (by omega)) ?_
      intro b hb
      rw [List.mem_singleton] at hb
      rw [hb]
      exact asc_digit _ (by omega)
theorem asc_itoa (n : Int) : asc (itoa n) := by
  unfold itoa
  split
  · intro b hb
    rcases List.mem_cons.1 hb with rfl | h
    · decide
    · exact asc_dec _ b h
  · exact asc_dec _
theorem asc_nTxt (n : NoteR) : asc (nTxt n) := by
  have h0 : ∀ l : List UInt8, (l.all fun b => decide (b < 128)) = true → asc l := fun l h b hb => by simpa using List.all_eq_true.1 h b hb
  unfold nTxt
  have hi := asc_itoa
  split
  · refine asc_append (asc_append (asc_append ?_ (hi _)) ?_) ?_
    · split <;> exact h0 _ (by decide)
    · split
      · exact h0 _ (by decide)
      · split <;> exact h0 _ (by decide)
    · split
      · exact asc_append (h0 _ (by decide)) (hi _)
      · split
        · exact asc_append (h0 _ (by decide)) (hi _)
        · exact h0 _ (by decide)
  · split
    · exact hi _
    · split
      · exact h0 _ (by decide)
      · split
        · exact h0 _ (by decide)
        · split
          · split
            · exact h0 _ (by decide)
            · split <;> exact h0 _ (by decide)
          · split
            · split
              · exact h0 _ (by decide)
              · split <;> exact h0 _ (by decide)
            · exact asc_append (asc_append (asc_append (h0 _ (by decide)) (hi _)) (h0 _ (by decide))) (hi _)
/-- The numbers of a note are ints. -/
def nIn (n : NoteR) : Prop := ∀ x ∈ [n.k, n.tu, n.gr, n.lo, n.ch, n.ton, n.me, n.si, n.wa, n.ar], -9223372036854775808 ≤ x ∧ x ≤ 9223372036854775807
theorem nIn.all {n : NoteR} (h : nIn n) : (-9223372036854775808 ≤ n.k ∧ n.k ≤ 9223372036854775807) ∧ (-9223372036854775808 ≤ n.tu ∧ n.tu ≤ 9223372036854775807) ∧ (-9223372036854775808 ≤ n.gr ∧ n.gr ≤ 9223372036854775807) ∧ (-9223372036854775808 ≤ n.lo ∧ n.lo ≤ 9223372036854775807) ∧ (-9223372036854775808 ≤ n.ch ∧ n.ch ≤ 9223372036854775807) ∧ (-9223372036854775808 ≤ n.ton ∧ n.ton ≤ 9223372036854775807) ∧ (-9223372036854775808 ≤ n.me ∧ n.me ≤ 9223372036854775807) ∧ (-9223372036854775808 ≤ n.si ∧ n.si ≤ 9223372036854775807) ∧ (-9223372036854775808 ≤ n.wa ∧ n.wa ≤ 9223372036854775807) ∧ (-9223372036854775808 ≤ n.ar ∧ n.ar ≤ 9223372036854775807) :=
  ⟨h _ (by simp), h _ (by simp), h _ (by simp), h _ (by simp), h _ (by simp), h _ (by simp), h _ (by simp), h _ (by simp), h _ (by simp), h _ (by simp)⟩
theorem len_nTxt (n : NoteR) (h : nIn n) : (nTxt n).length ≤ 80 := by
  have hi : ∀ x ∈ [n.k, n.tu, n.gr, n.lo, n.ch, n.ton, n.me, n.si, n.wa, n.ar], (itoa x).length ≤ 21 := fun x hx => itoa_length_le x (h x hx).1 (h x hx).2
  have h1 := hi n.gr (by simp)
  have h2 := hi n.ton (by simp)
  have h3 := hi n.me (by simp)
  have h4 := hi n.wa (by simp)
  have h5 := hi n.ar (by simp)
  have q1 : (if n.tu < 0 then [76] else [82] : List UInt8).length = 1 := by split <;> rfl
  have q2 : (if n.lo < 0 then [32, 115, 104, 111, 114, 116] else if 0 < n.lo then [32, 108, 111, 110, 103] else [] : List UInt8).length ≤ 6 := by
    split
    · decide
    · split <;> decide
  have q3 : (if n.ch < 0 then [32, 111, 112, 101, 110, 115, 32] ++ itoa n.ton else if 0 < n.ch then [32, 116, 105, 103, 104, 116, 101, 110, 115, 32] ++ itoa n.ton else [] : List UInt8).length ≤ 31 := by
    split
    · rw [List.length_append]; simp only [List.length_cons, List.length_nil]; omega
    · split
      · rw [List.length_append]; simp only [List.length_cons, List.length_nil]; omega
      · decide
  unfold nTxt
  split
  · simp only [List.length_append]; omega
  · split
    · omega
    · split
      · decide
      · split
        · decide
        · split
          · split
            · decide
            · split <;> decide
          · split
            · split
              · decide
              · split <;> decide
            · simp only [List.length_append, List.length_cons, List.length_nil]; omega
/-- How many bytes of a text are no blanks. -/
def inkd (l : List UInt8) : Nat := (l.filter fun b => b != 32).length
theorem inkd_le (l : List UInt8) : inkd l ≤ l.length := List.length_filter_le _ _
theorem inkd_take_succ (l : List UInt8) (p : Nat) (b : UInt8) (h : l[p]? = some b) : inkd (l.take (p + 1)) = inkd (l.take p) + (if b = 32 then 0 else 1) := by
  unfold inkd
  rw [List.take_add_one, h, List.filter_append, List.length_append]
  by_cases hb : b = 32
  · simp [hb]
  · simp [hb]
theorem inkd_take_le (l : List UInt8) (p : Nat) : inkd (l.take p) ≤ l.length := Nat.le_trans (inkd_le _) (by rw [List.length_take]; omega)
/-- How long a text takes. -/
def lastS (v l : Int) (t : List UInt8) : Int := v + l * inkd t
theorem lastS_step (v l : Int) (t : List UInt8) (p : Nat) (b : UInt8) (h : t[p]? = some b) : lastS v l (t.take (p + 1)) = if b = 32 then lastS v l (t.take p) else lastS v l (t.take p) + l := by
  unfold lastS
  rw [inkd_take_succ t p b h]
  split
  · simp
  · rw [Int.natCast_add, Int.mul_add]; omega
theorem lastS_bd (v l : Int) (t : List UInt8) (hv : 0 ≤ v ∧ v ≤ 10000000) (hl : 0 ≤ l ∧ l ≤ 1000000) (ht : t.length ≤ 100000) (p : Nat) : 0 ≤ lastS v l (t.take p) ∧ lastS v l (t.take p) ≤ 1000000000000 := by
  unfold lastS
  have h1 := inkd_take_le t p
  have h2 : 0 ≤ l * (inkd (t.take p) : Int) := Int.mul_nonneg hl.1 (by omega)
  have h3 : l * (inkd (t.take p) : Int) ≤ 1000000 * 100000 := Int.mul_le_mul hl.2 (by omega) (by omega) (by decide)
  omega
/-- Which speeches are as defined. -/
def spchB (v l : Int) : Bool := decide (0 ≤ v ∧ v ≤ 10000000) && decide (0 ≤ l ∧ l ≤ 1000000)
end Go.Proofs.YtogkmnopggmdjaaGreatDoor

/- Notes: the text of a valid note, as the program writes it and as the document does. -/
namespace Go.Proofs.YtogkmnopggmdjaaGreatDoor
open Go.RowKit Go.Shelf Go.Sort Go.Proofs

theorem nbs_append (a b : List UInt8) : nbs (a ++ b) = nbs a ++ nbs b := by
  apply ByteArray.ext
  simp [nbs]
theorem below_grow (w : World) (os : Array Obj) : Below w.heap.size w (grow w os) :=
  ⟨rfl, rfl, rfl, by simp [grow], fun k hk => by simp only [grow]; rw [Array.getElem?_append_left hk]⟩
theorem itoa_small (i : Int) (h0 : 0 ≤ i) (h1 : i < 100) (w : World) :
    Calls Tryz.prog 96 #[.int .i64 i] w fun e w' => e = .returned (.string (nbs (Lib.itoa i))) ∧ w = w' := by
  obtain ⟨m, rfl⟩ : ∃ m : Nat, i = (m : Int) := ⟨i.toNat, by omega⟩
  refine (sh_strconv_Itoa_small m (by omega) w).mono ?_
  rintro e w' ⟨rfl, rfl⟩
  exact ⟨by rw [Lib.itoa_nonneg]; rfl, rfl⟩
theorem itoa_meters (i : Int) (h0 : 0 ≤ i) (h1 : i ≤ 9999) (w : World) (ht : Lib.TabIs Tryz.prog w pow10N .u64 Lib.pow10Tab) :
    Calls Tryz.prog 96 #[.int .i64 i] w fun e w' => e = .returned (.string (nbs (Lib.itoa i))) ∧ Below w.heap.size w w' := by
  refine (sh_strconv_Itoa i (by omega) (by omega) w ht).mono ?_
  rintro e w' ⟨rfl, n, os, rfl⟩
  exact ⟨rfl, (Joins.below_draws _ w n).trans (below_grow (w.drewN n) os)⟩
theorem itoa_size (i : Int) (h0 : 0 ≤ i) (h1 : i ≤ 9) : (nbs (Lib.itoa i)).size = 1 := by
  obtain ⟨m, rfl⟩ : ∃ m : Nat, i = (m : Int) := ⟨i.toNat, by omega⟩
  rw [Lib.itoa_nonneg, Lib.decDigits, dif_pos (by omega)]
  rfl
def crestC : Array Value := #[.string (ByteArray.mk #[99, 114, 101, 115, 116]), .string (ByteArray.mk #[106, 117, 109, 112]), .string (ByteArray.mk #[98, 105, 103, 106, 117, 109, 112])]
theorem ncrests_any (w : World) : Calls Tryz.prog 97 #[] w fun e w' => ∃ b, e = .returned (.slice (some ⟨b, 0, none⟩) 3 3) ∧ BK w' b 9 crestC ∧ Below w.heap.size w w' := by
  go_enter Tryz.func97, Tryz.ntmps97
  go_wp2_with fail
  go_ret
  exact ⟨w.heap.size, rfl, BK.new w _ _, (Below.refl _ _).alloc (Nat.le_refl _) _⟩
theorem stable_bk (b : Nat) (t : TypeId) (cs : Array Value) : stable (fun x => BK x b t cs) := fun _ _ h hb => h.below hb h.lt
theorem repeat_two (w : World) : Calls Tryz.prog 98 #[.string (ByteArray.mk #[33]), .int .i64 2] w fun e w' => e = .returned (.string (nbs [33, 33])) ∧ Below w.heap.size w w' :=
  (sh_strings_Repeat_main (ByteArray.mk #[33]) 2 w (by decide) (by decide) (by decide) (by decide)).mono (fun _ _ h => ⟨h.1, h.2⟩)
theorem repeat_three (w : World) : Calls Tryz.prog 98 #[.string (ByteArray.mk #[33]), .int .i64 3] w fun e w' => e = .returned (.string (nbs [33, 33, 33])) ∧ Below w.heap.size w w' :=
  (sh_strings_Repeat_main (ByteArray.mk #[33]) 3 w (by decide) (by decide) (by decide) (by decide)).mono (fun _ _ h => ⟨h.1, h.2⟩)
theorem repeat_one (w : World) : Calls Tryz.prog 98 #[.string (ByteArray.mk #[33]), .int .i64 1] w fun e w' => e = .returned (.string (nbs [33])) ∧ Below w.heap.size w w' :=
  (sh_strings_Repeat_one (ByteArray.mk #[33]) w).mono (fun _ _ h => ⟨h.1, h.2 ▸ Below.refl _ _⟩)
theorem nidx0 (a b c : Value) (w : World) : (Instr.index 177 (.agg #[a, b, c]) (.int .i64 0)).run Tryz.prog w = .ok a w := by kernel_rfl
theorem nidx1 (a b c : Value) (w : World) : (Instr.index 177 (.agg #[a, b, c]) (.int .i64 1)).run Tryz.prog w = .ok b w := by kernel_rfl
theorem nidx2 (a b c : Value) (w : World) : (Instr.index 177 (.agg #[a, b, c]) (.int .i64 2)).run Tryz.prog w = .ok c w := by kernel_rfl
theorem nlit (l : List UInt8) : ByteArray.mk l.toArray = nbs l := rfl
set_option maxRecDepth 100000 in
set_option maxHeartbeats 8000000 in
theorem ntext_any (k tu gr lo ch ton me si wa ar : Int) (hv : nVal ⟨k, tu, gr, lo, ch, ton, me, si, wa, ar⟩ = true) (w : World) (ht : Lib.TabIs Tryz.prog w pow10N .u64 Lib.pow10Tab) :
    Calls Tryz.prog 80 #[.agg #[.int .i64 k, .int .i64 tu, .int .i64 gr, .int .i64 lo, .int .i64 ch, .int .i64 ton, .int .i64 me, .int .i64 si, .int .i64 wa, .int .i64 ar]] w fun e w' => e = .returned (.string (nbs (nTxt ⟨k, tu, gr, lo, ch, ton, me, si, wa, ar⟩))) ∧ Below w.heap.size w w' := by
  have hw0 := nidx0
  have hw1 := nidx1
  have hw2 := nidx2
  have hB : Below w.heap.size w (w.alloc (.cells #[.int .i64 k, .int .i64 tu, .int .i64 gr, .int .i64 lo, .int .i64 ch, .int .i64 ton, .int .i64 me, .int .i64 si, .int .i64 wa, .int .i64 ar] 54)) := (Below.refl w.heap.size w).alloc (Nat.le_refl _) _
  have hX : BK (w.alloc (.cells #[.int .i64 k, .int .i64 tu, .int .i64 gr, .int .i64 lo, .int .i64 ch, .int .i64 ton, .int .i64 me, .int .i64 si, .int .i64 wa, .int .i64 ar] 54)) w.heap.size 54 #[.int .i64 k, .int .i64 tu, .int .i64 gr, .int .i64 lo, .int .i64 ch, .int .i64 ton, .int .i64 me, .int .i64 si, .int .i64 wa, .int .i64 ar] := BK.new w _ _
  have ht0 := pow10_stays ht hB (Nat.le_refl _)
  by_cases k1 : k = 1
  · subst k1
    rw [nVal1] at hv
    obtain ⟨⟨htu, hgr, hlo, hch⟩, rfl, rfl, rfl, rfl⟩ := hv
    have hlo : lo = -1 ∨ lo = 0 ∨ lo = 1 := by omega
    clear ht0
    have hs1 := itoa_size gr (by omega) (by omega)
    rcases htu with rfl | rfl <;> rcases hlo with rfl | rfl | rfl <;> rcases hch with ⟨rfl, rfl⟩ | ⟨rfl, hto⟩ | ⟨rfl, hto⟩
    ·
      go_enter Tryz.func80, Tryz.ntmps80
      go_wp2_with (go_at_call 96; refine (itoa_small _ (by omega) (by omega) _).mono ?_; rintro e w' ⟨rfl, rfl⟩)
      go_ret
      refine ⟨?_, hB⟩
      refine congrArg (fun b => Ending.returned (Value.string b)) ?_
      simp only [nlit, ← nbs_append]
      exact congrArg nbs (by simp [nTxt])
    ·
      have hs2 := itoa_size ton (by omega) (by omega)
      go_enter Tryz.func80, Tryz.ntmps80
      go_wp2_with (go_at_call 96; refine (itoa_small _ (by omega) (by omega) _).mono ?_; rintro e w' ⟨rfl, rfl⟩)
      go_quiet (first | (go_at_call 96; exact Calls.quiet_of_same ((itoa_small _ (by omega) (by omega) _).mono fun _ _ ⟨a, b⟩ => ⟨a, b.symm⟩)))
      go_wp2_with fail
      go_ret
      refine ⟨?_, hB.trans (Joins.below_draws _ _ nq)⟩
      refine congrArg (fun b => Ending.returned (Value.string b)) ?_
      simp only [nlit, ← nbs_append]
      exact congrArg nbs (by simp [nTxt])
    ·
      have hs2 := itoa_size ton (by omega) (by omega)
      go_enter Tryz.func80, Tryz.ntmps80
      go_wp2_with (go_at_call 96; refine (itoa_small _ (by omega) (by omega) _).mono ?_; rintro e w' ⟨rfl, rfl⟩)
      go_quiet (first | (go_at_call 96; exact Calls.quiet_of_same ((itoa_small _ (by omega) (by omega) _).mono fun _ _ ⟨a, b⟩ => ⟨a, b.symm⟩)))
      go_wp2_with fail
      go_ret
      refine ⟨?_, hB.trans (Joins.below_draws _ _ nq)⟩
      refine congrArg (fun b => Ending.returned (Value.string b)) ?_
      simp only [nlit, ← nbs_append]
      exact congrArg nbs (by simp [nTxt])
    ·
      go_enter Tryz.func80, Tryz.ntmps80
      go_wp2_with (go_at_call 96; refine (itoa_small _ (by omega) (by omega) _).mono ?_; rintro e w' ⟨rfl, rfl⟩)
      go_ret
      refine ⟨?_, hB⟩
      refine congrArg (fun b => Ending.returned (Value.string b)) ?_
      simp only [nlit, ← nbs_append]
      exact congrArg nbs (by simp [nTxt])
    ·
      have hs2 := itoa_size ton (by omega) (by omega)
      go_enter Tryz.func80, Tryz.ntmps80
      go_wp2_with (go_at_call 96; refine (itoa_small _ (by omega) (by omega) _).mono ?_; rintro e w' ⟨rfl, rfl⟩)
      go_quiet (first | (go_at_call 96; exact Calls.quiet_of_same ((itoa_small _ (by omega) (by omega) _).mono fun _ _ ⟨a, b⟩ => ⟨a, b.symm⟩)))
      go_wp2_with fail
      go_ret
      refine ⟨?_, hB.trans (Joins.below_draws _ _ nq)⟩
      refine congrArg (fun b => Ending.returned (Value.string b)) ?_
      simp only [nlit, ← nbs_append]
      exact congrArg nbs (by simp [nTxt])
    ·
      have hs2 := itoa_size ton (by omega) (by omega)
      go_enter Tryz.func80, Tryz.ntmps80
      go_wp2_with (go_at_call 96; refine (itoa_small _ (by omega) (by omega) _).mono ?_; rintro e w' ⟨rfl, rfl⟩)
      go_quiet (first | (go_at_call 96; exact Calls.quiet_of_same ((itoa_small _ (by omega) (by omega) _).mono fun _ _ ⟨a, b⟩ => ⟨a, b.symm⟩)))
      go_wp2_with fail
      go_ret
      refine ⟨?_, hB.trans (Joins.below_draws _ _ nq)⟩
      refine congrArg (fun b => Ending.returned (Value.string b)) ?_
      simp only [nlit, ← nbs_append]
      exact congrArg nbs (by simp [nTxt])
    ·
      go_enter Tryz.func80, Tryz.ntmps80
      go_wp2_with (go_at_call 96; refine (itoa_small _ (by omega) (by omega) _).mono ?_; rintro e w' ⟨rfl, rfl⟩)
      go_ret
      refine ⟨?_, hB⟩
      refine congrArg (fun b => Ending.returned (Value.string b)) ?_
      simp only [nlit, ← nbs_append]
      exact congrArg nbs (by simp [nTxt])
    ·
      have hs2 := itoa_size ton (by omega) (by omega)
      go_enter Tryz.func80, Tryz.ntmps80
      go_wp2_with (go_at_call 96; refine (itoa_small _ (by omega) (by omega) _).mono ?_; rintro e w' ⟨rfl, rfl⟩)
      go_quiet (first | (go_at_call 96; exact Calls.quiet_of_same ((itoa_small _ (by omega) (by omega) _).mono fun _ _ ⟨a, b⟩ => ⟨a, b.symm⟩)))
      go_wp2_with fail
      go_ret
      refine ⟨?_, hB.trans (Joins.below_draws _ _ nq)⟩
      refine congrArg (fun b => Ending.returned (Value.string b)) ?_
      simp only [nlit, ← nbs_append]
      exact congrArg nbs (by simp [nTxt])
    ·
      have hs2 := itoa_size ton (by omega) (by omega)
      go_enter Tryz.func80, Tryz.ntmps80
      go_wp2_with (go_at_call 96; refine (itoa_small _ (by omega) (by omega) _).mono ?_; rintro e w' ⟨rfl, rfl⟩)
      go_quiet (first | (go_at_call 96; exact Calls.quiet_of_same ((itoa_small _ (by omega) (by omega) _).mono fun _ _ ⟨a, b⟩ => ⟨a, b.symm⟩)))
      go_wp2_with fail
      go_ret
      refine ⟨?_, hB.trans (Joins.below_draws _ _ nq)⟩
      refine congrArg (fun b => Ending.returned (Value.string b)) ?_
      simp only [nlit, ← nbs_append]
      exact congrArg nbs (by simp [nTxt])
    ·
      go_enter Tryz.func80, Tryz.ntmps80
      go_wp2_with (go_at_call 96; refine (itoa_small _ (by omega) (by omega) _).mono ?_; rintro e w' ⟨rfl, rfl⟩)
      go_ret
      refine ⟨?_, hB⟩
      refine congrArg (fun b => Ending.returned (Value.string b)) ?_
      simp only [nlit, ← nbs_append]
      exact congrArg nbs (by simp [nTxt])
    ·
      have hs2 := itoa_size ton (by omega) (by omega)
      go_enter Tryz.func80, Tryz.ntmps80
      go_wp2_with (go_at_call 96; refine (itoa_small _ (by omega) (by omega) _).mono ?_; rintro e w' ⟨rfl, rfl⟩)
      go_quiet (first | (go_at_call 96; exact Calls.quiet_of_same ((itoa_small _ (by omega) (by omega) _).mono fun _ _ ⟨a, b⟩ => ⟨a, b.symm⟩)))
      go_wp2_with fail
      go_ret
      refine ⟨?_, hB.trans (Joins.below_draws _ _ nq)⟩
      refine congrArg (fun b => Ending.returned (Value.string b)) ?_
      simp only [nlit, ← nbs_append]
      exact congrArg nbs (by simp [nTxt])
    ·
      have hs2 := itoa_size ton (by omega) (by omega)
      go_enter Tryz.func80, Tryz.ntmps80
      go_wp2_with (go_at_call 96; refine (itoa_small _ (by omega) (by omega) _).mono ?_; rintro e w' ⟨rfl, rfl⟩)
      go_quiet (first | (go_at_call 96; exact Calls.quiet_of_same ((itoa_small _ (by omega) (by omega) _).mono fun _ _ ⟨a, b⟩ => ⟨a, b.symm⟩)))
      go_wp2_with fail
      go_ret
      refine ⟨?_, hB.trans (Joins.below_draws _ _ nq)⟩
      refine congrArg (fun b => Ending.returned (Value.string b)) ?_
      simp only [nlit, ← nbs_append]
      exact congrArg nbs (by simp [nTxt])
    ·
      go_enter Tryz.func80, Tryz.ntmps80
      go_wp2_with (go_at_call 96; refine (itoa_small _ (by omega) (by omega) _).mono ?_; rintro e w' ⟨rfl, rfl⟩)
      go_ret
      refine ⟨?_, hB⟩
      refine congrArg (fun b => Ending.returned (Value.string b)) ?_
      simp only [nlit, ← nbs_append]
      exact congrArg nbs (by simp [nTxt])
    ·
      have hs2 := itoa_size ton (by omega) (by omega)
      go_enter Tryz.func80, Tryz.ntmps80
      go_wp2_with (go_at_call 96; refine (itoa_small _ (by omega) (by omega) _).mono ?_; rintro e w' ⟨rfl, rfl⟩)
      go_quiet (first | (go_at_call 96; exact Calls.quiet_of_same ((itoa_small _ (by omega) (by omega) _).mono fun _ _ ⟨a, b⟩ => ⟨a, b.symm⟩)))
      go_wp2_with fail
      go_ret
      refine ⟨?_, hB.trans (Joins.below_draws _ _ nq)⟩
      refine congrArg (fun b => Ending.returned (Value.string b)) ?_
      simp only [nlit, ← nbs_append]
      exact congrArg nbs (by simp [nTxt])
    ·
      have hs2 := itoa_size ton (by omega) (by omega)
      go_enter Tryz.func80, Tryz.ntmps80
      go_wp2_with (go_at_call 96; refine (itoa_small _ (by omega) (by omega) _).mono ?_; rintro e w' ⟨rfl, rfl⟩)
      go_quiet (first | (go_at_call 96; exact Calls.quiet_of_same ((itoa_small _ (by omega) (by omega) _).mono fun _ _ ⟨a, b⟩ => ⟨a, b.symm⟩)))
      go_wp2_with fail
      go_ret
      refine ⟨?_, hB.trans (Joins.below_draws _ _ nq)⟩
      refine congrArg (fun b => Ending.returned (Value.string b)) ?_
      simp only [nlit, ← nbs_append]
      exact congrArg nbs (by simp [nTxt])
    ·
      go_enter Tryz.func80, Tryz.ntmps80
      go_wp2_with (go_at_call 96; refine (itoa_small _ (by omega) (by omega) _).mono ?_; rintro e w' ⟨rfl, rfl⟩)
      go_ret
      refine ⟨?_, hB⟩
      refine congrArg (fun b => Ending.returned (Value.string b)) ?_
      simp only [nlit, ← nbs_append]
      exact congrArg nbs (by simp [nTxt])
    ·
      have hs2 := itoa_size ton (by omega) (by omega)
      go_enter Tryz.func80, Tryz.ntmps80
      go_wp2_with (go_at_call 96; refine (itoa_small _ (by omega) (by omega) _).mono ?_; rintro e w' ⟨rfl, rfl⟩)
      go_quiet (first | (go_at_call 96; exact Calls.quiet_of_same ((itoa_small _ (by omega) (by omega) _).mono fun _ _ ⟨a, b⟩ => ⟨a, b.symm⟩)))
      go_wp2_with fail
      go_ret
      refine ⟨?_, hB.trans (Joins.below_draws _ _ nq)⟩
      refine congrArg (fun b => Ending.returned (Value.string b)) ?_
      simp only [nlit, ← nbs_append]
      exact congrArg nbs (by simp [nTxt])
    ·
      have hs2 := itoa_size ton (by omega) (by omega)
      go_enter Tryz.func80, Tryz.ntmps80
      go_wp2_with (go_at_call 96; refine (itoa_small _ (by omega) (by omega) _).mono ?_; rintro e w' ⟨rfl, rfl⟩)
      go_quiet (first | (go_at_call 96; exact Calls.quiet_of_same ((itoa_small _ (by omega) (by omega) _).mono fun _ _ ⟨a, b⟩ => ⟨a, b.symm⟩)))
      go_wp2_with fail
      go_ret
      refine ⟨?_, hB.trans (Joins.below_draws _ _ nq)⟩
      refine congrArg (fun b => Ending.returned (Value.string b)) ?_
      simp only [nlit, ← nbs_append]
      exact congrArg nbs (by simp [nTxt])
  by_cases k2 : k = 2
  · subst k2
    rw [nVal2] at hv
    obtain ⟨⟨rfl, rfl, rfl, rfl, rfl⟩, h0, h1, rfl, rfl, rfl⟩ := hv
    go_enter Tryz.func80, Tryz.ntmps80
    go_wp2_with fail
    refine (itoa_meters me (by omega) h1 _ ht0).mono ?_
    rintro e w' ⟨rfl, hb⟩
    go_wp2_with fail
    go_ret
    exact ⟨rfl, hB.trans (hb.mono hB.size)⟩
  by_cases k3 : k = 3
  · subst k3
    rw [nVal3] at hv
    obtain ⟨⟨rfl, rfl, rfl, rfl, rfl⟩, rfl, rfl, rfl, rfl⟩ := hv
    go_enter Tryz.func80, Tryz.ntmps80
    go_wp2_with fail
    go_ret
    exact ⟨rfl, hB⟩
  by_cases k4 : k = 4
  · subst k4
    rw [nVal4] at hv
    obtain ⟨⟨rfl, rfl, rfl, rfl, rfl⟩, rfl, rfl, rfl, rfl⟩ := hv
    go_enter Tryz.func80, Tryz.ntmps80
    go_wp2_with fail
    go_ret
    exact ⟨rfl, hB⟩
  by_cases k5 : k = 5
  · subst k5
    rw [nVal5] at hv
    obtain ⟨⟨rfl, rfl, rfl, rfl, rfl⟩, rfl, h0, h1, rfl, rfl⟩ := hv
    have hsi : si = 1 ∨ si = 2 ∨ si = 3 := by omega
    clear h0 h1
    rcases hsi with rfl | rfl | rfl
    ·
      go_enter Tryz.func80, Tryz.ntmps80
      go_wp2_with fail
      have hmo : Tryz.prog.follows .mixedOrders = true := by kernel_rfl
      have c7 := hX.cell 7
      simp only [List.getElem?_toArray, List.getElem?_cons_zero, List.getElem?_cons_succ] at c7
      have x7 := fun d os => cell_regrown c7 d os
      refine wp_region_ch 4 [0] hmo (by kernel_rfl) ?_
      simp only [List.take_succ_cons, List.take_zero, List.drop_succ_cons, List.drop_zero]
      with_reducible refine wpC_cg (ι := Nat) 97 #[] (fun b => .slice (some ⟨b, 0, none⟩) 3 3) (fun b x => BK x b 9 crestC) (by decide) (by decide) (by go_simp) (fun w => by go_simp) stable_true (fun b => stable_bk b _ _) (fun W hW _ => ?_) (fun b hs0 => ?_)
      · obtain ⟨pp, rfl⟩ := hW
        refine (ncrests_any _).mono ?_
        rintro e w' ⟨b, rfl, hbk, hbl⟩
        exact ⟨b, rfl, hbk, hbl⟩
      repeat (with_reducible refine wpC_q (by decide) (by decide) (fun K hK => ?_); go_simp; (try rw [if_neg (by simp [undef])]); refine hK _ ?_; clear hK K)
      refine wpC_nil ?_
      intro w1 hb1 hk
      have hBC := hB.trans (hb1.mono hB.size)
      have s0 := hk.2.cell 0
      simp only [crestC, List.getElem?_toArray, List.getElem?_cons_zero] at s0
      go_wp2_with fail
      go_ret
      exact ⟨rfl, hBC⟩
    ·
      go_enter Tryz.func80, Tryz.ntmps80
      go_wp2_with fail
      have hmo : Tryz.prog.follows .mixedOrders = true := by kernel_rfl
      have c7 := hX.cell 7
      simp only [List.getElem?_toArray, List.getElem?_cons_zero, List.getElem?_cons_succ] at c7
      have x7 := fun d os => cell_regrown c7 d os
      refine wp_region_ch 4 [0] hmo (by kernel_rfl) ?_
      simp only [List.take_succ_cons, List.take_zero, List.drop_succ_cons, List.drop_zero]
      with_reducible refine wpC_cg (ι := Nat) 97 #[] (fun b => .slice (some ⟨b, 0, none⟩) 3 3) (fun b x => BK x b 9 crestC) (by decide) (by decide) (by go_simp) (fun w => by go_simp) stable_true (fun b => stable_bk b _ _) (fun W hW _ => ?_) (fun b hs0 => ?_)
      · obtain ⟨pp, rfl⟩ := hW
        refine (ncrests_any _).mono ?_
        rintro e w' ⟨b, rfl, hbk, hbl⟩
        exact ⟨b, rfl, hbk, hbl⟩
      repeat (with_reducible refine wpC_q (by decide) (by decide) (fun K hK => ?_); go_simp; (try rw [if_neg (by simp [undef])]); refine hK _ ?_; clear hK K)
      refine wpC_nil ?_
      intro w1 hb1 hk
      have hBC := hB.trans (hb1.mono hB.size)
      have s1 := hk.2.cell 1
      simp only [crestC, List.getElem?_toArray, List.getElem?_cons_zero, List.getElem?_cons_succ] at s1
      go_wp2_with fail
      go_ret
      exact ⟨rfl, hBC⟩
    ·
      go_enter Tryz.func80, Tryz.ntmps80
      go_wp2_with fail
      have hmo : Tryz.prog.follows .mixedOrders = true := by kernel_rfl
      have c7 := hX.cell 7
      simp only [List.getElem?_toArray, List.getElem?_cons_zero, List.getElem?_cons_succ] at c7
      have x7 := fun d os => cell_regrown c7 d os
      refine wp_region_ch 4 [0] hmo (by kernel_rfl) ?_
      simp only [List.take_succ_cons, List.take_zero, List.drop_succ_cons, List.drop_zero]
      with_reducible refine wpC_cg (ι := Nat) 97 #[] (fun b => .slice (some ⟨b, 0, none⟩) 3 3) (fun b x => BK x b 9 crestC) (by decide) (by decide) (by go_simp) (fun w => by go_simp) stable_true (fun b => stable_bk b _ _) (fun W hW _ => ?_) (fun b hs0 => ?_)
      · obtain ⟨pp, rfl⟩ := hW
        refine (ncrests_any _).mono ?_
        rintro e w' ⟨b, rfl, hbk, hbl⟩
        exact ⟨b, rfl, hbk, hbl⟩
      repeat (with_reducible refine wpC_q (by decide) (by decide) (fun K hK => ?_); go_simp; (try rw [if_neg (by simp [undef])]); refine hK _ ?_; clear hK K)
      refine wpC_nil ?_
      intro w1 hb1 hk
      have hBC := hB.trans (hb1.mono hB.size)
      have s2 := hk.2.cell 2
      simp only [crestC, List.getElem?_toArray, List.getElem?_cons_zero, List.getElem?_cons_succ] at s2
      go_wp2_with fail
      go_ret
      exact ⟨rfl, hBC⟩
  by_cases k6 : k = 6
  · subst k6
    rw [nVal6] at hv
    obtain ⟨⟨rfl, rfl, rfl, rfl, rfl⟩, rfl, h0, h1, rfl, rfl⟩ := hv
    have hsi : si = 1 ∨ si = 2 ∨ si = 3 := by omega
    clear h0 h1
    rcases hsi with rfl | rfl | rfl
    ·
      go_enter Tryz.func80, Tryz.ntmps80
      go_wp2_with fail
      refine (repeat_one _).mono ?_
      rintro e w' ⟨rfl, hb⟩
      go_wp2_with fail
      go_ret
      exact ⟨rfl, hB.trans (hb.mono hB.size)⟩
    ·
      go_enter Tryz.func80, Tryz.ntmps80
      go_wp2_with fail
      refine (repeat_two _).mono ?_
      rintro e w' ⟨rfl, hb⟩
      go_wp2_with fail
      go_ret
      exact ⟨rfl, hB.trans (hb.mono hB.size)⟩
    ·
      go_enter Tryz.func80, Tryz.ntmps80
      go_wp2_with fail
      refine (repeat_three _).mono ?_
      rintro e w' ⟨rfl, hb⟩
      go_wp2_with fail
      go_ret
      exact ⟨rfl, hB.trans (hb.mono hB.size)⟩
  have k7 : k = 7 := by
    rcases Decidable.em (k = 7) with h | h
    · exact h
    · rw [nVal0 _ _ _ _ _ _ _ _ _ k k1 k2 k3 k4 k5 k6 h] at hv; cases hv
  subst k7
  rw [nVal7] at hv
  obtain ⟨⟨rfl, rfl, rfl, rfl, rfl⟩, rfl, rfl, h0, h1, h2, h3⟩ := hv
  have hs1 := itoa_size wa (by omega) (by omega)
  have hs2 := itoa_size ar (by omega) (by omega)
  go_enter Tryz.func80, Tryz.ntmps80
  go_wp2_with fail
  go_quiet (first | (go_at_call 96; exact Calls.quiet_of_same ((itoa_small _ (by omega) (by omega) _).mono fun _ _ ⟨a, b⟩ => ⟨a, b.symm⟩)))
  go_wp2_with fail
  go_ret
  refine ⟨?_, hB.trans (Joins.below_draws _ _ nq)⟩
  refine congrArg (fun b => Ending.returned (Value.string b)) ?_
  simp only [nlit, ← nbs_append]
  exact congrArg nbs (by simp [nTxt])
end Go.Proofs.YtogkmnopggmdjaaGreatDoor
