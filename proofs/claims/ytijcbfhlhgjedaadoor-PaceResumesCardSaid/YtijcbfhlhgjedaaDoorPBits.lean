/- All choices, by the bits of a number; the best of them: plain, and the words on bits. -/
import Derived.Test.YtijcbfhlhgjedaaDoorPRChoi
namespace Go.Proofs.YtijcbfhlhgjedaaDoor
open Go.RowKit Go.Shelf Go.Sort Go.Proofs

theorem tb_eq (b i : Nat) : (b / 2 ^ i) % 2 = if b.testBit i = true then 1 else 0 := by
  rw [Nat.testBit_eq_decide_div_mod_eq]
  by_cases h : b / 2 ^ i % 2 = 1
  · rw [h]; rfl
  · simp only [h, decide_false]
    have : b / 2 ^ i % 2 < 2 := Nat.mod_lt _ (by decide)
    rw [if_neg (by decide)]
    omega
set_option maxRecDepth 10000 in
theorem bits_and (b j : Nat) : bits BinOp.and IntKind.i64 ((b : Int) / 2 ^ j) 1 = if b.testBit j = true then 1 else 0 := by
  have e : (b : Int) / 2 ^ j = ((b / 2 ^ j : Nat) : Int) := by simp
  rw [e]
  generalize hs : b / 2 ^ j = s
  have h : (BitVec.ofNat 64 s &&& 1#64).toNat = s % 2 := by
    rw [BitVec.toNat_and, BitVec.toNat_ofNat, show (1#64).toNat = 1 from rfl, Nat.and_one_is_mod]
    omega
  have hw : IntKind.i64.wrap ((s % 2 : Nat) : Int) = ((s % 2 : Nat) : Int) := IntWalk.i64_in _ (by omega)
  have h2 : ((s % 2 : Nat) : Int) = if b.testBit j = true then 1 else 0 := by
    have := tb_eq b j
    rw [hs] at this
    rw [this]
    split <;> rfl
  rw [← h2]
  show IntKind.i64.wrap (((BitVec.ofInt 64 (s : Int) &&& BitVec.ofInt 64 1).toNat : Nat) : Int) = _
  rw [BitVec.ofInt_natCast, show BitVec.ofInt 64 1 = 1#64 from rfl, h]
  exact hw
/-- The choice that the bits of a number tell. -/
def subB (b n : Nat) : List Int := ((List.range n).filter fun i => b.testBit i).map fun i : Nat => (i : Int)
theorem subB_yes {b n : Nat} (h : b.testBit n = true) : subB b (n + 1) = subB b n ++ [(n : Int)] := by simp [subB, List.range_succ, h]
theorem subB_no {b n : Nat} (h : b.testBit n = false) : subB b (n + 1) = subB b n := by simp [subB, List.range_succ, h]
theorem subB_len (b n : Nat) : (subB b n).length ≤ n := by
  have := List.length_filter_le (fun i => b.testBit i) (List.range n)
  simpa [subB] using this
theorem chB_less {n : Nat} {f g : Int} (h : f ≤ g) : ∀ L, chB n g L = true → chB n f L = true
  | [], _ => rfl
  | i :: is, hl => by
    rw [chB, Bool.and_eq_true, decide_eq_true_eq] at hl
    rw [chB, Bool.and_eq_true, decide_eq_true_eq]
    exact ⟨⟨by omega, hl.1.2⟩, hl.2⟩
theorem chB_sub (p : Nat → Bool) (n : Nat) : ∀ m f, f + m = n → chB n f (((List.range' f m).filter p).map fun i : Nat => (i : Int)) = true
  | 0, f, _ => rfl
  | m + 1, f, h => by
    have ih := chB_sub p n m (f + 1) (by omega)
    rw [List.range'_succ]
    by_cases hp : p f = true
    · rw [List.filter_cons_of_pos hp, List.map_cons, chB_yes ⟨Int.le_refl _, by omega⟩]
      have e : ((f + 1 : Nat) : Int) = (f : Int) + 1 := by omega
      rw [← e]
      exact ih
    · rw [List.filter_cons_of_neg hp]
      exact chB_less (by omega) _ ih
theorem subB_ok (b n : Nat) : chB n 0 (subB b n) = true := by
  unfold subB
  rw [List.range_eq_range']
  exact chB_sub _ n n 0 (by omega)
theorem bits_of {n : Nat} : ∀ (G : List Int) (f : Nat), chO n f G → ∃ b, b < 2 ^ n ∧ (∀ i, i < f → b.testBit i = false) ∧ ((List.range' f (n - f)).filter fun i => b.testBit i).map (fun i : Nat => (i : Int)) = G
  | [], f, _ => ⟨0, Nat.two_pow_pos n, fun i _ => Nat.zero_testBit i, by simp⟩
  | g :: G, f, h => by
    obtain ⟨k, rfl, h1, h2, h3⟩ := h
    obtain ⟨b, hb1, hb2, hb3⟩ := bits_of G (k + 1) h3
    have ht : ∀ i, (b ||| 2 ^ k).testBit i = (b.testBit i || decide (k = i)) := fun i => by rw [Nat.testBit_or, Nat.testBit_two_pow]
    refine ⟨b ||| 2 ^ k, Nat.or_lt_two_pow hb1 (Nat.pow_lt_pow_right (by decide) h2), fun i hi => ?_, ?_⟩
    · rw [ht, hb2 i (by omega), decide_eq_false (by omega)]
      rfl
    · have e : List.range' f (n - f) = List.range' f (k - f) ++ (k :: List.range' (k + 1) (n - (k + 1))) := by
        rw [show n - f = (k - f) + ((n - (k + 1)) + 1) by omega, ← List.range'_append_1, show f + (k - f) = k by omega, List.range'_succ]
      rw [e, List.filter_append, List.map_append]
      have e1 : (List.range' f (k - f)).filter (fun i => (b ||| 2 ^ k).testBit i) = [] := by
        rw [List.filter_eq_nil_iff]
        intro i hi
        rw [List.mem_range'_1] at hi
        rw [ht, hb2 i (by omega), decide_eq_false (by omega)]
        decide
      have e2 : (List.range' (k + 1) (n - (k + 1))).filter (fun i => (b ||| 2 ^ k).testBit i) = (List.range' (k + 1) (n - (k + 1))).filter (fun i => b.testBit i) := by
        refine List.filter_congr fun i hi => ?_
        rw [List.mem_range'_1] at hi
        rw [ht, decide_eq_false (by omega), Bool.or_false]
      rw [e1, List.filter_cons_of_pos (by rw [ht, decide_eq_true rfl, Bool.or_true]), e2, List.map_cons, hb3]
      rfl
theorem sub_of {n : Nat} {G : List Int} (h : chO n 0 G) : ∃ b, b < 2 ^ n ∧ subB b n = G := by
  obtain ⟨b, h1, -, h3⟩ := bits_of G 0 h
  refine ⟨b, h1, ?_⟩
  unfold subB
  rw [List.range_eq_range']
  exact h3
theorem bfL_irrefl : ∀ x : List Int, bfL x x = false
  | [] => rfl
  | x :: xs => by rw [bfL, if_pos rfl]; exact bfL_irrefl xs
theorem bfL_trans : ∀ x y z : List Int, bfL x y = true → bfL y z = true → bfL x z = true
  | [], [], _, h, _ => by rw [bfL] at h; cases h
  | [], _ :: _, [], _, h => by rw [bfL] at h; cases h
  | [], _ :: _, _ :: _, _, _ => rfl
  | _ :: _, [], _, h, _ => by rw [bfL] at h; cases h
  | _ :: _, _ :: _, [], _, h => by rw [bfL] at h; cases h
  | x :: xs, y :: ys, z :: zs, h1, h2 => by
    rw [bfL] at h1 h2 ⊢
    by_cases a : x = y
    · rw [if_pos a] at h1
      by_cases b : y = z
      · rw [if_pos b] at h2
        rw [if_pos (a.trans b)]
        exact bfL_trans xs ys zs h1 h2
      · rw [if_neg b, decide_eq_true_eq] at h2
        rw [if_neg (by omega), decide_eq_true_eq]
        omega
    · rw [if_neg a, decide_eq_true_eq] at h1
      by_cases b : y = z
      · rw [if_pos b] at h2
        rw [if_neg (by omega), decide_eq_true_eq]
        omega
      · rw [if_neg b, decide_eq_true_eq] at h2
        rw [if_neg (by omega), decide_eq_true_eq]
        omega
/-- The best choice of those that were looked at. -/
structure FB (Q : Int → Int) (a : Int) (cs : List CallR) (b : Nat) (L : List Int) (m : Int) : Prop where
  i : itC Q a cs L 0 0 0 = some m
  l : L.length ≤ cs.length
  m : ∀ d w, d < b → itC Q a cs (subB d cs.length) 0 0 0 = some w → w < m ∨ (w = m ∧ bfL (subB d cs.length) L = false)
theorem FB.start {Q : Int → Int} {a : Int} {cs : List CallR} : FB Q a cs 0 [] 0 := ⟨rfl, Nat.zero_le _, fun _ _ h => absurd h (Nat.not_lt_zero _)⟩
theorem FB.keep {Q : Int → Int} {a : Int} {cs : List CallR} {b : Nat} {L : List Int} {m : Int} (h : FB Q a cs b L m) (hk : ∀ w, itC Q a cs (subB b cs.length) 0 0 0 = some w → w < m ∨ (w = m ∧ bfL (subB b cs.length) L = false)) : FB Q a cs (b + 1) L m := by
  refine ⟨h.i, h.l, fun d w hd hw => ?_⟩
  by_cases e : d = b
  · subst e
    exact hk w hw
  · exact h.m d w (by omega) hw
theorem FB.more {Q : Int → Int} {a : Int} {cs : List CallR} {b : Nat} {L : List Int} {m w : Int} (h : FB Q a cs b L m) (hw : itC Q a cs (subB b cs.length) 0 0 0 = some w) (hk : m < w ∨ (w = m ∧ bfL (subB b cs.length) L = true)) : FB Q a cs (b + 1) (subB b cs.length) w := by
  refine ⟨hw, subB_len _ _, fun d u hd hu => ?_⟩
  by_cases e : d = b
  · subst e
    rw [hw] at hu
    cases hu
    exact .inr ⟨rfl, bfL_irrefl _⟩
  · rcases h.m d u (by omega) hu with h1 | ⟨h1, h2⟩
    · exact .inl (by omega)
    · rcases hk with h3 | ⟨h3, h4⟩
      · exact .inl (by omega)
      · refine .inr ⟨by omega, ?_⟩
        rw [Bool.eq_false_iff]
        intro h5
        rw [bfL_trans _ _ _ h5 h4] at h2
        cases h2
theorem FB.best {Q : Int → Int} {a : Int} {cs : List CallR} {L G : List Int} {m : Int} (h : FB Q a cs (2 ^ cs.length) L m) (hg : Gr Q a cs (bv Q a cs 0) 0 0 0 G) : G = L := by
  obtain ⟨h1, h2⟩ := better hg
  obtain ⟨b, hb1, hb2⟩ := sub_of hg.ok.1
  have h3 := h2 L m h.i
  have h4 := h.m b (bv Q a cs 0) hb1 (by rw [hb2]; exact h1)
  rw [hb2] at h4
  have h5 : m = bv Q a cs 0 := by
    rcases h4 with h4 | h4 <;> omega
  refine bfL_total _ _ ?_ (h3.2 h5)
  rcases h4 with h4 | h4
  · omega
  · exact h4.2
end Go.Proofs.YtijcbfhlhgjedaaDoor
