/- The best choice of calls after a delay: what can be gained, the least times for each value, the first best choice: plain. No program in sight. -/
import Derived.Test.YtijcbfhlhgjedaaDoorPCBBase
import Derived.Test.YtijcbfhlhgjedaaDoorPCBRoad
import Derived.Test.YtijcbfhlhgjedaaDoorPCBLeaf
import Derived.Test.YtijcbfhlhgjedaaDoorPCBCheck
import Derived.Test.YtijcbfhlhgjedaaDoorPCBValid
import Derived.Test.YtijcbfhlhgjedaaDoorPCBFind
import Derived.Test.YtijcbfhlhgjedaaDoorPCBReg
import Derived.Test.YtijcbfhlhgjedaaDoorPCBGrouped
import Derived.Test.YtijcbfhlhgjedaaDoorPCBPG
import Derived.Test.YtijcbfhlhgjedaaDoorPCBBackM
import Derived.Test.YtijcbfhlhgjedaaDoorPCBStr
import Derived.Test.YtijcbfhlhgjedaaDoorPCBOpen
import Derived.Test.YtijcbfhlhgjedaaDoorPCBReg7
import Derived.Test.YtijcbfhlhgjedaaDoorPCSpd
import Derived.Test.YtijcbfhlhgjedaaDoorPCPRow
import Derived.Test.YtijcbfhlhgjedaaDoorPCMtr
import Derived.Test.YtijcbfhlhgjedaaDoorPCReg8
import Derived.Test.YtijcbfhlhgjedaaDoorPCSpCk
import Derived.Test.YtijcbfhlhgjedaaDoorPCPlanM
import Derived.Test.YtijcbfhlhgjedaaDoorPCLast
import Derived.Test.YtijcbfhlhgjedaaDoorPCBeg
import Derived.Test.YtijcbfhlhgjedaaDoorPCBegB
import Derived.Test.YtijcbfhlhgjedaaDoorPCRoom
import Derived.Test.YtijcbfhlhgjedaaDoorPCCallsB
import Derived.Test.YtijcbfhlhgjedaaDoorPCPlan
import Derived.Test.YtijcbfhlhgjedaaDoorPCBetw
import Derived.Test.YtijcbfhlhgjedaaDoorPCKn03P
import Derived.Test.YtijcbfhlhgjedaaDoorPCRef3
import Derived.Test.YtijcbfhlhgjedaaDoorPCRCallsB
namespace Go.Proofs.YtijcbfhlhgjedaaDoor
open Go.RowKit Go.Shelf Go.Sort Go.Proofs

/-- Whether a call ends in time, when s is spent behind it. -/
def endsB (Q : Int → Int) (a : Int) (x : CallR) (s : Int) : Bool := decide (s + x.lead ≤ Q x.place - Q a)
/-- The value that calls give at most, when s is spent. -/
def bv (Q : Int → Int) (a : Int) : List CallR → Int → Int
  | [], _ => 0
  | x :: xs, s => max (bv Q a xs s) (if endsB Q a x (s + x.lasts) = true then x.value + bv Q a xs (s + x.lasts) else 0)
theorem ends_anti {Q : Int → Int} {a : Int} {x : CallR} {s t : Int} (h : s ≤ t) (he : endsB Q a x t = true) : endsB Q a x s = true := by
  unfold endsB at he ⊢
  rw [decide_eq_true_eq] at he ⊢
  omega
theorem bv_nn (Q : Int → Int) (a : Int) : ∀ (xs : List CallR) (s : Int), 0 ≤ bv Q a xs s
  | [], _ => Int.le_refl _
  | x :: xs, s => by
    have := bv_nn Q a xs s
    rw [bv]
    omega
theorem bv_tail (Q : Int → Int) (a : Int) (x : CallR) (xs : List CallR) (s : Int) : bv Q a xs s ≤ bv Q a (x :: xs) s := by
  rw [bv]
  omega
theorem bv_take {Q : Int → Int} {a : Int} {x : CallR} (xs : List CallR) {s : Int} (h : endsB Q a x (s + x.lasts) = true) : x.value + bv Q a xs (s + x.lasts) ≤ bv Q a (x :: xs) s := by
  rw [bv, if_pos h]
  omega
theorem bv_anti {Q : Int → Int} {a : Int} : ∀ (xs : List CallR) {s t : Int}, (∀ x ∈ xs, 0 ≤ x.value) → s ≤ t → bv Q a xs t ≤ bv Q a xs s
  | [], _, _, _, _ => Int.le_refl _
  | x :: xs, s, t, hv, h => by
    have h1 := bv_anti (Q := Q) (a := a) xs (fun y hy => hv y (List.mem_cons_of_mem _ hy)) h
    have h2 := bv_anti (Q := Q) (a := a) xs (s := s + x.lasts) (t := t + x.lasts) (fun y hy => hv y (List.mem_cons_of_mem _ hy)) (by omega)
    rw [bv, bv]
    by_cases he : endsB Q a x (t + x.lasts) = true
    · rw [if_pos he, if_pos (ends_anti (by omega) he)]
      omega
    · rw [if_neg he]
      have h3 := bv_nn Q a xs s
      omega
theorem bv_drop {Q : Int → Int} {a : Int} {cs : List CallR} {s : Int} {f : Nat} : ∀ d : Nat, bv Q a (cs.drop (f + d)) s ≤ bv Q a (cs.drop f) s
  | 0 => Int.le_refl _
  | d + 1 => by
    have h1 := bv_drop (Q := Q) (a := a) (cs := cs) (s := s) (f := f) d
    by_cases h : f + d < cs.length
    · have h2 := bv_tail Q a (cs[f + d]'h) (cs.drop (f + d + 1)) s
      rw [← List.drop_eq_getElem_cons h] at h2
      rw [← Nat.add_assoc]
      omega
    · rw [List.drop_eq_nil_of_le (show cs.length ≤ f + (d + 1) by omega)]
      exact bv_nn Q a _ s
theorem bv_le {Q : Int → Int} {a : Int} {cs : List CallR} {s : Int} {f k : Nat} (h : f ≤ k) : bv Q a (cs.drop k) s ≤ bv Q a (cs.drop f) s := by
  have := bv_drop (Q := Q) (a := a) (cs := cs) (s := s) (f := f) (k - f)
  rwa [show f + (k - f) = k by omega] at this
theorem drop_at {cs : List CallR} {k : Nat} {x : CallR} (h : cs[k]? = some x) : cs.drop k = x :: cs.drop (k + 1) := by
  obtain ⟨hk, rfl⟩ := List.getElem?_eq_some_iff.1 h
  exact List.drop_eq_getElem_cons hk
/-- A choice in order, from f on. -/
def chO (n : Nat) : Nat → List Int → Prop
  | _, [] => True
  | f, i :: is => ∃ k : Nat, i = (k : Int) ∧ f ≤ k ∧ k < n ∧ chO n (k + 1) is
/-- The value of a choice that is in time. -/
def itM (Q : Int → Int) (a : Int) (cs : List CallR) : List Int → Int → Int → Option Int
  | [], _, v => some v
  | i :: is, s, v => match cs[i.toNat]? with
    | none => none
    | some x => if endsB Q a x (s + x.lasts) = true then itM Q a cs is (s + x.lasts) (v + x.value) else none
theorem itM_cons {Q : Int → Int} {a : Int} {cs : List CallR} {k : Nat} {is : List Int} {s v : Int} {x : CallR} (h : cs[k]? = some x) : itM Q a cs ((k : Int) :: is) s v = if endsB Q a x (s + x.lasts) = true then itM Q a cs is (s + x.lasts) (v + x.value) else none := by
  rw [itM, Int.toNat_natCast, h]
theorem it_le {Q : Int → Int} {a : Int} {cs : List CallR} : ∀ (ch : List Int) {f : Nat} {s v w : Int}, chO cs.length f ch → itM Q a cs ch s v = some w → w ≤ v + bv Q a (cs.drop f) s
  | [], f, s, v, w, _, h => by
    rw [itM] at h
    cases h
    have := bv_nn Q a (cs.drop f) s
    omega
  | i :: is, f, s, v, w, hc, h => by
    obtain ⟨k, rfl, hf, hk, hc⟩ := hc
    have hx := List.getElem?_eq_getElem hk
    rw [itM_cons hx] at h
    by_cases he : endsB Q a (cs[k]'hk) (s + (cs[k]'hk).lasts) = true
    · rw [if_pos he] at h
      have h1 := it_le is hc h
      have h2 := bv_take (cs.drop (k + 1)) he
      rw [← drop_at hx] at h2
      have h3 := bv_le (Q := Q) (a := a) (cs := cs) (s := s) hf
      omega
    · rw [if_neg he] at h
      cases h
/-- The call k, chosen, still gives the value B. -/
def canB (Q : Int → Int) (a : Int) (cs : List CallR) (B s : Int) (k : Nat) : Prop := ∃ x, cs[k]? = some x ∧ endsB Q a x (s + x.lasts) = true ∧ x.value + bv Q a (cs.drop (k + 1)) (s + x.lasts) = B
theorem pick {Q : Int → Int} {a : Int} {cs : List CallR} {B s : Int} (hB : 0 < B) : ∀ (m f : Nat), cs.length - f = m → bv Q a (cs.drop f) s = B → ∃ k, f ≤ k ∧ k < cs.length ∧ canB Q a cs B s k ∧ ∀ j, f ≤ j → j < k → ¬ canB Q a cs B s j
  | 0, f, hm, h => by
    rw [List.drop_eq_nil_of_le (by omega), bv] at h
    omega
  | m + 1, f, hm, h => by
    have hf : f < cs.length := by omega
    by_cases hc : canB Q a cs B s f
    · exact ⟨f, Nat.le_refl _, hf, hc, fun j h1 h2 => by omega⟩
    · have hx := List.getElem?_eq_getElem hf
      have h1 : bv Q a (cs.drop (f + 1)) s = B := by
        rw [drop_at hx, bv] at h
        by_cases he : endsB Q a (cs[f]'hf) (s + (cs[f]'hf).lasts) = true
        · rw [if_pos he] at h
          have : (cs[f]'hf).value + bv Q a (cs.drop (f + 1)) (s + (cs[f]'hf).lasts) ≠ B := fun e => hc ⟨_, hx, he, e⟩
          omega
        · rw [if_neg he] at h
          omega
      obtain ⟨k, k1, k2, k3, k4⟩ := pick hB m (f + 1) (by omega) h1
      refine ⟨k, by omega, k2, k3, fun j h1 h2 => ?_⟩
      by_cases hj : j = f
      · rw [hj]
        exact hc
      · exact k4 j (by omega) h2
/-- The first best choice, step by step. -/
inductive Gr (Q : Int → Int) (a : Int) (cs : List CallR) (B : Int) : Int → Int → Nat → List Int → Prop
  | stop {v s : Int} {f : Nat} : v = B → Gr Q a cs B v s f []
  | pick {v s : Int} {f k : Nat} {x : CallR} {G : List Int} : v < B → f ≤ k → cs[k]? = some x → endsB Q a x (s + x.lasts) = true → v + x.value + bv Q a (cs.drop (k + 1)) (s + x.lasts) = B →
      (∀ j, f ≤ j → j < k → ¬ canB Q a cs (B - v) s j) → Gr Q a cs B (v + x.value) (s + x.lasts) (k + 1) G → Gr Q a cs B v s f ((k : Int) :: G)
theorem Gr.ok {Q : Int → Int} {a : Int} {cs : List CallR} {B v s : Int} {f : Nat} {G : List Int} (h : Gr Q a cs B v s f G) : chO cs.length f G ∧ itM Q a cs G s v = some B := by
  induction h with
  | stop h => exact ⟨trivial, by rw [itM, h]⟩
  | pick h1 h2 h3 h4 h5 h6 h7 ih =>
    refine ⟨⟨_, rfl, h2, (List.getElem?_eq_some_iff.1 h3).1, ih.1⟩, ?_⟩
    rw [itM_cons h3, if_pos h4]
    exact ih.2
/-- Whether a list comes before another one. -/
def bfL : List Int → List Int → Bool
  | [], [] => false
  | [], _ :: _ => true
  | _ :: _, [] => false
  | x :: xs, y :: ys => if x = y then bfL xs ys else decide (x < y)
theorem bfL_total : ∀ (x y : List Int), bfL x y = false → bfL y x = false → x = y
  | [], [], _, _ => rfl
  | [], _ :: _, h, _ => by rw [bfL] at h; cases h
  | _ :: _, [], _, h => by rw [bfL] at h; cases h
  | x :: xs, y :: ys, h1, h2 => by
    rw [bfL] at h1 h2
    by_cases h : x = y
    · subst h
      rw [if_pos rfl] at h1 h2
      rw [bfL_total xs ys h1 h2]
    · rw [if_neg h, decide_eq_false_iff_not] at h1
      rw [if_neg (fun e => h e.symm), decide_eq_false_iff_not] at h2
      omega
theorem bfL_nil (x : List Int) : bfL x [] = false := by cases x <;> rfl
theorem Gr.min {Q : Int → Int} {a : Int} {cs : List CallR} {B v s : Int} {f : Nat} {G : List Int} (h : Gr Q a cs B v s f G) : v + bv Q a (cs.drop f) s ≤ B → ∀ ch, chO cs.length f ch → itM Q a cs ch s v = some B → bfL ch G = false := by
  induction h with
  | stop h => exact fun _ ch _ _ => bfL_nil ch
  | @pick v s f k x G h1 h2 h3 h4 h5 h6 h7 ih =>
    intro hb ch hc hi
    cases ch with
    | nil =>
      rw [itM] at hi
      cases hi
      omega
    | cons i is =>
      obtain ⟨j, rfl, hf, hj, hc⟩ := hc
      have hy := List.getElem?_eq_getElem hj
      rw [itM_cons hy] at hi
      by_cases he : endsB Q a (cs[j]'hj) (s + (cs[j]'hj).lasts) = true
      · rw [if_pos he] at hi
        rw [bfL]
        by_cases hjk : j = k
        · subst hjk
          rw [if_pos rfl]
          have hxy : cs[j]'hj = x := Option.some.inj (hy.symm.trans h3)
          rw [hxy] at hi
          exact ih (by omega) is hc hi
        · rw [if_neg (by omega), decide_eq_false_iff_not]
          intro hlt
          refine h6 j hf (by omega) ⟨_, hy, he, ?_⟩
          have e1 := it_le is hc hi
          have e2 := bv_take (cs.drop (j + 1)) he
          rw [← drop_at hy] at e2
          have e3 := bv_le (Q := Q) (a := a) (cs := cs) (s := s) hf
          omega
      · rw [if_neg he] at hi
        cases hi
/-- The least of two times that may be missing. -/
def minO : Option Int → Option Int → Option Int
  | none, y => y
  | some x, none => some x
  | some x, some y => some (min x y)
/-- The least times for each value, behind one more call. -/
def stepD (Q : Int → Int) (a : Int) (x : CallR) (f : Int → Option Int) (v : Int) : Option Int := minO (f v) ((f (v - x.value)).bind fun s => if endsB Q a x (s + x.lasts) = true then some (s + x.lasts) else none)
/-- The least times give just the value B. -/
structure DI (Q : Int → Int) (a : Int) (B : Int) (xs : List CallR) (f : Int → Option Int) : Prop where
  u : ∀ v s, f v = some s → v + bv Q a xs s ≤ B
  e : ∃ v s, f v = some s ∧ v + bv Q a xs s = B
def oneD (s : Int) (v : Int) : Option Int := if v = 0 then some s else none
theorem DI.start {Q : Int → Int} {a : Int} {xs : List CallR} {s : Int} : DI Q a (bv Q a xs s) xs (oneD s) := by
  refine ⟨fun v t h => ?_, 0, s, if_pos rfl, by omega⟩
  unfold oneD at h
  by_cases h0 : v = 0
  · rw [if_pos h0] at h
    cases h
    omega
  · rw [if_neg h0] at h
    cases h
theorem minO_some {x y : Option Int} {t : Int} (h : minO x y = some t) : (x = some t ∨ y = some t) := by
  cases x with
  | none => exact .inr h
  | some x =>
    cases y with
    | none => exact .inl h
    | some y =>
      rw [minO] at h
      cases h
      rcases Int.le_total x y with h1 | h1
      · exact .inl (by rw [Int.min_eq_left h1])
      · exact .inr (by rw [Int.min_eq_right h1])
theorem minO_le {x y : Option Int} {t : Int} (h : x = some t ∨ y = some t) : ∃ u, minO x y = some u ∧ u ≤ t := by
  cases x with
  | none =>
    rcases h with h | h
    · cases h
    · exact ⟨t, h, Int.le_refl _⟩
  | some x =>
    cases y with
    | none =>
      rcases h with h | h
      · exact ⟨t, h, Int.le_refl _⟩
      · cases h
    | some y =>
      refine ⟨_, rfl, ?_⟩
      rcases h with h | h <;> cases h
      · exact Int.min_le_left ..
      · exact Int.min_le_right ..
theorem DI.step {Q : Int → Int} {a : Int} {B : Int} {x : CallR} {xs : List CallR} {f : Int → Option Int} (h : DI Q a B (x :: xs) f) (hv : ∀ y ∈ xs, 0 ≤ y.value) : DI Q a B xs (stepD Q a x f) := by
  have hu : ∀ v s, stepD Q a x f v = some s → v + bv Q a xs s ≤ B := by
    intro v s hs
    rcases minO_some hs with h1 | h1
    · have h2 := h.u v s h1
      have h3 := bv_tail Q a x xs s
      omega
    · obtain ⟨t, h2, h3⟩ := Option.bind_eq_some_iff.1 h1
      by_cases he : endsB Q a x (t + x.lasts) = true
      · rw [if_pos he] at h3
        cases h3
        have h4 := h.u _ t h2
        have h5 := bv_take xs he
        omega
      · rw [if_neg he] at h3
        cases h3
  refine ⟨hu, ?_⟩
  obtain ⟨v, s, h1, h2⟩ := h.e
  rw [bv] at h2
  by_cases hc : x.value + bv Q a xs (s + x.lasts) = B - v ∧ endsB Q a x (s + x.lasts) = true
  · have h3 : (f (v + x.value - x.value)).bind (fun s => if endsB Q a x (s + x.lasts) = true then some (s + x.lasts) else none) = some (s + x.lasts) := by
      rw [show v + x.value - x.value = v by omega, h1]
      exact if_pos hc.2
    obtain ⟨u, h4, h5⟩ := minO_le (x := f (v + x.value)) (.inr h3)
    refine ⟨_, u, h4, ?_⟩
    have h6 := hu _ u h4
    have h7 := bv_anti (Q := Q) (a := a) xs hv h5
    omega
  · obtain ⟨u, h4, h5⟩ := minO_le (y := (f (v - x.value)).bind fun s => if endsB Q a x (s + x.lasts) = true then some (s + x.lasts) else none) (.inl h1)
    refine ⟨v, u, h4, ?_⟩
    have h6 := hu _ u h4
    have h7 := bv_anti (Q := Q) (a := a) xs hv h5
    have h8 := bv_nn Q a xs s
    by_cases he : endsB Q a x (s + x.lasts) = true
    · rw [if_pos he] at h2
      have : x.value + bv Q a xs (s + x.lasts) ≠ B - v := fun e => hc ⟨e, he⟩
      omega
    · rw [if_neg he] at h2
      omega
/-- A time that is laid at a value, if it is less than the one that is there. -/
def updD (g : Int → Option Int) (v t : Int) (u : Int) : Option Int := if u = v then minO (g u) (some t) else g u
theorem minO_comm (x y : Option Int) : minO x y = minO y x := by
  cases x <;> cases y <;> simp only [minO]
  rw [Int.min_comm]
theorem minO_none (x : Option Int) : minO x none = x := by cases x <;> rfl
/-- One more entry is taken in: key v, time s. -/
theorem stepD_more {Q : Int → Int} {a : Int} {x : CallR} {f f' : Int → Option Int} {v s : Int} (h0 : f v = none) (h1 : f' v = some s) (h2 : ∀ u, u ≠ v → f' u = f u) :
    stepD Q a x f' = (if endsB Q a x (s + x.lasts) = true then updD (updD (stepD Q a x f) v s) (v + x.value) (s + x.lasts) else updD (stepD Q a x f) v s) := by
  funext u
  have hA : ∀ u, stepD Q a x f' u = minO (if u = v then some s else f u) (if u = v + x.value then (if endsB Q a x (s + x.lasts) = true then some (s + x.lasts) else none) else (f (u - x.value)).bind fun s => if endsB Q a x (s + x.lasts) = true then some (s + x.lasts) else none) := by
    intro u
    unfold stepD
    congr 1
    · by_cases h : u = v
      · rw [if_pos h, h, h1]
      · rw [if_neg h, h2 u h]
    · by_cases h : u = v + x.value
      · rw [if_pos h, show u - x.value = v by omega, h1]
        rfl
      · rw [if_neg h, h2 (u - x.value) (by omega)]
  have hB : ∀ u, u = v → f u = none := fun u h => by rw [h]; exact h0
  have hC : ∀ u, u = v + x.value → f (u - x.value) = none := fun u h => by rw [show u - x.value = v by omega]; exact h0
  rw [hA]
  by_cases he : endsB Q a x (s + x.lasts) = true
  · rw [if_pos he, if_pos he]
    unfold updD stepD
    by_cases g1 : u = v <;> by_cases g2 : u = v + x.value
    · rw [if_pos g1, if_pos g2, if_pos g2, if_pos g1, hB u g1, hC u g2]
      rfl
    · rw [if_pos g1, if_neg g2, if_neg g2, if_pos g1, hB u g1]
      show _ = minO _ _
      rw [minO_comm]
      rfl
    · rw [if_neg g1, if_pos g2, if_pos g2, if_neg g1, hC u g2]
      show _ = minO (minO (f u) none) _
      rw [minO_none]
    · rw [if_neg g1, if_neg g2, if_neg g2, if_neg g1]
  · rw [if_neg he, if_neg he]
    unfold updD stepD
    by_cases g1 : u = v <;> by_cases g2 : u = v + x.value
    · rw [if_pos g1, if_pos g2, if_pos g1, hB u g1, hC u g2]
      rfl
    · rw [if_pos g1, if_neg g2, if_pos g1, hB u g1]
      show _ = minO _ _
      rw [minO_comm]
      rfl
    · rw [if_neg g1, if_pos g2, if_neg g1, hC u g2]
      rfl
    · rw [if_neg g1, if_neg g2, if_neg g1]
end Go.Proofs.YtijcbfhlhgjedaaDoor
