/- A map of the least times, as it reads, and the law for a map literal's entry: plain. -/
import Derived.Test.YtijcbfhlhgjedaaDoorPRes
import Derived.Maps.OwnSet
import Derived.Maps.OwnOps
import Derived.Maps.RangeWalk
namespace Go.Proofs.YtijcbfhlhgjedaaDoor
open Go.RowKit Go.Shelf Go.Sort Go.Proofs Go.Maps

theorem lawI : Keyed Tryd.prog 3 := int_keyed Tryd.underlying3
theorem zeroI (w : World) : (zeroValue 3).run Tryd.prog w = .ok (.int .i64 0) w := by kernel_rfl
def kI (v : Int) : Lit := .int .i64 v
theorem kI_key (v : Int) : WideAt.IsKeyLit (kI v) := trivial
theorem kI_ne {u v : Int} (h : u ≠ v) : kI u ≠ kI v := fun e => h (by unfold kI at e; injection e)
theorem kI_same (u v : Int) : (kI u).sameKey (kI v) = decide (u = v) := by
  by_cases h : u = v
  · subst h
    rw [decide_eq_true rfl]
    simp [kI, Lit.sameKey]
  · rw [decide_eq_false h]
    exact sameKey_ne (kI_ne h)
/-- A map reads as a function of its keys. -/
structure MI {H : Type} (D : DataW H) (f : Int → Option Int) : Prop where
  n : ∀ v, f v = none → Maps.has D (kI v) = false
  s : ∀ v t, f v = some t → Maps.has D (kI v) = true ∧ ∀ z, D.atKey (kI v) z = .lit (.int .i64 t)
theorem MI.empty {H : Type} : MI (.map [] : DataW H) (fun _ => none) := ⟨fun _ _ => rfl, fun _ _ h => by cases h⟩
theorem MI.put {H : Type} {D : DataW H} {f : Int → Option Int} (h : MI D f) (hm : IsMap D) (v t : Int) : MI (D.put (kI v) (.lit (.int .i64 t))) (fun u => if u = v then some t else f u) := by
  refine ⟨fun u hu => ?_, fun u r hu => ?_⟩
  · by_cases hv : u = v
    · rw [if_pos hv] at hu
      cases hu
    · rw [if_neg hv] at hu
      rw [has_put_other (kI_ne hv)]
      exact h.n u hu
  · by_cases hv : u = v
    · rw [if_pos hv] at hu
      cases hu
      rw [hv]
      exact ⟨has_put_same hm (kI_key v) _, fun z => atKey_put_same hm (kI_key v) _ z⟩
    · rw [if_neg hv] at hu
      rw [has_put_other (kI_ne hv)]
      refine ⟨(h.s u r hu).1, fun z => ?_⟩
      rw [atKey_put_other (kI_ne hv)]
      exact (h.s u r hu).2 z
/-- The entry that is met is the function's. -/
theorem MI.met {H : Type} {D : DataW H} {f : Int → Option Int} (h : MI D f) {v t : Int} (ha : ∀ z, D.atKey (kI v) z = .lit (.int .i64 t)) : f v = some t := by
  cases hf : f v with
  | none =>
    have h1 := h.n v hf
    rw [has_true_of_atKey ha] at h1
    cases h1
  | some r =>
    have h1 := (h.s v r hf).2 (.lit (.int .i64 0))
    rw [ha] at h1
    injection h1 with h1
    injection h1 with _ h1
    rw [h1]
theorem MI.look {H : Type} {D : DataW H} {f : Int → Option Int} (h : MI D f) {v t c : Int} (hf : f v = some t) (ha : D.atKey (kI v) (.lit (.int .i64 0)) = .lit (.int .i64 c)) : c = t := by
  have h1 := (h.s v t hf).2 (.lit (.int .i64 0))
  rw [ha] at h1
  injection h1 with h1
  injection h1 with _ h1
theorem upd_none {g : Int → Option Int} {v t : Int} (h : g v = none) : (fun u => if u = v then some t else g u) = updD g v t := by
  funext u
  unfold updD
  by_cases hv : u = v
  · rw [if_pos hv, if_pos hv, hv, h]
    rfl
  · rw [if_neg hv, if_neg hv]
theorem upd_less {g : Int → Option Int} {v t r : Int} (h : g v = some r) (hlt : t < r) : (fun u => if u = v then some t else g u) = updD g v t := by
  funext u
  unfold updD
  by_cases hv : u = v
  · rw [if_pos hv, if_pos hv, hv, h]
    simp only [minO]
    rw [Int.min_eq_right (by omega)]
  · rw [if_neg hv, if_neg hv]
theorem upd_keep {g : Int → Option Int} {v t r : Int} (h : g v = some r) (hge : ¬ t < r) : g = updD g v t := by
  funext u
  unfold updD
  by_cases hv : u = v
  · rw [if_pos hv, hv, h]
    simp only [minO]
    rw [Int.min_eq_left (by omega)]
  · rw [if_neg hv]
/-- The entries of a map that have come. -/
def comeD (left : Lit → Bool) (f : Int → Option Int) (v : Int) : Option Int := if left (kI v) = true then none else f v
theorem come_start {H : Type} {D : DataW H} {f : Int → Option Int} (h : MI D f) : comeD (Maps.has D) f = fun _ => none := by
  funext v
  unfold comeD
  by_cases hv : Maps.has D (kI v) = true
  · rw [if_pos hv]
  · rw [if_neg hv]
    cases hf : f v with
    | none => rfl
    | some r => exact absurd (h.s v r hf).1 hv
theorem come_end {left : Lit → Bool} {f : Int → Option Int} (h : ∀ k, left k = false) : comeD left f = f := by
  funext v
  unfold comeD
  rw [h, if_neg (by decide)]
theorem come_more {Q : Int → Int} {a : Int} {x : CallR} {left : Lit → Bool} {f : Int → Option Int} {v s : Int} (hl : left (kI v) = true) (hf : f v = some s) :
    stepD Q a x (comeD (fun z => left z && !z.sameKey (kI v)) f) = (if endsB Q a x (s + x.lasts) = true then updD (updD (stepD Q a x (comeD left f)) v s) (v + x.value) (s + x.lasts) else updD (stepD Q a x (comeD left f)) v s) := by
  refine stepD_more (v := v) (s := s) ?_ ?_ fun u hu => ?_
  · unfold comeD
    rw [if_pos hl]
  · have e : (left (kI v) && !(kI v).sameKey (kI v)) = false := by rw [kI_same, decide_eq_true rfl, Bool.not_true, Bool.and_false]
    exact (if_neg (by show ¬ (left (kI v) && !(kI v).sameKey (kI v)) = true; rw [e]; decide)).trans hf
  · have e : (left (kI u) && !(kI u).sameKey (kI v)) = left (kI u) := by rw [kI_same, decide_eq_false hu, Bool.not_false, Bool.and_true]
    by_cases hh : left (kI u) = true
    · exact (if_pos (by show (left (kI u) && !(kI u).sameKey (kI v)) = true; rw [e]; exact hh)).trans (if_pos hh).symm
    · exact (if_neg (by show ¬ (left (kI u) && !(kI u).sameKey (kI v)) = true; rw [e]; exact hh)).trans (if_neg hh).symm
/-- The keys and times are small. -/
def BD (j : Nat) (s : Int) (f : Int → Option Int) : Prop := ∀ v t, f v = some t → 0 ≤ v ∧ v ≤ 100 * j ∧ s ≤ t ∧ t ≤ s + maxM * j
theorem BD.start (s : Int) : BD 0 s (oneD s) := by
  intro v t h
  unfold oneD at h
  by_cases h0 : v = 0
  · rw [if_pos h0] at h
    cases h
    simp
    omega
  · rw [if_neg h0] at h
    cases h
theorem BD.step {Q : Int → Int} {a : Int} {x : CallR} {j : Nat} {s : Int} {f : Int → Option Int} (h : BD j s f) (hv : 0 ≤ x.value ∧ x.value ≤ 100) (hl : 0 ≤ x.lasts ∧ x.lasts ≤ maxM) : BD (j + 1) s (stepD Q a x f) := by
  intro v t ht
  rw [show maxM = 1125899906842624 from rfl] at hl ⊢
  unfold BD at h
  rw [show maxM = 1125899906842624 from rfl] at h
  rcases minO_some ht with h1 | h1
  · have := h v t h1
    omega
  · obtain ⟨r, h2, h3⟩ := Option.bind_eq_some_iff.1 h1
    by_cases he : endsB Q a x (r + x.lasts) = true
    · rw [if_pos he] at h3
      cases h3
      have := h _ r h2
      omega
    · rw [if_neg he] at h3
      cases h3
end Go.Proofs.YtijcbfhlhgjedaaDoor
