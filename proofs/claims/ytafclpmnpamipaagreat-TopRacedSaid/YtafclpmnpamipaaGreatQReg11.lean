/- The law of a drawn region by an invariant: whatever order is drawn, each operation that may come next keeps it; behind the last the walk goes on. A theorem over any program. -/
import Derived.Test.YtafclpmnpamipaaGreatQReg10
namespace Go.Proofs.YtafclpmnpamipaaGreat
open Go.RowKit Go.Sort

/-- The operations that have been carried out, with one more. -/
def upd (L : Nat → Bool) (i : Nat) : Nat → Bool := fun k => k == i || L k
theorem upd_same (L : Nat → Bool) (i : Nat) : upd L i i = true := by simp [upd]
theorem upd_ne (L : Nat → Bool) {i k : Nat} (h : k ≠ i) : upd L i k = L k := by simp [upd, h]
section
variable {P : Program} {ops : Array Oper} {md : Region.Mode}
/-- Every operation waits for earlier ones alone. -/
def earlyB (md : Region.Mode) (ops : Array Oper) : Bool := (List.range ops.size).all fun i => match ops[i]? with | some o => o.after.all fun e => !Region.binds md e || decide (e.on < i) | none => true
theorem earlyB_spec (h : earlyB md ops = true) {i : Nat} {o : Oper} (ho : ops[i]? = some o) : ∀ e ∈ o.after, Region.binds md e = true → e.on < i := by
  intro e he hb
  have hi : i < ops.size := (Array.getElem?_eq_some_iff.1 ho).1
  have h1 := List.all_eq_true.1 h i (List.mem_range.2 hi)
  simp only [ho] at h1
  have h2 := Array.all_eq_true'.1 h1 e he
  simp only [Bool.or_eq_true, Bool.not_eq_true', decide_eq_true_eq] at h2
  rcases h2 with h2 | h2
  · rw [hb] at h2; cases h2
  · exact h2
/-- Where nothing may come next, all have been. -/
theorem ready_nil (hB : earlyB md ops = true) {listed : Array Bool} (hs : listed.size = ops.size) (hr : Region.ready md ops listed = []) : ∀ (n i : Nat), i < n → i < ops.size → listed.getD i false = true := by
  intro n
  induction n with
  | zero => intro i hi _; omega
  | succ n ih =>
    intro i hi hio
    by_cases h : i < n
    · exact ih i h hio
    · obtain rfl : i = n := by omega
      cases hl : listed.getD i false with
      | true => rfl
      | false =>
        exfalso
        have ho : ops[i]? = some ops[i] := Array.getElem?_eq_getElem hio
        have : i ∈ Region.ready md ops listed := mem_ready.2 ⟨getD_in (by omega) hl, ops[i], ho, fun e he hb => ih e.on (earlyB_spec hB ho e he hb) (by have := earlyB_spec hB ho e he hb; omega)⟩
        rw [hr] at this
        cases this
def unl (listed : Array Bool) (l : List Nat) : Nat := l.countP fun i => !listed.getD i true
theorem unl_set_le (listed : Array Bool) (i : Nat) (l : List Nat) : unl (listed.setIfInBounds i true) l ≤ unl listed l := by
  refine List.countP_mono_left fun j _ hj => ?_
  by_cases hij : i = j
  · subst hij
    simp only [Bool.not_eq_true'] at hj
    by_cases hi : i < listed.size
    · simp [hi] at hj
    · simp [hi] at hj
  · rw [getD_set_ne true hij] at hj
    exact hj
theorem unl_set {listed : Array Bool} {i : Nat} (h : listed.getD i true = false) : ∀ (l : List Nat), i ∈ l → unl (listed.setIfInBounds i true) l + 1 ≤ unl listed l
  | [], hi => by cases hi
  | j :: l, hi => by
    unfold unl
    rw [List.countP_cons, List.countP_cons]
    by_cases hij : j = i
    · subst hij
      have h1 := unl_set_le listed j l
      unfold unl at h1
      have h2 : (listed.setIfInBounds j true).getD j true = true := by
        by_cases hj : j < listed.size
        · simp [hj]
        · simp [hj]
      rw [h2, h]
      simp only [Bool.not_true, Bool.not_false, Bool.false_eq_true, if_false, if_true]
      omega
    · have h1 := unl_set h l (by rcases List.mem_cons.1 hi with rfl | h2; exact absurd rfl hij; exact h2)
      unfold unl at h1
      have h2 : (listed.setIfInBounds i true).getD j true = listed.getD j true := getD_set_ne true (Ne.symm hij)
      rw [h2]
      omega
theorem wp_of_run {o : Oper} {a : Act} {K' : Act → World → Prop} {Q' : Exit → Act → World → Prop} {w w' : World} {n : Next} (h1 : (execOp a.eval o).run P w = .ok n w') (h : (∃ v, n = .value v ∧ K' (a.put o.dst v) w') ∨ (n = .skip ∧ K' (a.put o.dst undef) w')) : o.wp P a w K' Q' := by
  unfold Oper.wp
  rw [h1]
  rcases h with ⟨v, rfl, h⟩ | ⟨rfl, h⟩ <;> simp only [Oper.upon] <;> exact h
/-- The law. -/
theorem wp_region_inv {id : Nat} {Q : Exit → Act → World → Prop} {a : Act} {w : World} {l : List Oper} (Inv : (Nat → Bool) → Act → World → Prop) (hm : P.follows .mixedOrders = true) (hB : earlyB .any l.toArray = true) (h0 : Inv (fun _ => false) a w.drew)
    (hstep : ∀ (i : Nat) (o : Oper) (L : Nat → Bool) (a' : Act) (W : World), l[i]? = some o → L i = false → (∀ e ∈ o.after, Region.binds .any e = true → L e.on = true) → Inv L a' W → o.guard = none ∧ ∃ n W', (execOp a'.eval o).run P W = .ok n W' ∧ ((∃ v, n = .value v ∧ Inv (upd L i) (a'.put o.dst v) W') ∨ (n = .skip ∧ Inv (upd L i) (a'.put o.dst undef) W')))
    (hend : ∀ (L : Nat → Bool) (a' : Act) (W : World), (∀ i, i < l.length → L i = true) → Inv L a' W → Q .normal a' W) : (Code.region id l.toArray true).wp P Q a w := by
  refine wp_region_any hm ?_
  have key : ∀ (f : Nat) (listed : Array Bool) (a' : Act) (W : World), listed.size = l.toArray.size → unl listed (List.range l.length) ≤ f → Inv (fun k => listed.getD k false) a' W → wpAny P .any l.toArray Q f listed a' W := by
    intro f
    induction f with
    | zero =>
      intro listed a' W hs hu hi
      have hall : ∀ i, i < l.length → listed.getD i false = true := fun i hil => by
        cases hl : listed.getD i false with
        | true => rfl
        | false =>
          exfalso
          have h1 : 0 < unl listed (List.range l.length) := List.countP_pos_iff.2 ⟨i, List.mem_range.2 hil, by rw [getD_in (by rw [hs]; simpa using hil) hl]; rfl⟩
          omega
      refine ⟨?_, hend _ a' W hall hi⟩
      refine List.eq_nil_iff_forall_not_mem.2 fun i hir => ?_
      obtain ⟨h1, o, ho, _⟩ := mem_ready.1 hir
      have hil : i < l.length := by simpa using (Array.getElem?_eq_some_iff.1 ho).1
      have := hall i hil
      rw [getD_both h1] at this
      cases this
    | succ f ih =>
      intro listed a' W hs hu hi
      refine ⟨fun hr => hend _ a' W (fun i hil => ready_nil hB hs hr l.length i hil (by simpa using hil)) hi, fun i hir => ?_⟩
      obtain ⟨h1, o, ho, hall⟩ := mem_ready.1 hir
      have ho' : l[i]? = some o := by simpa using ho
      obtain ⟨hg, n, W', hrun, hcase⟩ := hstep i o (fun k => listed.getD k false) a' W ho' (getD_both h1) hall hi
      have hil : i < l.length := (List.getElem?_eq_some_iff.1 ho').1
      have hup : ∀ a2 W2, Inv (upd (fun k => listed.getD k false) i) a2 W2 → wpAny P .any l.toArray Q f (listed.setIfInBounds i true) a2 W2 := fun a2 W2 h2 => by
        refine ih _ a2 W2 (by simpa using hs) (by have := unl_set h1 (List.range l.length) (List.mem_range.2 hil); omega) ?_
        have e : (fun k => (listed.setIfInBounds i true).getD k false) = upd (fun k => listed.getD k false) i := by
          funext k
          by_cases hk : k = i
          · subst hk
            rw [upd_same]
            have : k < listed.size := by rw [hs]; simpa using hil
            simp [this]
          · rw [upd_ne _ hk, getD_set_ne false (Ne.symm hk)]
        rw [e]
        exact h2
      unfold wpOp
      simp only [ho]
      rw [if_pos (by simp [Region.wanted, hg])]
      refine .inl (wp_of_run hrun ?_)
      rcases hcase with ⟨v, rfl, h2⟩ | ⟨rfl, h2⟩
      · exact .inl ⟨v, rfl, hup _ _ h2⟩
      · exact .inr ⟨rfl, hup _ _ h2⟩
  refine key _ _ a _ (by simp) ?_ ?_
  · unfold unl
    refine Nat.le_trans (List.countP_le_length) (by simp)
  · have e : (fun k => (Array.replicate l.toArray.size false).getD k false) = fun _ => false := by
      funext k
      exact getD_replicate_false _ k
    rw [e]
    exact h0
end
end Go.Proofs.YtafclpmnpamipaaGreat
