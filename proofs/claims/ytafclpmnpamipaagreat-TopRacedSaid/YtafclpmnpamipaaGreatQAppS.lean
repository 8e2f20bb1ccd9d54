/- append of a whole slice onto a row of the call's own. Plain theorems over any program. -/
import Derived.Test.YtafclpmnpamipaaGreatQFind
namespace Go.Proofs.YtafclpmnpamipaaGreat
open Go.RowKit Go.Proofs

section
variable {α : Type} {P : Program} {f : α → List Value} {sz : Nat} {e : TypeId} {base : Nat} {W : World} {A A2 : Option Addr} {n c m c2 B : Nat} {xs ys : List α}
/-- What an append of a slice leaves. -/
structure AppS (f : α → List Value) (sz : Nat) (e : TypeId) (base : Nat) (W : World) (A : Option Addr) (n c m : Nat) (xs ys : List α) (A' : Option Addr) (c' : Nat) (w' : World) : Prop where
  own : OW f sz e base w' A' (n + m) c' (xs ++ ys)
  bel : Below base W w'
  at_ : (∀ b, A' = some b → (∃ b', A = some b' ∧ b'.block = b.block) ∨ b.block = W.heap.size)
  far : ∀ k, k < W.heap.size → (∀ b, A = some b → b.block ≠ k) → w'.heap[k]? = W.heap[k]?
  size : W.heap.size ≤ w'.heap.size
theorem run_append_of_nil (t ty : TypeId) (i : TypeInfo) (ht : P.underlying t = some (.slice e)) (hi : P.info? e = some i)
    (v : Value) (cs : List Value) (hown : W.ownsRow base e sz v n cs) (q : Nat) : (Builtin.append_ #[t, t] ty #[v, .slice none 0 q]).run P W = .ok v W := by
  rcases hown.2 with ⟨rfl, rfl⟩ | ⟨g, cap, cur, rfl, _, _, hnc, _⟩
  · simp [Builtin.append_, run_underlying ht, sizeOf, typeInfo, hi, Builtin.lenOf, Builtin.firstCells]
  · simp [Builtin.append_, run_underlying ht, sizeOf, typeInfo, hi, Builtin.lenOf, Builtin.firstCells, hnc, storeCells]
theorem flat_len {f : α → List Value} (hf : ∀ x, (f x).length = sz) : ∀ ys : List α, (ys.flatMap f).length = ys.length * sz
  | [] => by simp
  | y :: ys => by rw [List.flatMap_cons, List.length_append, hf, List.length_cons, Nat.succ_mul, flat_len hf ys]; omega
theorem flat_of (hf : ∀ x, (f x).length = sz) (hsz : 0 < sz) : ∀ (ys : List α) (j : Nat) (u : Value), (ys.flatMap f)[j]? = some u → ∃ y, ys[j / sz]? = some y ∧ (f y)[j % sz]? = some u
  | [], j, u, h => by simp at h
  | y :: ys, j, u, h => by
    rw [List.flatMap_cons] at h
    rcases Nat.lt_or_ge j sz with hj | hj
    · rw [List.getElem?_append_left (by rw [hf]; exact hj)] at h
      exact ⟨y, by rw [Nat.div_eq_of_lt hj]; rfl, by rw [Nat.mod_eq_of_lt hj]; exact h⟩
    · rw [List.getElem?_append_right (by rw [hf]; exact hj), hf] at h
      obtain ⟨y', h1, h2⟩ := flat_of hf hsz ys (j - sz) u h
      refine ⟨y', ?_, ?_⟩
      · rw [show j / sz = (j - sz) / sz + 1 by rw [Nat.div_eq_sub_div hsz hj]]
        simpa using h1
      · rw [← h2, Nat.mod_eq_sub_mod hj]
/-- The cells of a slice that reads as ys. -/
theorem SL.cells (hy : SL f sz W B A2 m ys) (hf : ∀ x, (f x).length = sz) (hsz : 0 < sz) {ad : Addr} (hA : A2 = some ad) : ∀ j u, (ys.flatMap f)[j]? = some u → W.cell? (ad.add j) = some u := by
  intro j u hj
  obtain ⟨y, h1, h2⟩ := flat_of hf hsz ys j u hj
  have hl := (List.getElem?_eq_some_iff.1 h1).1
  obtain ⟨b, off, e1, hb, hc⟩ := hy.2 (by rw [hy.1]; exact Nat.lt_of_le_of_lt (Nat.zero_le _) hl)
  rw [hA] at e1
  cases e1
  have := hc (j / sz) y h1 (j % sz) u h2
  have e0 : ((⟨b, off, none⟩ : Addr).add j) = ⟨b, off + (j / sz) * sz + j % sz, none⟩ := by
    have hj : j / sz * sz + j % sz = j := by rw [Nat.mul_comm]; exact Nat.div_add_mod j sz
    unfold Addr.add
    split
    · rename_i hj0
      have hj0' : j = 0 := by simpa using hj0
      subst hj0'
      simp
    · rw [Nat.add_assoc, hj]
  rw [e0]
  exact this
theorem run_appS (t ty : TypeId) (i : TypeInfo) (z : Value) (bytes : Nat) (ht : P.underlying t = some (.slice e)) (hi : P.info? e = some i) (hz : i.zero = some z)
    (hsize : i.size = sz) (hby : i.bytes = bytes) (hzs : z.cells.size = sz) (hsz : 0 < sz) (hown : OW f sz e base W A n c xs)
    (hy : SL f sz W B A2 m ys) (hf : ∀ x, (f x).length = sz) (h1 : ∀ x, ∀ u ∈ f x, u.oneCell' = true)
    (hbytes : (n + m) * bytes ≤ 140737488355328) (hb1 : 1 ≤ bytes) (hbase : base ≤ W.heap.size) :
    ∃ A' c' w', (Builtin.append_ #[t, t] ty #[.slice A n c, .slice A2 m c2]).run P W = .ok (.slice A' (n + m) c') w' ∧ AppS f sz e base W A n c m xs ys A' c' w' := by
  have hlen : (ys.flatMap f).length = m * sz := by rw [hy.1]; exact flat_len hf ys
  have hone : ∀ u ∈ ys.flatMap f, u.oneCell' = true := fun u hu => by
    obtain ⟨y, _, hyu⟩ := List.mem_flatMap.1 hu
    exact h1 y u hyu
  have h63 : n + m ≤ maxLen := by
    unfold maxLen
    have : n + m ≤ (n + m) * bytes := Nat.le_mul_of_pos_right _ (by omega)
    omega
  rcases A2 with _ | ad
  · have hm : m = 0 := by
      rcases Nat.eq_zero_or_pos m with h0 | h0
      · exact h0
      · obtain ⟨_, _, h, _⟩ := hy.2 h0; cases h
    subst hm
    have hys : ys = [] := List.eq_nil_of_length_eq_zero hy.1.symm
    subst hys
    exact ⟨A, c, W, run_append_of_nil t ty i ht hi _ _ hown.1 c2, ⟨by rw [List.append_nil]; exact hown, Below.refl _ _, fun b hb => .inl ⟨b, hb, rfl⟩, fun _ _ _ => rfl, Nat.le_refl _⟩⟩
  · obtain ⟨v', w', hrun, h2, h3, h4, h5⟩ := run_append_own_at (P := P) W base t ty e i z sz bytes ht hi hz hsize hby hzs hsz _ n _ hown.1 ad m c2 _ hlen (hy.cells hf hsz rfl) hone h63 hbytes hbase
    have hv : ∃ A' c', v' = .slice A' (n + m) c' := by
      rcases h2.2 with ⟨rfl, h0⟩ | ⟨g, cap, cur, rfl, _⟩
      · exact ⟨none, 0, by rw [h0]⟩
      · exact ⟨_, _, rfl⟩
    obtain ⟨A', c', rfl⟩ := hv
    refine ⟨A', c', w', hrun, ⟨⟨by rw [List.flatMap_append]; exact h2, by simp [hown.2, hy.1]⟩, ⟨h3.os, h3.tape, h3.output, h3.size, fun k hk => h3.block k (by omega) (fun e => ?_)⟩, fun b hb => ?_, fun k hk hne => h3.block k hk (fun e => ?_), h3.size⟩⟩
    · rcases A with _ | g'
      · simp [Value.ownBlock] at e
      · simp [Value.ownBlock] at e
        have := (hown.lt rfl).1
        omega
    · subst hb
      rcases h5 with h5 | h5
      · rcases A with _ | g'
        · simp [Value.ownBlock] at h5
        · simp [Value.ownBlock] at h5
          exact .inl ⟨g', rfl, h5.symm⟩
      · simp [Value.ownBlock] at h5
        exact .inr h5
    · rcases A with _ | g'
      · simp [Value.ownBlock] at e
      · simp [Value.ownBlock] at e
        exact hne g' rfl e.symm
/-- In a plain region. -/
theorem wpList_appS {ops : Array Oper} {rest : List Oper} {o : Oper} {a : Act} {Q : Exit → Act → World → Prop} (hgd : o.guard = none) (s x : Operand) (t : TypeId)
    (ho : o.op = .call { callee := .builtin .append, args := #[s, x], argTypes := #[t, t] })
    (base : Nat) (e : TypeId) (z : Value) (sz bytes : Nat) (ht : P.underlying t = some (.slice e)) (hi : (P.info? e).map (fun i => (i.zero, i.size, i.bytes)) = some (some z, sz, bytes))
    (hzs : z.cells.size = sz) (hsz : 0 < sz) (f : α → List Value) (A : Option Addr) (n c : Nat) (xs : List α) (hs : a.eval s = .slice A n c) (hown : OW f sz e base W A n c xs)
    (B : Nat) (A2 : Option Addr) (m c2 : Nat) (ys : List α) (hx : a.eval x = .slice A2 m c2) (hy : SL f sz W B A2 m ys) (hf : ∀ x, (f x).length = sz) (h1 : ∀ x, ∀ u ∈ f x, u.oneCell' = true)
    (hbytes : (n + m) * bytes ≤ 140737488355328) (hby : 1 ≤ bytes) (hbase : base ≤ W.heap.size)
    (h : ∀ A' c' w', AppS f sz e base W A n c m xs ys A' c' w' → wpList P ops Q rest (a.put o.dst (.slice A' (n + m) c')) w') :
    wpList P ops Q (o :: rest) a W := by
  obtain ⟨i, hi', hz, hsize, hbytes'⟩ := info_parts hi
  refine wpList_plain hgd fun K hK => ?_
  obtain ⟨A', c', w', hrun, hap⟩ := run_appS (P := P) (c2 := c2) t o.type i z bytes ht hi' hz hsize hbytes' hzs hsz hown hy hf h1 hbytes hby hbase
  unfold Oper.wp execOp
  simp only [ho, resolve, invoke, builtin, Sem.run_bind, Sem.run_pure, Result.andThen_ok, List.map_toArray, List.map_cons, List.map_nil, hs, hx, hrun]
  exact hK _ _ (h A' c' w' hap)
end
end Go.Proofs.YtafclpmnpamipaaGreat
