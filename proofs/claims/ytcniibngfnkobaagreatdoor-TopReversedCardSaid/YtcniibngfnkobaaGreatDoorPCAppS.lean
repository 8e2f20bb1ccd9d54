/- append of a whole slice onto a row of the call's own. Plain theorems over any program. -/
import Derived.Test.YtcniibngfnkobaaGreatDoorPCGrouped
namespace Go.Proofs.YtcniibngfnkobaaGreatDoor
open Go.RowKit Go.Proofs

section
variable {α : Type} {P : Program} {f : α → List Value} {sz : Nat} {e : TypeId} {base : Nat} {W : World} {A A2 : Option Addr} {n c m c2 B : Nat} {xs ys : List α}
/-- What an append of a slice leaves. -/
structure AppS (f : α → List Value) (sz : Nat) (e : TypeId) (base : Nat) (W : World) (A : Option Addr) (n c m : Nat) (xs ys : List α) (A' : Option Addr) (c' : Nat) (w' : World) : Prop where
  own : OW f sz e base w' A' (n + m) c' (xs ++ ys)
  bel : Below base W w'
  at_ : (∀ b, A' = some b → (∃ b', A = some b' ∧ b'.block = b.block) ∨ b.block = W.heap.size)
  far : ∀ k, k < W.heap.size → (∀ b, A = some b → b.block ≠ k) → w'.heap[k]? = W.heap[k]?
  size : W.heap.size ≤ w'.heap.size
theorem run_append_of_nil (t ty : TypeId) (i : TypeInfo) (ht : P.underlying t = some (.slice e)) (hi : P.info? e = some i)
    (v : Value) (cs : List Value) (hown : W.ownsRow base e sz v n cs) (q : Nat) : (Builtin.append_ #[t, t] ty #[v, .slice none 0 q]).run P W = .ok v W := by
  rcases hown.2 with ⟨rfl, rfl⟩ | ⟨g, cap, cur, rfl, _, _, hnc, _⟩
  · simp [Builtin.append_, run_underlying ht, sizeOf, typeInfo, hi, Builtin.lenOf, Builtin.firstCells]
  · simp [Builtin.append_, run_underlying ht, sizeOf, typeInfo, hi, Builtin.lenOf, Builtin.firstCells, hnc, storeCells]
theorem flat_len {f : α → List Value} (hf : ∀ x, (f x).length = sz) : ∀ ys : List α, (ys.flatMap f).length = ys.length * sz
  | [] => by simp
  | y :: ys => by rw [List.flatMap_cons, List.length_append, hf, List.length_cons, Nat.succ_mul, flat_len hf ys]; omega
theorem flat_of (hf : ∀ x, (f x).length = sz) (hsz : 0 < sz) : ∀ (ys : List α) (j : Nat) (u : Value), (ys.flatMap f)[j]? = some u → ∃ y, ys[j / sz]? = some y ∧ (f y)[j % sz]? = some u
  | [], j, u, h => by simp at h
  | y :: ys, j, u, h => by
    rw [List.flatMap_cons] at h
    rcases Nat.lt_or_ge j sz with hj | hj
    · rw [List.getElem?_append_left (by rw [hf]; exact hj)] at h
      exact ⟨y, by rw [Nat.div_eq_of_lt hj]; rfl, by rw [Nat.mod_eq_of_lt hj]; exact h⟩
    · rw [List.getElem?_append_right (by rw [hf]; exact hj), hf] at h
      obtain ⟨y', h1, h2⟩ := flat_of hf hsz ys (j - sz) u h
      refine ⟨y', ?_, ?_⟩
      · rw [show j / sz = (j - sz) / sz + 1 by rw [Nat.div_eq_sub_div hsz hj]]
        simpa using h1
      · rw [← h2, Nat.mod_eq_sub_mod hj]
/-- The cells of a slice that reads as ys. -/
theorem SL.cells (hy : SL f sz W B A2 m ys) (hf : ∀ x, (f x).length = sz) (hsz : 0 < sz) {ad : Addr} (hA : A2 = some ad) : ∀ j u, (ys.flatMap f)[j]? = some u → W.cell? (ad.add j) = some u := by
  intro j u hj
  obtain ⟨y, h1, h2⟩ := flat_of hf hsz ys j u hj
  have hl := (List.getElem?_eq_some_iff.1 h1).1
  obtain ⟨b, off, e1, hb, hc⟩ := hy.2 (by rw [hy.1]; exact Nat.lt_of_le_of_lt (Nat.zero_le _) hl)
  rw [hA] at e1
  cases e1
  have := hc (j / sz) y h1 (j % sz) u h2
  have e0 : ((⟨b, off, none⟩ : Addr).add j) = ⟨b, off + (j / sz) * sz + j % sz, none⟩ := by
    have hj : j / sz * sz + j % sz = j := by rw [Nat.mul_comm]; exact Nat.div_add_mod j sz
    unfold Addr.add
    split
    · rename_i hj0
      have hj0' : j = 0 := by simpa using hj0
      subst hj0'
      simp
    · rw [Nat.add_assoc, hj]
  rw [e0]
  exact this
theorem run_appS (t ty : TypeId) (i : TypeInfo) (z : Value) (bytes : Nat) (ht : P.underlying t = some (.slice e)) (hi : P.info? e = some i) (hz : i.zero = some z)
    (hsize : i.size = sz) (hby : i.bytes = bytes) (hzs : z.cells.size = sz) (hsz : 0 < sz) (hown : OW f sz e base W A n c xs)
    (hy : SL f sz W B A2 m ys) (hf : ∀ x, (f x).length = sz) (h1 : ∀ x, ∀ u ∈ f x, u.oneCell' = true)
    (hbytes : (n + m) * bytes ≤ 140737488355328) (hb1 : 1 ≤ bytes) (hbase : base ≤ W.heap.size) :
    ∃ A' c' w', (Builtin.append_ #[t, t] ty #[.slice A n c, .slice A2 m c2]).run P W = .ok (.slice A' (n + m) c') w' ∧ AppS f sz e base W A n c m xs ys A' c' w' := by
  have hlen : (ys.flatMap f).length = m * sz := by rw [hy.1]; exact flat_len hf ys
  have hone : ∀ u ∈ ys.flatMap f, u.oneCell' = true := fun u hu => by
    obtain ⟨y, _, hyu⟩ := List.mem_flatMap.1 hu
    exact h1 y u hyu
  have h63 : n + m ≤ maxLen := by
    unfold maxLen
    have : n + m ≤ (n + m) * bytes := Nat.le_mul_of_pos_right _ (by omega)
    omega
  rcases A2 with _ | ad
  · have hm : m = 0 := by
      rcases Nat.eq_zero_or_pos m with h0 | h0
      · exact h0
      · obtain ⟨_, _, h, _⟩ := hy.2 h0; cases h
    subst hm
    have hys : ys = [] := List.eq_nil_of_length_eq_zero hy.1.symm
    subst hys
    exact ⟨A, c, W, run_append_of_nil t ty i ht hi _ _ hown.1 c2, ⟨by rw [List.append_nil]; exact hown, Below.refl _ _, fun b hb => .inl ⟨b, hb, rfl⟩, fun _ _ _ => rfl, Nat.le_refl _⟩⟩
  · obtain ⟨v', w', hrun, h2, h3, h4, h5⟩ := run_append_own_at (P := P) W base t ty e i z sz bytes ht hi hz hsize hby hzs hsz _ n _ hown.1 ad m c2 _ hlen (hy.cells hf hsz rfl) hone h63 hbytes hbase
    have hv : ∃ A' c', v' = .slice A' (n + m) c' := by
      rcases h2.2 with ⟨rfl, h0⟩ | ⟨g, cap, cur, rfl, _⟩
      · exact ⟨none, 0, by rw [h0]⟩
      · exact ⟨_, _, rfl⟩
    obtain ⟨A', c', rfl⟩ := hv
    refine ⟨A', c', w', hrun, ⟨⟨by rw [List.flatMap_append]; exact h2, by simp [hown.2, hy.1]⟩, ⟨h3.os, h3.tape, h3.output, h3.size, fun k hk => h3.block k (by omega) (fun e => ?_)⟩, fun b hb => ?_, fun k hk hne => h3.block k hk (fun e => ?_), h3.size⟩⟩
    · rcases A with _ | g'
      · simp [Value.ownBlock] at e
      · simp [Value.ownBlock] at e
        have := (hown.lt rfl).1
        omega
    · subst hb
      rcases h5 with h5 | h5
      · rcases A with _ | g'
        · simp [Value.ownBlock] at h5
        · simp [Value.ownBlock] at h5
          exact .inl ⟨g', rfl, h5.symm⟩
      · simp [Value.ownBlock] at h5
        exact .inr h5
    · rcases A with _ | g'
      · simp [Value.ownBlock] at e
      · simp [Value.ownBlock] at e
        exact hne g' rfl e.symm
/-- In a plain region. -/
theorem wpList_appS {ops : Array Oper} {rest : List Oper} {o : Oper} {a : Act} {Q : Exit → Act → World → Prop} (hgd : o.guard = none) (s x : Operand) (t : TypeId)
    (ho : o.op = .call { callee := .builtin .append, args := #[s, x], argTypes := #[t, t] })
    (base : Nat) (e : TypeId) (z : Value) (sz bytes : Nat) (ht : P.underlying t = some (.slice e)) (hi : (P.info? e).map (fun i => (i.zero, i.size, i.bytes)) = some (some z, sz, bytes))
    (hzs : z.cells.size = sz) (hsz : 0 < sz) (f : α → List Value) (A : Option Addr) (n c : Nat) (xs : List α) (hs : a.eval s = .slice A n c) (hown : OW f sz e base W A n c xs)
    (B : Nat) (A2 : Option Addr) (m c2 : Nat) (ys : List α) (hx : a.eval x = .slice A2 m c2) (hy : SL f sz W B A2 m ys) (hf : ∀ x, (f x).length = sz) (h1 : ∀ x, ∀ u ∈ f x, u.oneCell' = true)
    (hbytes : (n + m) * bytes ≤ 140737488355328) (hby : 1 ≤ bytes) (hbase : base ≤ W.heap.size)
    (h : ∀ A' c' w', AppS f sz e base W A n c m xs ys A' c' w' → wpList P ops Q rest (a.put o.dst (.slice A' (n + m) c')) w') :
    wpList P ops Q (o :: rest) a W := by
  obtain ⟨i, hi', hz, hsize, hbytes'⟩ := info_parts hi
  refine wpList_plain hgd fun K hK => ?_
  obtain ⟨A', c', w', hrun, hap⟩ := run_appS (P := P) (c2 := c2) t o.type i z bytes ht hi' hz hsize hbytes' hzs hsz hown hy hf h1 hbytes hby hbase
  unfold Oper.wp execOp
  simp only [ho, resolve, invoke, builtin, Sem.run_bind, Sem.run_pure, Result.andThen_ok, List.map_toArray, List.map_cons, List.map_nil, hs, hx, hrun]
  exact hK _ _ (h A' c' w' hap)
end
end Go.Proofs.YtcniibngfnkobaaGreatDoor

/- slices.Clone at pieces, crests and junctions. -/
namespace Go.Proofs.YtcniibngfnkobaaGreatDoor
open Go.RowKit Go.Shelf Go.Sort Go.Proofs

theorem OW.zero {α : Type} {f : α → List Value} {sz : Nat} {e : TypeId} {base : Nat} {w : World} {N : Nat} (hb : BK w N e #[]) (hN : base ≤ N) : OW f sz e base w (some ⟨N, 0, none⟩) 0 0 ([] : List α) :=
  ⟨⟨by simp, .inr ⟨N, 0, #[], rfl, hN, hb, Nat.le_refl _, by unfold maxLen; omega, by simp, by simp⟩⟩, rfl⟩
theorem infoP : (Tryz.prog.info? 60).map (fun i => (i.zero, i.size, i.bytes)) = some (some (.agg #[.int .i64 0, .int .i64 0, .int .i64 0, .int .i64 0, .int .i64 0]), 5, 40) := by kernel_rfl
theorem oneP (x : Piece) : ∀ u ∈ pC x, u.oneCell' = true := by intro u hu; simp [pC] at hu; rcases hu with rfl | rfl | rfl | rfl | rfl <;> rfl
set_option maxRecDepth 100000 in
set_option maxHeartbeats 1000000 in
theorem CloneP_any (A : Option Addr) (n c : Nat) (xs : List Piece) (w : World) (h : SL pC 5 w w.heap.size A n xs) (hn : n ≤ 100000) :
    Calls Tryz.prog 20 #[.slice A n c] w fun e w' => ∃ A' c', e = .returned (.slice A' n c') ∧ OW pC 5 60 w.heap.size w' A' n c' xs ∧ Below w.heap.size w w' := by
  rcases A with _ | ad
  · have hn0 : n = 0 := by
      rcases Nat.eq_zero_or_pos n with h0 | h0
      · exact h0
      · obtain ⟨_, _, h, _⟩ := h.2 h0; cases h
    subst hn0
    have hx : xs = [] := List.eq_nil_of_length_eq_zero h.1.symm
    subst hx
    have hq := fun (W : World) => Lib.run_eql_slice_nil (P := Tryz.prog) W 22 60 none 0 c 0 0 Tryz.underlying22
    go_enter Tryz.func20, Tryz.ntmps20
    go_wp2_with fail
    go_ret
    exact ⟨_, _, rfl, OW.nil_, Below.refl _ _⟩
  · have HH := Lib.hid h
    clear h
    have hq := fun (W : World) => Lib.run_eql_slice_nil (P := Tryz.prog) W 22 60 (some ad) n c 0 0 Tryz.underlying22
    have hb0 : BK (w.alloc (.cells #[] 60)) w.heap.size 60 #[] := BK.new _ _ _
    have ho : OW pC 5 60 w.heap.size (w.alloc (.cells #[] 60)) (some ⟨w.heap.size, 0, none⟩) 0 0 [] := OW.zero hb0 (Nat.le_refl _)
    have hba : Below w.heap.size w (w.alloc (.cells #[] 60)) := (Below.refl _ _).alloc (Nat.le_refl _) _
    go_enter Tryz.func20, Tryz.ntmps20
    go_wp2_with (at_builtin; refine wpList_appS rfl _ _ 22 rfl w.heap.size 60 _ 5 40 Tryz.underlying22 infoP rfl (by decide) pC _ 0 0 [] rfl ho w.heap.size (some ad) n c xs rfl (HH.out.below hba) pC_len oneP (by omega) (by omega) (by simp) ?_; intro A' c' w' hap; have HAP := Lib.hid hap; clear hap)
    go_ret
    have hap := HAP.out
    have h1 := hap.own
    rw [List.nil_append] at h1
    simp only [Nat.zero_add] at h1
    exact ⟨_, _, rfl, h1, hba.trans hap.bel⟩
theorem infoC : (Tryz.prog.info? 63).map (fun i => (i.zero, i.size, i.bytes)) = some (some (.agg #[.int .i64 0, .int .i64 0]), 2, 16) := by kernel_rfl
theorem oneC (x : Crest) : ∀ u ∈ cC x, u.oneCell' = true := by intro u hu; simp [cC] at hu; rcases hu with rfl | rfl <;> rfl
set_option maxRecDepth 100000 in
set_option maxHeartbeats 1000000 in
theorem CloneC_any (A : Option Addr) (n c : Nat) (xs : List Crest) (w : World) (h : SL cC 2 w w.heap.size A n xs) (hn : n ≤ 100000) :
    Calls Tryz.prog 21 #[.slice A n c] w fun e w' => ∃ A' c', e = .returned (.slice A' n c') ∧ OW cC 2 63 w.heap.size w' A' n c' xs ∧ Below w.heap.size w w' := by
  rcases A with _ | ad
  · have hn0 : n = 0 := by
      rcases Nat.eq_zero_or_pos n with h0 | h0
      · exact h0
      · obtain ⟨_, _, h, _⟩ := h.2 h0; cases h
    subst hn0
    have hx : xs = [] := List.eq_nil_of_length_eq_zero h.1.symm
    subst hx
    have hq := fun (W : World) => Lib.run_eql_slice_nil (P := Tryz.prog) W 23 63 none 0 c 0 0 Tryz.underlying23
    go_enter Tryz.func21, Tryz.ntmps21
    go_wp2_with fail
    go_ret
    exact ⟨_, _, rfl, OW.nil_, Below.refl _ _⟩
  · have HH := Lib.hid h
    clear h
    have hq := fun (W : World) => Lib.run_eql_slice_nil (P := Tryz.prog) W 23 63 (some ad) n c 0 0 Tryz.underlying23
    have hb0 : BK (w.alloc (.cells #[] 63)) w.heap.size 63 #[] := BK.new _ _ _
    have ho : OW cC 2 63 w.heap.size (w.alloc (.cells #[] 63)) (some ⟨w.heap.size, 0, none⟩) 0 0 [] := OW.zero hb0 (Nat.le_refl _)
    have hba : Below w.heap.size w (w.alloc (.cells #[] 63)) := (Below.refl _ _).alloc (Nat.le_refl _) _
    go_enter Tryz.func21, Tryz.ntmps21
    go_wp2_with (at_builtin; refine wpList_appS rfl _ _ 23 rfl w.heap.size 63 _ 2 16 Tryz.underlying23 infoC rfl (by decide) cC _ 0 0 [] rfl ho w.heap.size (some ad) n c xs rfl (HH.out.below hba) cC_len oneC (by omega) (by omega) (by simp) ?_; intro A' c' w' hap; have HAP := Lib.hid hap; clear hap)
    go_ret
    have hap := HAP.out
    have h1 := hap.own
    rw [List.nil_append] at h1
    simp only [Nat.zero_add] at h1
    exact ⟨_, _, rfl, h1, hba.trans hap.bel⟩
theorem infoJ : (Tryz.prog.info? 66).map (fun i => (i.zero, i.size, i.bytes)) = some (some (.agg #[.int .i64 0, .int .i64 0, .int .i64 0]), 3, 24) := by kernel_rfl
theorem oneJ (x : Junc) : ∀ u ∈ jC x, u.oneCell' = true := by intro u hu; simp [jC] at hu; rcases hu with rfl | rfl | rfl <;> rfl
set_option maxRecDepth 100000 in
set_option maxHeartbeats 1000000 in
theorem CloneJ_any (A : Option Addr) (n c : Nat) (xs : List Junc) (w : World) (h : SL jC 3 w w.heap.size A n xs) (hn : n ≤ 100000) :
    Calls Tryz.prog 22 #[.slice A n c] w fun e w' => ∃ A' c', e = .returned (.slice A' n c') ∧ OW jC 3 66 w.heap.size w' A' n c' xs ∧ Below w.heap.size w w' := by
  rcases A with _ | ad
  · have hn0 : n = 0 := by
      rcases Nat.eq_zero_or_pos n with h0 | h0
      · exact h0
      · obtain ⟨_, _, h, _⟩ := h.2 h0; cases h
    subst hn0
    have hx : xs = [] := List.eq_nil_of_length_eq_zero h.1.symm
    subst hx
    have hq := fun (W : World) => Lib.run_eql_slice_nil (P := Tryz.prog) W 24 66 none 0 c 0 0 Tryz.underlying24
    go_enter Tryz.func22, Tryz.ntmps22
    go_wp2_with fail
    go_ret
    exact ⟨_, _, rfl, OW.nil_, Below.refl _ _⟩
  · have HH := Lib.hid h
    clear h
    have hq := fun (W : World) => Lib.run_eql_slice_nil (P := Tryz.prog) W 24 66 (some ad) n c 0 0 Tryz.underlying24
    have hb0 : BK (w.alloc (.cells #[] 66)) w.heap.size 66 #[] := BK.new _ _ _
    have ho : OW jC 3 66 w.heap.size (w.alloc (.cells #[] 66)) (some ⟨w.heap.size, 0, none⟩) 0 0 [] := OW.zero hb0 (Nat.le_refl _)
    have hba : Below w.heap.size w (w.alloc (.cells #[] 66)) := (Below.refl _ _).alloc (Nat.le_refl _) _
    go_enter Tryz.func22, Tryz.ntmps22
    go_wp2_with (at_builtin; refine wpList_appS rfl _ _ 24 rfl w.heap.size 66 _ 3 24 Tryz.underlying24 infoJ rfl (by decide) jC _ 0 0 [] rfl ho w.heap.size (some ad) n c xs rfl (HH.out.below hba) jC_len oneJ (by omega) (by omega) (by simp) ?_; intro A' c' w' hap; have HAP := Lib.hid hap; clear hap)
    go_ret
    have hap := HAP.out
    have h1 := hap.own
    rw [List.nil_append] at h1
    simp only [Nat.zero_add] at h1
    exact ⟨_, _, rfl, h1, hba.trans hap.bel⟩
end Go.Proofs.YtcniibngfnkobaaGreatDoor
