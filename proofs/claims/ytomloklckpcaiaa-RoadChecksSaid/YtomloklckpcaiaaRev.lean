/- append of a whole slice onto a row of the call's own. Plain theorems over any program. -/
import Derived.Test.YtomloklckpcaiaaGrouped
import Derived.Test.YtomloklckpcaiaaRCorn
import Derived.RegionTactic
import Derived.BigRegion
namespace Go.Proofs.Ytomloklckpcaiaa
open Go.RowKit Go.Proofs

section
variable {α : Type} {P : Program} {f : α → List Value} {sz : Nat} {e : TypeId} {base : Nat} {W : World} {A A2 : Option Addr} {n c m c2 B : Nat} {xs ys : List α}
/-- What an append of a slice leaves. -/
structure AppS (f : α → List Value) (sz : Nat) (e : TypeId) (base : Nat) (W : World) (A : Option Addr) (n c m : Nat) (xs ys : List α) (A' : Option Addr) (c' : Nat) (w' : World) : Prop where
  own : OW f sz e base w' A' (n + m) c' (xs ++ ys)
  bel : Below base W w'
  at_ : (∀ b, A' = some b → (∃ b', A = some b' ∧ b'.block = b.block) ∨ b.block = W.heap.size)
  far : ∀ k, k < W.heap.size → (∀ b, A = some b → b.block ≠ k) → w'.heap[k]? = W.heap[k]?
  size : W.heap.size ≤ w'.heap.size
theorem run_append_of_nil (t ty : TypeId) (i : TypeInfo) (ht : P.underlying t = some (.slice e)) (hi : P.info? e = some i)
    (v : Value) (cs : List Value) (hown : W.ownsRow base e sz v n cs) (q : Nat) : (Builtin.append_ #[t, t] ty #[v, .slice none 0 q]).run P W = .ok v W := by
  rcases hown.2 with ⟨rfl, rfl⟩ | ⟨g, cap, cur, rfl, _, _, hnc, _⟩
  · simp [Builtin.append_, run_underlying ht, sizeOf, typeInfo, hi, Builtin.lenOf, Builtin.firstCells]
  · simp [Builtin.append_, run_underlying ht, sizeOf, typeInfo, hi, Builtin.lenOf, Builtin.firstCells, hnc, storeCells]
theorem flat_len {f : α → List Value} (hf : ∀ x, (f x).length = sz) : ∀ ys : List α, (ys.flatMap f).length = ys.length * sz
  | [] => by simp
  | y :: ys => by rw [List.flatMap_cons, List.length_append, hf, List.length_cons, Nat.succ_mul, flat_len hf ys]; omega
theorem flat_of (hf : ∀ x, (f x).length = sz) (hsz : 0 < sz) : ∀ (ys : List α) (j : Nat) (u : Value), (ys.flatMap f)[j]? = some u → ∃ y, ys[j / sz]? = some y ∧ (f y)[j % sz]? = some u
  | [], j, u, h => by simp at h
  | y :: ys, j, u, h => by
    rw [List.flatMap_cons] at h
    rcases Nat.lt_or_ge j sz with hj | hj
    · rw [List.getElem?_append_left (by rw [hf]; exact hj)] at h
      exact ⟨y, by rw [Nat.div_eq_of_lt hj]; rfl, by rw [Nat.mod_eq_of_lt hj]; exact h⟩
    · rw [List.getElem?_append_right (by rw [hf]; exact hj), hf] at h
      obtain ⟨y', h1, h2⟩ := flat_of hf hsz ys (j - sz) u h
      refine ⟨y', ?_, ?_⟩
      · rw [show j / sz = (j - sz) / sz + 1 by rw [Nat.div_eq_sub_div hsz hj]]
        simpa using h1
      · rw [← h2, Nat.mod_eq_sub_mod hj]
/-- The cells of a slice that reads as ys. -/
theorem SL.cells (hy : SL f sz W B A2 m ys) (hf : ∀ x, (f x).length = sz) (hsz : 0 < sz) {ad : Addr} (hA : A2 = some ad) : ∀ j u, (ys.flatMap f)[j]? = some u → W.cell? (ad.add j) = some u := by
  intro j u hj
  obtain ⟨y, h1, h2⟩ := flat_of hf hsz ys j u hj
  have hl := (List.getElem?_eq_some_iff.1 h1).1
  obtain ⟨b, off, e1, hb, hc⟩ := hy.2 (by rw [hy.1]; exact Nat.lt_of_le_of_lt (Nat.zero_le _) hl)
  rw [hA] at e1
  cases e1
  have := hc (j / sz) y h1 (j % sz) u h2
  have e0 : ((⟨b, off, none⟩ : Addr).add j) = ⟨b, off + (j / sz) * sz + j % sz, none⟩ := by
    have hj : j / sz * sz + j % sz = j := by rw [Nat.mul_comm]; exact Nat.div_add_mod j sz
    unfold Addr.add
    split
    · rename_i hj0
      have hj0' : j = 0 := by simpa using hj0
      subst hj0'
      simp
    · rw [Nat.add_assoc, hj]
  rw [e0]
  exact this
theorem run_appS (t ty : TypeId) (i : TypeInfo) (z : Value) (bytes : Nat) (ht : P.underlying t = some (.slice e)) (hi : P.info? e = some i) (hz : i.zero = some z)
    (hsize : i.size = sz) (hby : i.bytes = bytes) (hzs : z.cells.size = sz) (hsz : 0 < sz) (hown : OW f sz e base W A n c xs)
    (hy : SL f sz W B A2 m ys) (hf : ∀ x, (f x).length = sz) (h1 : ∀ x, ∀ u ∈ f x, u.oneCell' = true)
    (hbytes : (n + m) * bytes ≤ 140737488355328) (hb1 : 1 ≤ bytes) (hbase : base ≤ W.heap.size) :
    ∃ A' c' w', (Builtin.append_ #[t, t] ty #[.slice A n c, .slice A2 m c2]).run P W = .ok (.slice A' (n + m) c') w' ∧ AppS f sz e base W A n c m xs ys A' c' w' := by
  have hlen : (ys.flatMap f).length = m * sz := by rw [hy.1]; exact flat_len hf ys
  have hone : ∀ u ∈ ys.flatMap f, u.oneCell' = true := fun u hu => by
    obtain ⟨y, _, hyu⟩ := List.mem_flatMap.1 hu
    exact h1 y u hyu
  have h63 : n + m ≤ maxLen := by
    unfold maxLen
    have : n + m ≤ (n + m) * bytes := Nat.le_mul_of_pos_right _ (by omega)
    omega
  rcases A2 with _ | ad
  · have hm : m = 0 := by
      rcases Nat.eq_zero_or_pos m with h0 | h0
      · exact h0
      · obtain ⟨_, _, h, _⟩ := hy.2 h0; cases h
    subst hm
    have hys : ys = [] := List.eq_nil_of_length_eq_zero hy.1.symm
    subst hys
    exact ⟨A, c, W, run_append_of_nil t ty i ht hi _ _ hown.1 c2, ⟨by rw [List.append_nil]; exact hown, Below.refl _ _, fun b hb => .inl ⟨b, hb, rfl⟩, fun _ _ _ => rfl, Nat.le_refl _⟩⟩
  · obtain ⟨v', w', hrun, h2, h3, h4, h5⟩ := run_append_own_at (P := P) W base t ty e i z sz bytes ht hi hz hsize hby hzs hsz _ n _ hown.1 ad m c2 _ hlen (hy.cells hf hsz rfl) hone h63 hbytes hbase
    have hv : ∃ A' c', v' = .slice A' (n + m) c' := by
      rcases h2.2 with ⟨rfl, h0⟩ | ⟨g, cap, cur, rfl, _⟩
      · exact ⟨none, 0, by rw [h0]⟩
      · exact ⟨_, _, rfl⟩
    obtain ⟨A', c', rfl⟩ := hv
    refine ⟨A', c', w', hrun, ⟨⟨by rw [List.flatMap_append]; exact h2, by simp [hown.2, hy.1]⟩, ⟨h3.os, h3.tape, h3.output, h3.size, fun k hk => h3.block k (by omega) (fun e => ?_)⟩, fun b hb => ?_, fun k hk hne => h3.block k hk (fun e => ?_), h3.size⟩⟩
    · rcases A with _ | g'
      · simp [Value.ownBlock] at e
      · simp [Value.ownBlock] at e
        have := (hown.lt rfl).1
        omega
    · subst hb
      rcases h5 with h5 | h5
      · rcases A with _ | g'
        · simp [Value.ownBlock] at h5
        · simp [Value.ownBlock] at h5
          exact .inl ⟨g', rfl, h5.symm⟩
      · simp [Value.ownBlock] at h5
        exact .inr h5
    · rcases A with _ | g'
      · simp [Value.ownBlock] at e
      · simp [Value.ownBlock] at e
        exact hne g' rfl e.symm
/-- In a plain region. -/
theorem wpList_appS {ops : Array Oper} {rest : List Oper} {o : Oper} {a : Act} {Q : Exit → Act → World → Prop} (hgd : o.guard = none) (s x : Operand) (t : TypeId)
    (ho : o.op = .call { callee := .builtin .append, args := #[s, x], argTypes := #[t, t] })
    (base : Nat) (e : TypeId) (z : Value) (sz bytes : Nat) (ht : P.underlying t = some (.slice e)) (hi : (P.info? e).map (fun i => (i.zero, i.size, i.bytes)) = some (some z, sz, bytes))
    (hzs : z.cells.size = sz) (hsz : 0 < sz) (f : α → List Value) (A : Option Addr) (n c : Nat) (xs : List α) (hs : a.eval s = .slice A n c) (hown : OW f sz e base W A n c xs)
    (B : Nat) (A2 : Option Addr) (m c2 : Nat) (ys : List α) (hx : a.eval x = .slice A2 m c2) (hy : SL f sz W B A2 m ys) (hf : ∀ x, (f x).length = sz) (h1 : ∀ x, ∀ u ∈ f x, u.oneCell' = true)
    (hbytes : (n + m) * bytes ≤ 140737488355328) (hby : 1 ≤ bytes) (hbase : base ≤ W.heap.size)
    (h : ∀ A' c' w', AppS f sz e base W A n c m xs ys A' c' w' → wpList P ops Q rest (a.put o.dst (.slice A' (n + m) c')) w') :
    wpList P ops Q (o :: rest) a W := by
  obtain ⟨i, hi', hz, hsize, hbytes'⟩ := info_parts hi
  refine wpList_plain hgd fun K hK => ?_
  obtain ⟨A', c', w', hrun, hap⟩ := run_appS (P := P) (c2 := c2) t o.type i z bytes ht hi' hz hsize hbytes' hzs hsz hown hy hf h1 hbytes hby hbase
  unfold Oper.wp execOp
  simp only [ho, resolve, invoke, builtin, Sem.run_bind, Sem.run_pure, Result.andThen_ok, List.map_toArray, List.map_cons, List.map_nil, hs, hx, hrun]
  exact hK _ _ (h A' c' w' hap)
end
end Go.Proofs.Ytomloklckpcaiaa

/- slices.Clone at pieces, crests and junctions. -/
namespace Go.Proofs.Ytomloklckpcaiaa
open Go.RowKit Go.Shelf Go.Sort Go.Proofs

theorem OW.zero {α : Type} {f : α → List Value} {sz : Nat} {e : TypeId} {base : Nat} {w : World} {N : Nat} (hb : BK w N e #[]) (hN : base ≤ N) : OW f sz e base w (some ⟨N, 0, none⟩) 0 0 ([] : List α) :=
  ⟨⟨by simp, .inr ⟨N, 0, #[], rfl, hN, hb, Nat.le_refl _, by unfold maxLen; omega, by simp, by simp⟩⟩, rfl⟩
theorem infoP : (Try.prog.info? 52).map (fun i => (i.zero, i.size, i.bytes)) = some (some (.agg #[.int .i64 0, .int .i64 0, .int .i64 0, .int .i64 0, .int .i64 0]), 5, 40) := by kernel_rfl
theorem oneP (x : Piece) : ∀ u ∈ pC x, u.oneCell' = true := by intro u hu; simp [pC] at hu; rcases hu with rfl | rfl | rfl | rfl | rfl <;> rfl
set_option maxRecDepth 100000 in
set_option maxHeartbeats 1000000 in
theorem CloneP_any (A : Option Addr) (n c : Nat) (xs : List Piece) (w : World) (h : SL pC 5 w w.heap.size A n xs) (hn : n ≤ 100000) :
    Calls Try.prog 65 #[.slice A n c] w fun e w' => ∃ A' c', e = .returned (.slice A' n c') ∧ OW pC 5 52 w.heap.size w' A' n c' xs ∧ Below w.heap.size w w' := by
  rcases A with _ | ad
  · have hn0 : n = 0 := by
      rcases Nat.eq_zero_or_pos n with h0 | h0
      · exact h0
      · obtain ⟨_, _, h, _⟩ := h.2 h0; cases h
    subst hn0
    have hx : xs = [] := List.eq_nil_of_length_eq_zero h.1.symm
    subst hx
    have hq := fun (W : World) => Lib.run_eql_slice_nil (P := Try.prog) W 22 52 none 0 c 0 0 Try.underlying22
    go_enter Try.func65, Try.ntmps65
    go_wp2_with fail
    go_ret
    exact ⟨_, _, rfl, OW.nil_, Below.refl _ _⟩
  · have HH := Lib.hid h
    clear h
    have hq := fun (W : World) => Lib.run_eql_slice_nil (P := Try.prog) W 22 52 (some ad) n c 0 0 Try.underlying22
    have hb0 : BK (w.alloc (.cells #[] 52)) w.heap.size 52 #[] := BK.new _ _ _
    have ho : OW pC 5 52 w.heap.size (w.alloc (.cells #[] 52)) (some ⟨w.heap.size, 0, none⟩) 0 0 [] := OW.zero hb0 (Nat.le_refl _)
    have hba : Below w.heap.size w (w.alloc (.cells #[] 52)) := (Below.refl _ _).alloc (Nat.le_refl _) _
    go_enter Try.func65, Try.ntmps65
    go_wp2_with (at_builtin; refine wpList_appS rfl _ _ 22 rfl w.heap.size 52 _ 5 40 Try.underlying22 infoP rfl (by decide) pC _ 0 0 [] rfl ho w.heap.size (some ad) n c xs rfl (HH.out.below hba) pC_len oneP (by omega) (by omega) (by simp) ?_; intro A' c' w' hap; have HAP := Lib.hid hap; clear hap)
    go_ret
    have hap := HAP.out
    have h1 := hap.own
    rw [List.nil_append] at h1
    simp only [Nat.zero_add] at h1
    exact ⟨_, _, rfl, h1, hba.trans hap.bel⟩
theorem infoC : (Try.prog.info? 87).map (fun i => (i.zero, i.size, i.bytes)) = some (some (.agg #[.int .i64 0, .int .i64 0]), 2, 16) := by kernel_rfl
theorem oneC (x : Crest) : ∀ u ∈ cC x, u.oneCell' = true := by intro u hu; simp [cC] at hu; rcases hu with rfl | rfl <;> rfl
set_option maxRecDepth 100000 in
set_option maxHeartbeats 1000000 in
theorem CloneC_any (A : Option Addr) (n c : Nat) (xs : List Crest) (w : World) (h : SL cC 2 w w.heap.size A n xs) (hn : n ≤ 100000) :
    Calls Try.prog 66 #[.slice A n c] w fun e w' => ∃ A' c', e = .returned (.slice A' n c') ∧ OW cC 2 87 w.heap.size w' A' n c' xs ∧ Below w.heap.size w w' := by
  rcases A with _ | ad
  · have hn0 : n = 0 := by
      rcases Nat.eq_zero_or_pos n with h0 | h0
      · exact h0
      · obtain ⟨_, _, h, _⟩ := h.2 h0; cases h
    subst hn0
    have hx : xs = [] := List.eq_nil_of_length_eq_zero h.1.symm
    subst hx
    have hq := fun (W : World) => Lib.run_eql_slice_nil (P := Try.prog) W 23 87 none 0 c 0 0 Try.underlying23
    go_enter Try.func66, Try.ntmps66
    go_wp2_with fail
    go_ret
    exact ⟨_, _, rfl, OW.nil_, Below.refl _ _⟩
  · have HH := Lib.hid h
    clear h
    have hq := fun (W : World) => Lib.run_eql_slice_nil (P := Try.prog) W 23 87 (some ad) n c 0 0 Try.underlying23
    have hb0 : BK (w.alloc (.cells #[] 87)) w.heap.size 87 #[] := BK.new _ _ _
    have ho : OW cC 2 87 w.heap.size (w.alloc (.cells #[] 87)) (some ⟨w.heap.size, 0, none⟩) 0 0 [] := OW.zero hb0 (Nat.le_refl _)
    have hba : Below w.heap.size w (w.alloc (.cells #[] 87)) := (Below.refl _ _).alloc (Nat.le_refl _) _
    go_enter Try.func66, Try.ntmps66
    go_wp2_with (at_builtin; refine wpList_appS rfl _ _ 23 rfl w.heap.size 87 _ 2 16 Try.underlying23 infoC rfl (by decide) cC _ 0 0 [] rfl ho w.heap.size (some ad) n c xs rfl (HH.out.below hba) cC_len oneC (by omega) (by omega) (by simp) ?_; intro A' c' w' hap; have HAP := Lib.hid hap; clear hap)
    go_ret
    have hap := HAP.out
    have h1 := hap.own
    rw [List.nil_append] at h1
    simp only [Nat.zero_add] at h1
    exact ⟨_, _, rfl, h1, hba.trans hap.bel⟩
theorem infoJ : (Try.prog.info? 89).map (fun i => (i.zero, i.size, i.bytes)) = some (some (.agg #[.int .i64 0, .int .i64 0, .int .i64 0]), 3, 24) := by kernel_rfl
theorem oneJ (x : Junc) : ∀ u ∈ jC x, u.oneCell' = true := by intro u hu; simp [jC] at hu; rcases hu with rfl | rfl | rfl <;> rfl
set_option maxRecDepth 100000 in
set_option maxHeartbeats 1000000 in
theorem CloneJ_any (A : Option Addr) (n c : Nat) (xs : List Junc) (w : World) (h : SL jC 3 w w.heap.size A n xs) (hn : n ≤ 100000) :
    Calls Try.prog 67 #[.slice A n c] w fun e w' => ∃ A' c', e = .returned (.slice A' n c') ∧ OW jC 3 89 w.heap.size w' A' n c' xs ∧ Below w.heap.size w w' := by
  rcases A with _ | ad
  · have hn0 : n = 0 := by
      rcases Nat.eq_zero_or_pos n with h0 | h0
      · exact h0
      · obtain ⟨_, _, h, _⟩ := h.2 h0; cases h
    subst hn0
    have hx : xs = [] := List.eq_nil_of_length_eq_zero h.1.symm
    subst hx
    have hq := fun (W : World) => Lib.run_eql_slice_nil (P := Try.prog) W 24 89 none 0 c 0 0 Try.underlying24
    go_enter Try.func67, Try.ntmps67
    go_wp2_with fail
    go_ret
    exact ⟨_, _, rfl, OW.nil_, Below.refl _ _⟩
  · have HH := Lib.hid h
    clear h
    have hq := fun (W : World) => Lib.run_eql_slice_nil (P := Try.prog) W 24 89 (some ad) n c 0 0 Try.underlying24
    have hb0 : BK (w.alloc (.cells #[] 89)) w.heap.size 89 #[] := BK.new _ _ _
    have ho : OW jC 3 89 w.heap.size (w.alloc (.cells #[] 89)) (some ⟨w.heap.size, 0, none⟩) 0 0 [] := OW.zero hb0 (Nat.le_refl _)
    have hba : Below w.heap.size w (w.alloc (.cells #[] 89)) := (Below.refl _ _).alloc (Nat.le_refl _) _
    go_enter Try.func67, Try.ntmps67
    go_wp2_with (at_builtin; refine wpList_appS rfl _ _ 24 rfl w.heap.size 89 _ 3 24 Try.underlying24 infoJ rfl (by decide) jC _ 0 0 [] rfl ho w.heap.size (some ad) n c xs rfl (HH.out.below hba) jC_len oneJ (by omega) (by omega) (by simp) ?_; intro A' c' w' hap; have HAP := Lib.hid hap; clear hap)
    go_ret
    have hap := HAP.out
    have h1 := hap.own
    rw [List.nil_append] at h1
    simp only [Nat.zero_add] at h1
    exact ⟨_, _, rfl, h1, hba.trans hap.bel⟩
end Go.Proofs.Ytomloklckpcaiaa

/- slices.Reverse at pieces, crests and junctions, of a row of the caller's own. -/
namespace Go.Proofs.Ytomloklckpcaiaa
open Go.RowKit Go.Shelf Go.Sort Go.Proofs

theorem only_drew {a w : World} {row : Option Nat} (h : a.grownBy w row) : a.grownBy w.drew row := ⟨h.os, h.tape, h.output, h.size, h.block⟩
theorem only_drewN {a w : World} {row : Option Nat} (h : a.grownBy w row) (n : Nat) : a.grownBy (w.drewN n) row := ⟨h.os, h.tape, h.output, h.size, h.block⟩
theorem only_set {a w : World} {g o : Nat} (h : a.grownBy w (some g)) (u : Value) : a.grownBy (w.setCell ⟨g, o, none⟩ u) (some g) :=
  ⟨h.os, h.tape, h.output, by simpa [World.setCell] using h.size, fun i hi hne => (Below.heap_setCell w _ u i (by rintro rfl; exact hne rfl)).trans (h.block i hi hne)⟩
theorem only_trans {a b c : World} {row : Option Nat} (h : a.grownBy b row) (k : b.grownBy c row) : a.grownBy c row :=
  ⟨k.os.trans h.os, k.tape.trans h.tape, k.output.trans h.output, Nat.le_trans h.size k.size, fun i hi hne => (k.block i (Nat.lt_of_lt_of_le hi h.size) hne).trans (h.block i hi hne)⟩
theorem only_below {a w : World} {g B : Nat} (h : a.grownBy w (some g)) (hB : B ≤ a.heap.size) (hg : B ≤ g) : Below B a w :=
  ⟨h.os, h.tape, h.output, h.size, fun k hk => h.block k (by omega) (by intro e; injection e; omega)⟩
section
variable {α : Type}
def swp (xs : List α) (i j : Nat) : List α := match xs[i]?, xs[j]? with
  | some a, some b => (xs.set i b).set j a
  | _, _ => xs
theorem swp_len (xs : List α) (i j : Nat) : (swp xs i j).length = xs.length := by unfold swp; split <;> simp
def revK (xs : List α) : Nat → List α
  | 0 => xs
  | k + 1 => swp (revK xs k) k (xs.length - 1 - k)
theorem revK_len (xs : List α) : ∀ k, (revK xs k).length = xs.length
  | 0 => rfl
  | k + 1 => by rw [revK, swp_len, revK_len xs k]
theorem revK_at (xs : List α) : ∀ k, 2 * k ≤ xs.length → ∀ i, i < xs.length → (revK xs k)[i]? = if i < k ∨ xs.length - k ≤ i then xs[xs.length - 1 - i]? else xs[i]?
  | 0, _, i, hi => by rw [if_neg (by omega)]; rfl
  | k + 1, hk, i, hi => by
    have ih := revK_at xs k (by omega)
    have hl := revK_len xs k
    have h1 := ih k (by omega)
    have h2 := ih (xs.length - 1 - k) (by omega)
    rw [if_neg (by omega)] at h1 h2
    rw [List.getElem?_eq_getElem (by omega : k < xs.length)] at h1
    rw [List.getElem?_eq_getElem (by omega : xs.length - 1 - k < xs.length)] at h2
    rw [revK, swp, h1, h2]
    simp only [List.getElem?_set, List.length_set, hl]
    by_cases e1 : xs.length - 1 - k = i
    · subst e1
      rw [if_pos rfl, if_pos (by omega), if_pos (by omega), List.getElem?_eq_getElem (by omega)]
      congr 2
      omega
    · rw [if_neg e1]
      by_cases e2 : k = i
      · subst e2
        rw [if_pos rfl, if_pos (by omega), if_pos (by omega), List.getElem?_eq_getElem (by omega)]
      · rw [if_neg e2, ih i hi]
        by_cases e3 : i < k ∨ xs.length - k ≤ i
        · rw [if_pos e3, if_pos (by omega)]
        · rw [if_neg e3, if_neg (by omega)]
theorem revK_done (xs : List α) (k : Nat) (h1 : 2 * k ≤ xs.length) (h2 : xs.length ≤ 2 * k + 1) : revK xs k = xs.reverse := by
  apply List.ext_getElem?
  intro i
  rcases Nat.lt_or_ge i xs.length with hi | hi
  · rw [revK_at xs k h1 i hi, List.getElem?_reverse hi]
    split
    · rfl
    · congr 1; omega
  · rw [List.getElem?_eq_none (by rw [revK_len]; exact hi), List.getElem?_eq_none (by simpa using hi)]
end

set_option maxRecDepth 100000 in
set_option maxHeartbeats 4000000 in
theorem RevP_any (base b n c : Nat) (xs : List Piece) (w : World) (h : OW pC 5 52 base w (some ⟨b, 0, none⟩) n c xs) (hn : n ≤ 100000) :
    Calls Try.prog 68 #[.slice (some ⟨b, 0, none⟩) n c] w fun e w' => (∃ v, e = .returned v) ∧ OW pC 5 52 base w' (some ⟨b, 0, none⟩) n c xs.reverse ∧ w.grownBy w' (some b) := by
  have hmo : Try.prog.follows .mixedOrders = true := by kernel_rfl
  have HH := Lib.hid h
  have hnl := h.2
  have HN := Lib.hid hnl
  clear h hnl
  go_enter Try.func68, Try.ntmps68
  go_wp2_with fail
  go_loopw [2, 3] (fun iv jv wr => ∃ k : Nat, iv = .int .i64 k ∧ jv = .int .i64 ((n : Int) - 1 - k) ∧ 2 * k ≤ n ∧ OW pC 5 52 base wr (some ⟨b, 0, none⟩) n c (revK xs k) ∧ w.grownBy wr (some b))
    (fun iv _ _ => n - (intOf iv).toNat)
  case atStart => exact ⟨0, rfl, by simp, Nat.zero_le _, HH.out, World.grownBy.refl w _⟩
  case round =>
    obtain ⟨k, rfl, rfl, hk, hO, hg⟩ := hrel
    by_cases hlt : 2 * k + 1 < n
    · have hlt' : (k : Int) < (n : Int) - 1 - k := by omega
      obtain ⟨b', hb', hbl, _, hfz, hrow⟩ := hO.at_ pC_len _ rfl
      cases hb'
      have hrl := revK_len xs k
      have hkl : k < (revK xs k).length := by have := HN.out; omega
      have hjl : n - 1 - k < (revK xs k).length := by have := HN.out; omega
      have hkx : (revK xs k)[k]? = some (revK xs k)[k] := List.getElem?_eq_getElem hkl
      have hky : (revK xs k)[n - 1 - k]? = some (revK xs k)[n - 1 - k] := List.getElem?_eq_getElem hjl
      generalize (revK xs k)[k]'hkl = x at hkx
      generalize (revK xs k)[n - 1 - k]'hjl = y at hky
      have x0 := hrow k x hkx 0 _ rfl
      have x1 := hrow k x hkx 1 _ rfl
      have x2 := hrow k x hkx 2 _ rfl
      have x3 := hrow k x hkx 3 _ rfl
      have x4 := hrow k x hkx 4 _ rfl
      have y0 := hrow (n - 1 - k) y hky 0 _ rfl
      have y1 := hrow (n - 1 - k) y hky 1 _ rfl
      have y2 := hrow (n - 1 - k) y hky 2 _ rfl
      have y3 := hrow (n - 1 - k) y hky 3 _ rfl
      have y4 := hrow (n - 1 - k) y hky 4 _ rfl
      have hax : ∀ q, 0 + k * 5 + q = k * 5 + q := fun q => by omega
      have hay : ∀ q, 0 + (n - 1 - k) * 5 + q = (n - 1 - k) * 5 + q := fun q => by omega
      rw [hax] at x0 x1 x2 x3 x4
      rw [hay] at y0 y1 y2 y3 y4
      rw [Nat.add_zero] at x0 y0
      have hi1 : (0 : Int) ≤ (k : Int) := by omega
      have hi2 : (k : Int) < (n : Int) := by omega
      have hi3 : (0 : Int) ≤ (n : Int) - 1 - k := by omega
      have hi4 : (n : Int) - 1 - k < (n : Int) := by omega
      have hi5 : ((n : Int) - 1 - k).toNat = n - 1 - k := by omega
      have hnew : Hid (revK xs (k + 1) = ((revK xs k).set k y).set (n - 1 - k) x) := by
        rw [revK, ← HN.out, swp, hkx, hky]; exact rfl
      have HKX := Lib.hid hkx
      have HKY := Lib.hid hky
      have HKL := Lib.hid hkl
      have HJL := Lib.hid hjl
      clear hrow hax hay hkx hky hkl hjl hrl
      go_wp2_with fail
      go_region
      go_wp2_with fail
      go_roundw
      case rel =>
        have hkx := HKX.out
        have hky := HKY.out
        have hkl := HKL.out
        have hjl := HJL.out
        have s0 := OW.setF hO pC_len k 0 (x := x) (y := { x with len := y.len }) (v := .int .i64 y.len) hkx (by omega) rfl
        have e0 : ((revK xs k).set k { x with len := y.len })[k]? = some { x with len := y.len } := by simp [hkl]
        have s1 := OW.setF s0 pC_len k 1 (x := { x with len := y.len }) (y := { x with len := y.len, turn := y.turn }) (v := .int .i64 y.turn) e0 (by omega) rfl
        rw [List.set_set] at s1
        have e1 : ((revK xs k).set k { x with len := y.len, turn := y.turn })[k]? = some { x with len := y.len, turn := y.turn } := by simp [hkl]
        have s2 := OW.setF s1 pC_len k 2 (x := { x with len := y.len, turn := y.turn }) (y := { x with len := y.len, turn := y.turn, rad := y.rad }) (v := .int .i64 y.rad) e1 (by omega) rfl
        rw [List.set_set] at s2
        have e2 : ((revK xs k).set k { x with len := y.len, turn := y.turn, rad := y.rad })[k]? = some { x with len := y.len, turn := y.turn, rad := y.rad } := by simp [hkl]
        have s3 := OW.setF s2 pC_len k 3 (x := { x with len := y.len, turn := y.turn, rad := y.rad }) (y := { x with len := y.len, turn := y.turn, rad := y.rad, wid := y.wid }) (v := .int .i64 y.wid) e2 (by omega) rfl
        rw [List.set_set] at s3
        have e3 : ((revK xs k).set k { x with len := y.len, turn := y.turn, rad := y.rad, wid := y.wid })[k]? = some { x with len := y.len, turn := y.turn, rad := y.rad, wid := y.wid } := by simp [hkl]
        have s4 := OW.setF s3 pC_len k 4 (x := { x with len := y.len, turn := y.turn, rad := y.rad, wid := y.wid }) (y := { x with len := y.len, turn := y.turn, rad := y.rad, wid := y.wid, sur := y.sur }) (v := .int .i64 y.sur) e3 (by omega) rfl
        rw [List.set_set] at s4
        have e4 : ((revK xs k).set k { x with len := y.len, turn := y.turn, rad := y.rad, wid := y.wid, sur := y.sur })[k]? = some { x with len := y.len, turn := y.turn, rad := y.rad, wid := y.wid, sur := y.sur } := by simp [hkl]
        have hky2 : ((revK xs k).set k { x with len := y.len, turn := y.turn, rad := y.rad, wid := y.wid, sur := y.sur })[n - 1 - k]? = some y := by rw [List.getElem?_set, if_neg (by omega)]; exact hky
        have t0 := OW.setF s4 pC_len (n - 1 - k) 0 (x := y) (y := { y with len := x.len }) (v := .int .i64 x.len) hky2 (by omega) rfl
        have d0 : (((revK xs k).set k { x with len := y.len, turn := y.turn, rad := y.rad, wid := y.wid, sur := y.sur }).set (n - 1 - k) { y with len := x.len })[n - 1 - k]? = some { y with len := x.len } := by simp [hjl]
        have t1 := OW.setF t0 pC_len (n - 1 - k) 1 (x := { y with len := x.len }) (y := { y with len := x.len, turn := x.turn }) (v := .int .i64 x.turn) d0 (by omega) rfl
        rw [List.set_set] at t1
        have d1 : (((revK xs k).set k { x with len := y.len, turn := y.turn, rad := y.rad, wid := y.wid, sur := y.sur }).set (n - 1 - k) { y with len := x.len, turn := x.turn })[n - 1 - k]? = some { y with len := x.len, turn := x.turn } := by simp [hjl]
        have t2 := OW.setF t1 pC_len (n - 1 - k) 2 (x := { y with len := x.len, turn := x.turn }) (y := { y with len := x.len, turn := x.turn, rad := x.rad }) (v := .int .i64 x.rad) d1 (by omega) rfl
        rw [List.set_set] at t2
        have d2 : (((revK xs k).set k { x with len := y.len, turn := y.turn, rad := y.rad, wid := y.wid, sur := y.sur }).set (n - 1 - k) { y with len := x.len, turn := x.turn, rad := x.rad })[n - 1 - k]? = some { y with len := x.len, turn := x.turn, rad := x.rad } := by simp [hjl]
        have t3 := OW.setF t2 pC_len (n - 1 - k) 3 (x := { y with len := x.len, turn := x.turn, rad := x.rad }) (y := { y with len := x.len, turn := x.turn, rad := x.rad, wid := x.wid }) (v := .int .i64 x.wid) d2 (by omega) rfl
        rw [List.set_set] at t3
        have d3 : (((revK xs k).set k { x with len := y.len, turn := y.turn, rad := y.rad, wid := y.wid, sur := y.sur }).set (n - 1 - k) { y with len := x.len, turn := x.turn, rad := x.rad, wid := x.wid })[n - 1 - k]? = some { y with len := x.len, turn := x.turn, rad := x.rad, wid := x.wid } := by simp [hjl]
        have t4 := OW.setF t3 pC_len (n - 1 - k) 4 (x := { y with len := x.len, turn := x.turn, rad := x.rad, wid := x.wid }) (y := { y with len := x.len, turn := x.turn, rad := x.rad, wid := x.wid, sur := x.sur }) (v := .int .i64 x.sur) d3 (by omega) rfl
        rw [List.set_set] at t4
        have d4 : (((revK xs k).set k { x with len := y.len, turn := y.turn, rad := y.rad, wid := y.wid, sur := y.sur }).set (n - 1 - k) { y with len := x.len, turn := x.turn, rad := x.rad, wid := x.wid, sur := x.sur })[n - 1 - k]? = some { y with len := x.len, turn := x.turn, rad := x.rad, wid := x.wid, sur := x.sur } := by simp [hjl]
        exact ⟨k + 1, by go_num, by congr 1; omega, by omega, by rw [hnew.out]; exact OW.drew t4, only_drew (only_set (only_set (only_set (only_set (only_set (only_set (only_set (only_set (only_set (only_set hg _) _) _) _) _) _) _) _) _) _)⟩
      case measure => simp [intOf]; omega
    · have hres : Hid (revK xs k = xs.reverse) := revK_done xs k (by rw [← HN.out]; exact hk) (by rw [← HN.out]; omega)
      have hnl : ¬ (k : Int) < (n : Int) - 1 - k := by omega
      rw [hres.out] at hO
      go_wp2_with fail
      go_end0
      exact ⟨⟨_, rfl⟩, hO, hg⟩
set_option maxRecDepth 100000 in
set_option maxHeartbeats 4000000 in
theorem RevC_any (base b n c : Nat) (xs : List Crest) (w : World) (h : OW cC 2 87 base w (some ⟨b, 0, none⟩) n c xs) (hn : n ≤ 100000) :
    Calls Try.prog 69 #[.slice (some ⟨b, 0, none⟩) n c] w fun e w' => (∃ v, e = .returned v) ∧ OW cC 2 87 base w' (some ⟨b, 0, none⟩) n c xs.reverse ∧ w.grownBy w' (some b) := by
  have hmo : Try.prog.follows .mixedOrders = true := by kernel_rfl
  have HH := Lib.hid h
  have hnl := h.2
  have HN := Lib.hid hnl
  clear h hnl
  go_enter Try.func69, Try.ntmps69
  go_wp2_with fail
  go_loopw [2, 3] (fun iv jv wr => ∃ k : Nat, iv = .int .i64 k ∧ jv = .int .i64 ((n : Int) - 1 - k) ∧ 2 * k ≤ n ∧ OW cC 2 87 base wr (some ⟨b, 0, none⟩) n c (revK xs k) ∧ w.grownBy wr (some b))
    (fun iv _ _ => n - (intOf iv).toNat)
  case atStart => exact ⟨0, rfl, by simp, Nat.zero_le _, HH.out, World.grownBy.refl w _⟩
  case round =>
    obtain ⟨k, rfl, rfl, hk, hO, hg⟩ := hrel
    by_cases hlt : 2 * k + 1 < n
    · have hlt' : (k : Int) < (n : Int) - 1 - k := by omega
      obtain ⟨b', hb', hbl, _, hfz, hrow⟩ := hO.at_ cC_len _ rfl
      cases hb'
      have hrl := revK_len xs k
      have hkl : k < (revK xs k).length := by have := HN.out; omega
      have hjl : n - 1 - k < (revK xs k).length := by have := HN.out; omega
      have hkx : (revK xs k)[k]? = some (revK xs k)[k] := List.getElem?_eq_getElem hkl
      have hky : (revK xs k)[n - 1 - k]? = some (revK xs k)[n - 1 - k] := List.getElem?_eq_getElem hjl
      generalize (revK xs k)[k]'hkl = x at hkx
      generalize (revK xs k)[n - 1 - k]'hjl = y at hky
      have x0 := hrow k x hkx 0 _ rfl
      have x1 := hrow k x hkx 1 _ rfl
      have y0 := hrow (n - 1 - k) y hky 0 _ rfl
      have y1 := hrow (n - 1 - k) y hky 1 _ rfl
      have hax : ∀ q, 0 + k * 2 + q = k * 2 + q := fun q => by omega
      have hay : ∀ q, 0 + (n - 1 - k) * 2 + q = (n - 1 - k) * 2 + q := fun q => by omega
      rw [hax] at x0 x1
      rw [hay] at y0 y1
      rw [Nat.add_zero] at x0 y0
      have hi1 : (0 : Int) ≤ (k : Int) := by omega
      have hi2 : (k : Int) < (n : Int) := by omega
      have hi3 : (0 : Int) ≤ (n : Int) - 1 - k := by omega
      have hi4 : (n : Int) - 1 - k < (n : Int) := by omega
      have hi5 : ((n : Int) - 1 - k).toNat = n - 1 - k := by omega
      have hnew : Hid (revK xs (k + 1) = ((revK xs k).set k y).set (n - 1 - k) x) := by
        rw [revK, ← HN.out, swp, hkx, hky]; exact rfl
      have HKX := Lib.hid hkx
      have HKY := Lib.hid hky
      have HKL := Lib.hid hkl
      have HJL := Lib.hid hjl
      clear hrow hax hay hkx hky hkl hjl hrl
      go_wp2_with fail
      go_region
      go_wp2_with fail
      go_roundw
      case rel =>
        have hkx := HKX.out
        have hky := HKY.out
        have hkl := HKL.out
        have hjl := HJL.out
        have s0 := OW.setF hO cC_len k 0 (x := x) (y := { x with pos := y.pos }) (v := .int .i64 y.pos) hkx (by omega) rfl
        have e0 : ((revK xs k).set k { x with pos := y.pos })[k]? = some { x with pos := y.pos } := by simp [hkl]
        have s1 := OW.setF s0 cC_len k 1 (x := { x with pos := y.pos }) (y := { x with pos := y.pos, siz := y.siz }) (v := .int .i64 y.siz) e0 (by omega) rfl
        rw [List.set_set] at s1
        have e1 : ((revK xs k).set k { x with pos := y.pos, siz := y.siz })[k]? = some { x with pos := y.pos, siz := y.siz } := by simp [hkl]
        have hky2 : ((revK xs k).set k { x with pos := y.pos, siz := y.siz })[n - 1 - k]? = some y := by rw [List.getElem?_set, if_neg (by omega)]; exact hky
        have t0 := OW.setF s1 cC_len (n - 1 - k) 0 (x := y) (y := { y with pos := x.pos }) (v := .int .i64 x.pos) hky2 (by omega) rfl
        have d0 : (((revK xs k).set k { x with pos := y.pos, siz := y.siz }).set (n - 1 - k) { y with pos := x.pos })[n - 1 - k]? = some { y with pos := x.pos } := by simp [hjl]
        have t1 := OW.setF t0 cC_len (n - 1 - k) 1 (x := { y with pos := x.pos }) (y := { y with pos := x.pos, siz := x.siz }) (v := .int .i64 x.siz) d0 (by omega) rfl
        rw [List.set_set] at t1
        have d1 : (((revK xs k).set k { x with pos := y.pos, siz := y.siz }).set (n - 1 - k) { y with pos := x.pos, siz := x.siz })[n - 1 - k]? = some { y with pos := x.pos, siz := x.siz } := by simp [hjl]
        exact ⟨k + 1, by go_num, by congr 1; omega, by omega, by rw [hnew.out]; exact OW.drew t1, only_drew (only_set (only_set (only_set (only_set hg _) _) _) _)⟩
      case measure => simp [intOf]; omega
    · have hres : Hid (revK xs k = xs.reverse) := revK_done xs k (by rw [← HN.out]; exact hk) (by rw [← HN.out]; omega)
      have hnl : ¬ (k : Int) < (n : Int) - 1 - k := by omega
      rw [hres.out] at hO
      go_wp2_with fail
      go_end0
      exact ⟨⟨_, rfl⟩, hO, hg⟩
set_option maxRecDepth 100000 in
set_option maxHeartbeats 4000000 in
theorem RevJ_any (base b n c : Nat) (xs : List Junc) (w : World) (h : OW jC 3 89 base w (some ⟨b, 0, none⟩) n c xs) (hn : n ≤ 100000) :
    Calls Try.prog 70 #[.slice (some ⟨b, 0, none⟩) n c] w fun e w' => (∃ v, e = .returned v) ∧ OW jC 3 89 base w' (some ⟨b, 0, none⟩) n c xs.reverse ∧ w.grownBy w' (some b) := by
  have hmo : Try.prog.follows .mixedOrders = true := by kernel_rfl
  have HH := Lib.hid h
  have hnl := h.2
  have HN := Lib.hid hnl
  clear h hnl
  go_enter Try.func70, Try.ntmps70
  go_wp2_with fail
  go_loopw [2, 3] (fun iv jv wr => ∃ k : Nat, iv = .int .i64 k ∧ jv = .int .i64 ((n : Int) - 1 - k) ∧ 2 * k ≤ n ∧ OW jC 3 89 base wr (some ⟨b, 0, none⟩) n c (revK xs k) ∧ w.grownBy wr (some b))
    (fun iv _ _ => n - (intOf iv).toNat)
  case atStart => exact ⟨0, rfl, by simp, Nat.zero_le _, HH.out, World.grownBy.refl w _⟩
  case round =>
    obtain ⟨k, rfl, rfl, hk, hO, hg⟩ := hrel
    by_cases hlt : 2 * k + 1 < n
    · have hlt' : (k : Int) < (n : Int) - 1 - k := by omega
      obtain ⟨b', hb', hbl, _, hfz, hrow⟩ := hO.at_ jC_len _ rfl
      cases hb'
      have hrl := revK_len xs k
      have hkl : k < (revK xs k).length := by have := HN.out; omega
      have hjl : n - 1 - k < (revK xs k).length := by have := HN.out; omega
      have hkx : (revK xs k)[k]? = some (revK xs k)[k] := List.getElem?_eq_getElem hkl
      have hky : (revK xs k)[n - 1 - k]? = some (revK xs k)[n - 1 - k] := List.getElem?_eq_getElem hjl
      generalize (revK xs k)[k]'hkl = x at hkx
      generalize (revK xs k)[n - 1 - k]'hjl = y at hky
      have x0 := hrow k x hkx 0 _ rfl
      have x1 := hrow k x hkx 1 _ rfl
      have x2 := hrow k x hkx 2 _ rfl
      have y0 := hrow (n - 1 - k) y hky 0 _ rfl
      have y1 := hrow (n - 1 - k) y hky 1 _ rfl
      have y2 := hrow (n - 1 - k) y hky 2 _ rfl
      have hax : ∀ q, 0 + k * 3 + q = k * 3 + q := fun q => by omega
      have hay : ∀ q, 0 + (n - 1 - k) * 3 + q = (n - 1 - k) * 3 + q := fun q => by omega
      rw [hax] at x0 x1 x2
      rw [hay] at y0 y1 y2
      rw [Nat.add_zero] at x0 y0
      have hi1 : (0 : Int) ≤ (k : Int) := by omega
      have hi2 : (k : Int) < (n : Int) := by omega
      have hi3 : (0 : Int) ≤ (n : Int) - 1 - k := by omega
      have hi4 : (n : Int) - 1 - k < (n : Int) := by omega
      have hi5 : ((n : Int) - 1 - k).toNat = n - 1 - k := by omega
      have hnew : Hid (revK xs (k + 1) = ((revK xs k).set k y).set (n - 1 - k) x) := by
        rw [revK, ← HN.out, swp, hkx, hky]; exact rfl
      have HKX := Lib.hid hkx
      have HKY := Lib.hid hky
      have HKL := Lib.hid hkl
      have HJL := Lib.hid hjl
      clear hrow hax hay hkx hky hkl hjl hrl
      go_wp2_with fail
      go_region
      go_wp2_with fail
      go_roundw
      case rel =>
        have hkx := HKX.out
        have hky := HKY.out
        have hkl := HKL.out
        have hjl := HJL.out
        have s0 := OW.setF hO jC_len k 0 (x := x) (y := { x with pos := y.pos }) (v := .int .i64 y.pos) hkx (by omega) rfl
        have e0 : ((revK xs k).set k { x with pos := y.pos })[k]? = some { x with pos := y.pos } := by simp [hkl]
        have s1 := OW.setF s0 jC_len k 1 (x := { x with pos := y.pos }) (y := { x with pos := y.pos, arms := y.arms }) (v := .int .i64 y.arms) e0 (by omega) rfl
        rw [List.set_set] at s1
        have e1 : ((revK xs k).set k { x with pos := y.pos, arms := y.arms })[k]? = some { x with pos := y.pos, arms := y.arms } := by simp [hkl]
        have s2 := OW.setF s1 jC_len k 2 (x := { x with pos := y.pos, arms := y.arms }) (y := { x with pos := y.pos, arms := y.arms, way := y.way }) (v := .int .i64 y.way) e1 (by omega) rfl
        rw [List.set_set] at s2
        have e2 : ((revK xs k).set k { x with pos := y.pos, arms := y.arms, way := y.way })[k]? = some { x with pos := y.pos, arms := y.arms, way := y.way } := by simp [hkl]
        have hky2 : ((revK xs k).set k { x with pos := y.pos, arms := y.arms, way := y.way })[n - 1 - k]? = some y := by rw [List.getElem?_set, if_neg (by omega)]; exact hky
        have t0 := OW.setF s2 jC_len (n - 1 - k) 0 (x := y) (y := { y with pos := x.pos }) (v := .int .i64 x.pos) hky2 (by omega) rfl
        have d0 : (((revK xs k).set k { x with pos := y.pos, arms := y.arms, way := y.way }).set (n - 1 - k) { y with pos := x.pos })[n - 1 - k]? = some { y with pos := x.pos } := by simp [hjl]
        have t1 := OW.setF t0 jC_len (n - 1 - k) 1 (x := { y with pos := x.pos }) (y := { y with pos := x.pos, arms := x.arms }) (v := .int .i64 x.arms) d0 (by omega) rfl
        rw [List.set_set] at t1
        have d1 : (((revK xs k).set k { x with pos := y.pos, arms := y.arms, way := y.way }).set (n - 1 - k) { y with pos := x.pos, arms := x.arms })[n - 1 - k]? = some { y with pos := x.pos, arms := x.arms } := by simp [hjl]
        have t2 := OW.setF t1 jC_len (n - 1 - k) 2 (x := { y with pos := x.pos, arms := x.arms }) (y := { y with pos := x.pos, arms := x.arms, way := x.way }) (v := .int .i64 x.way) d1 (by omega) rfl
        rw [List.set_set] at t2
        have d2 : (((revK xs k).set k { x with pos := y.pos, arms := y.arms, way := y.way }).set (n - 1 - k) { y with pos := x.pos, arms := x.arms, way := x.way })[n - 1 - k]? = some { y with pos := x.pos, arms := x.arms, way := x.way } := by simp [hjl]
        exact ⟨k + 1, by go_num, by congr 1; omega, by omega, by rw [hnew.out]; exact OW.drew t2, only_drew (only_set (only_set (only_set (only_set (only_set (only_set hg _) _) _) _) _) _)⟩
      case measure => simp [intOf]; omega
    · have hres : Hid (revK xs k = xs.reverse) := revK_done xs k (by rw [← HN.out]; exact hk) (by rw [← HN.out]; omega)
      have hnl : ¬ (k : Int) < (n : Int) - 1 - k := by omega
      rw [hres.out] at hO
      go_wp2_with fail
      go_end0
      exact ⟨⟨_, rfl⟩, hO, hg⟩
set_option maxRecDepth 100000 in
theorem RevP_ow (base : Nat) (A : Option Addr) (n c : Nat) (xs : List Piece) (w : World) (h : OW pC 5 52 base w A n c xs) (hn : n ≤ 100000) :
    Calls Try.prog 68 #[.slice A n c] w fun e w' => (∃ v, e = .returned v) ∧ OW pC 5 52 base w' A n c xs.reverse ∧ w.grownBy w' (A.map (·.block)) := by
  rcases A with _ | a
  · obtain ⟨rfl, rfl, rfl⟩ := h.none_
    go_enter Try.func68, Try.ntmps68
    go_wp2_with fail
    go_loop [2, 3] (fun i j => i = .int .i64 0 ∧ j = .int .i64 (-1)) (fun _ _ => 0)
    case atStart => exact ⟨rfl, rfl⟩
    case round =>
      obtain ⟨rfl, rfl⟩ := hrel
      go_wp2_with fail
      go_end0
      exact ⟨⟨_, rfl⟩, OW.nil_, World.grownBy.refl w _⟩
  · rcases h.1.2 with ⟨h3, _⟩ | ⟨g', cap, cur, h3, _⟩
    · cases h3
    · injection h3 with h3
      injection h3 with h3
      subst h3
      exact RevP_any base g' n c xs w h hn
set_option maxRecDepth 100000 in
theorem RevC_ow (base : Nat) (A : Option Addr) (n c : Nat) (xs : List Crest) (w : World) (h : OW cC 2 87 base w A n c xs) (hn : n ≤ 100000) :
    Calls Try.prog 69 #[.slice A n c] w fun e w' => (∃ v, e = .returned v) ∧ OW cC 2 87 base w' A n c xs.reverse ∧ w.grownBy w' (A.map (·.block)) := by
  rcases A with _ | a
  · obtain ⟨rfl, rfl, rfl⟩ := h.none_
    go_enter Try.func69, Try.ntmps69
    go_wp2_with fail
    go_loop [2, 3] (fun i j => i = .int .i64 0 ∧ j = .int .i64 (-1)) (fun _ _ => 0)
    case atStart => exact ⟨rfl, rfl⟩
    case round =>
      obtain ⟨rfl, rfl⟩ := hrel
      go_wp2_with fail
      go_end0
      exact ⟨⟨_, rfl⟩, OW.nil_, World.grownBy.refl w _⟩
  · rcases h.1.2 with ⟨h3, _⟩ | ⟨g', cap, cur, h3, _⟩
    · cases h3
    · injection h3 with h3
      injection h3 with h3
      subst h3
      exact RevC_any base g' n c xs w h hn
set_option maxRecDepth 100000 in
theorem RevJ_ow (base : Nat) (A : Option Addr) (n c : Nat) (xs : List Junc) (w : World) (h : OW jC 3 89 base w A n c xs) (hn : n ≤ 100000) :
    Calls Try.prog 70 #[.slice A n c] w fun e w' => (∃ v, e = .returned v) ∧ OW jC 3 89 base w' A n c xs.reverse ∧ w.grownBy w' (A.map (·.block)) := by
  rcases A with _ | a
  · obtain ⟨rfl, rfl, rfl⟩ := h.none_
    go_enter Try.func70, Try.ntmps70
    go_wp2_with fail
    go_loop [2, 3] (fun i j => i = .int .i64 0 ∧ j = .int .i64 (-1)) (fun _ _ => 0)
    case atStart => exact ⟨rfl, rfl⟩
    case round =>
      obtain ⟨rfl, rfl⟩ := hrel
      go_wp2_with fail
      go_end0
      exact ⟨⟨_, rfl⟩, OW.nil_, World.grownBy.refl w _⟩
  · rcases h.1.2 with ⟨h3, _⟩ | ⟨g', cap, cur, h3, _⟩
    · cases h3
    · injection h3 with h3
      injection h3 with h3
      subst h3
      exact RevJ_any base g' n c xs w h hn
end Go.Proofs.Ytomloklckpcaiaa
