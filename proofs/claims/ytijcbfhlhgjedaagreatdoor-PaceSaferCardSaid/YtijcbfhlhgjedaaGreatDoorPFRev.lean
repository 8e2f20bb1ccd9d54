/- append of a whole slice onto a row of the call's own. Plain theorems over any program. -/
import Derived.Test.YtijcbfhlhgjedaaGreatDoorPCBBase
import Derived.Test.YtijcbfhlhgjedaaGreatDoorPCBRoad
import Derived.Test.YtijcbfhlhgjedaaGreatDoorPCBLeaf
import Derived.Test.YtijcbfhlhgjedaaGreatDoorPCBCheck
import Derived.Test.YtijcbfhlhgjedaaGreatDoorPCBValid
import Derived.Test.YtijcbfhlhgjedaaGreatDoorPCBFind
import Derived.Test.YtijcbfhlhgjedaaGreatDoorPCBReg
import Derived.Test.YtijcbfhlhgjedaaGreatDoorPCBGrouped
import Derived.Test.YtijcbfhlhgjedaaGreatDoorPCBPG
import Derived.Test.YtijcbfhlhgjedaaGreatDoorPCBStr
import Derived.Test.YtijcbfhlhgjedaaGreatDoorPCBCmp
import Derived.Test.YtijcbfhlhgjedaaGreatDoorPCBOpen
import Derived.Test.YtijcbfhlhgjedaaGreatDoorPCBReg7
import Derived.Test.YtijcbfhlhgjedaaGreatDoorPCPRow
import Derived.Test.YtijcbfhlhgjedaaGreatDoorPCMtr
import Derived.Test.YtijcbfhlhgjedaaGreatDoorPCReg8
import Derived.Test.YtijcbfhlhgjedaaGreatDoorPCSpCk
import Derived.Test.YtijcbfhlhgjedaaGreatDoorPCPlanM
import Derived.Test.YtijcbfhlhgjedaaGreatDoorPCLast
import Derived.Test.YtijcbfhlhgjedaaGreatDoorPCBeg
import Derived.Test.YtijcbfhlhgjedaaGreatDoorPCRoom
import Derived.Test.YtijcbfhlhgjedaaGreatDoorPCCallsB
import Derived.Test.YtijcbfhlhgjedaaGreatDoorPCPlan
import Derived.Test.YtijcbfhlhgjedaaGreatDoorPCBetw
import Derived.Test.YtijcbfhlhgjedaaGreatDoorPCKn03P
import Derived.Test.YtijcbfhlhgjedaaGreatDoorPCRef3
import Derived.Test.YtijcbfhlhgjedaaGreatDoorPFReg
import Derived.RegionTactic
import Derived.BigRegion
import Derived.Lib.AppendZeros
namespace Go.Proofs.YtijcbfhlhgjedaaGreatDoor
open Go.RowKit Go.Proofs

section
variable {α : Type} {P : Program} {f : α → List Value} {sz : Nat} {e : TypeId} {base : Nat} {W : World} {A A2 : Option Addr} {n c m c2 B : Nat} {xs ys : List α}
/-- What an append of a slice leaves. -/
structure AppS (f : α → List Value) (sz : Nat) (e : TypeId) (base : Nat) (W : World) (A : Option Addr) (n c m : Nat) (xs ys : List α) (A' : Option Addr) (c' : Nat) (w' : World) : Prop where
  own : OW f sz e base w' A' (n + m) c' (xs ++ ys)
  bel : Below base W w'
  at_ : (∀ b, A' = some b → (∃ b', A = some b' ∧ b'.block = b.block) ∨ b.block = W.heap.size)
  far : ∀ k, k < W.heap.size → (∀ b, A = some b → b.block ≠ k) → w'.heap[k]? = W.heap[k]?
  size : W.heap.size ≤ w'.heap.size
theorem run_append_of_nil (t ty : TypeId) (i : TypeInfo) (ht : P.underlying t = some (.slice e)) (hi : P.info? e = some i)
    (v : Value) (cs : List Value) (hown : W.ownsRow base e sz v n cs) (q : Nat) : (Builtin.append_ #[t, t] ty #[v, .slice none 0 q]).run P W = .ok v W := by
  rcases hown.2 with ⟨rfl, rfl⟩ | ⟨g, cap, cur, rfl, _, _, hnc, _⟩
  · simp [Builtin.append_, run_underlying ht, sizeOf, typeInfo, hi, Builtin.lenOf, Builtin.firstCells]
  · simp [Builtin.append_, run_underlying ht, sizeOf, typeInfo, hi, Builtin.lenOf, Builtin.firstCells, hnc, storeCells]
theorem flat_len {f : α → List Value} (hf : ∀ x, (f x).length = sz) : ∀ ys : List α, (ys.flatMap f).length = ys.length * sz
  | [] => by simp
  | y :: ys => by rw [List.flatMap_cons, List.length_append, hf, List.length_cons, Nat.succ_mul, flat_len hf ys]; omega
theorem run_appS (t ty : TypeId) (i : TypeInfo) (z : Value) (bytes : Nat) (ht : P.underlying t = some (.slice e)) (hi : P.info? e = some i) (hz : i.zero = some z)
    (hsize : i.size = sz) (hby : i.bytes = bytes) (hzs : z.cells.size = sz) (hsz : 0 < sz) (hown : OW f sz e base W A n c xs)
    (hy : SL f sz W B A2 m ys) (hf : ∀ x, (f x).length = sz) (h1 : ∀ x, ∀ u ∈ f x, u.oneCell' = true)
    (hbytes : (n + m) * bytes ≤ 140737488355328) (hb1 : 1 ≤ bytes) (hbase : base ≤ W.heap.size) :
    ∃ A' c' w', (Builtin.append_ #[t, t] ty #[.slice A n c, .slice A2 m c2]).run P W = .ok (.slice A' (n + m) c') w' ∧ AppS f sz e base W A n c m xs ys A' c' w' := by
  have hlen : (ys.flatMap f).length = m * sz := by rw [hy.1]; exact flat_len hf ys
  have hone : ∀ u ∈ ys.flatMap f, u.oneCell' = true := fun u hu => by
    obtain ⟨y, _, hyu⟩ := List.mem_flatMap.1 hu
    exact h1 y u hyu
  have h63 : n + m ≤ maxLen := by
    unfold maxLen
    have : n + m ≤ (n + m) * bytes := Nat.le_mul_of_pos_right _ (by omega)
    omega
  rcases A2 with _ | ad
  · have hm : m = 0 := by
      rcases Nat.eq_zero_or_pos m with h0 | h0
      · exact h0
      · obtain ⟨_, _, h, _⟩ := hy.2 h0; cases h
    subst hm
    have hys : ys = [] := List.eq_nil_of_length_eq_zero hy.1.symm
    subst hys
    exact ⟨A, c, W, run_append_of_nil t ty i ht hi _ _ hown.1 c2, ⟨by rw [List.append_nil]; exact hown, Below.refl _ _, fun b hb => .inl ⟨b, hb, rfl⟩, fun _ _ _ => rfl, Nat.le_refl _⟩⟩
  · obtain ⟨v', w', hrun, h2, h3, h4, h5⟩ := run_append_own_at (P := P) W base t ty e i z sz bytes ht hi hz hsize hby hzs hsz _ n _ hown.1 ad m c2 _ hlen (hy.cells hf hsz rfl) hone h63 hbytes hbase
    have hv : ∃ A' c', v' = .slice A' (n + m) c' := by
      rcases h2.2 with ⟨rfl, h0⟩ | ⟨g, cap, cur, rfl, _⟩
      · exact ⟨none, 0, by rw [h0]⟩
      · exact ⟨_, _, rfl⟩
    obtain ⟨A', c', rfl⟩ := hv
    refine ⟨A', c', w', hrun, ⟨⟨by rw [List.flatMap_append]; exact h2, by simp [hown.2, hy.1]⟩, ⟨h3.os, h3.tape, h3.output, h3.size, fun k hk => h3.block k (by omega) (fun e => ?_)⟩, fun b hb => ?_, fun k hk hne => h3.block k hk (fun e => ?_), h3.size⟩⟩
    · rcases A with _ | g'
      · simp [Value.ownBlock] at e
      · simp [Value.ownBlock] at e
        have := (hown.lt rfl).1
        omega
    · subst hb
      rcases h5 with h5 | h5
      · rcases A with _ | g'
        · simp [Value.ownBlock] at h5
        · simp [Value.ownBlock] at h5
          exact .inl ⟨g', rfl, h5.symm⟩
      · simp [Value.ownBlock] at h5
        exact .inr h5
    · rcases A with _ | g'
      · simp [Value.ownBlock] at e
      · simp [Value.ownBlock] at e
        exact hne g' rfl e.symm
/-- In a plain region. -/
theorem wpList_appS {ops : Array Oper} {rest : List Oper} {o : Oper} {a : Act} {Q : Exit → Act → World → Prop} (hgd : o.guard = none) (s x : Operand) (t : TypeId)
    (ho : o.op = .call { callee := .builtin .append, args := #[s, x], argTypes := #[t, t] })
    (base : Nat) (e : TypeId) (z : Value) (sz bytes : Nat) (ht : P.underlying t = some (.slice e)) (hi : (P.info? e).map (fun i => (i.zero, i.size, i.bytes)) = some (some z, sz, bytes))
    (hzs : z.cells.size = sz) (hsz : 0 < sz) (f : α → List Value) (A : Option Addr) (n c : Nat) (xs : List α) (hs : a.eval s = .slice A n c) (hown : OW f sz e base W A n c xs)
    (B : Nat) (A2 : Option Addr) (m c2 : Nat) (ys : List α) (hx : a.eval x = .slice A2 m c2) (hy : SL f sz W B A2 m ys) (hf : ∀ x, (f x).length = sz) (h1 : ∀ x, ∀ u ∈ f x, u.oneCell' = true)
    (hbytes : (n + m) * bytes ≤ 140737488355328) (hby : 1 ≤ bytes) (hbase : base ≤ W.heap.size)
    (h : ∀ A' c' w', AppS f sz e base W A n c m xs ys A' c' w' → wpList P ops Q rest (a.put o.dst (.slice A' (n + m) c')) w') :
    wpList P ops Q (o :: rest) a W := by
  obtain ⟨i, hi', hz, hsize, hbytes'⟩ := info_parts hi
  refine wpList_plain hgd fun K hK => ?_
  obtain ⟨A', c', w', hrun, hap⟩ := run_appS (P := P) (c2 := c2) t o.type i z bytes ht hi' hz hsize hbytes' hzs hsz hown hy hf h1 hbytes hby hbase
  unfold Oper.wp execOp
  simp only [ho, resolve, invoke, builtin, Sem.run_bind, Sem.run_pure, Result.andThen_ok, List.map_toArray, List.map_cons, List.map_nil, hs, hx, hrun]
  exact hK _ _ (h A' c' w' hap)
end
end Go.Proofs.YtijcbfhlhgjedaaGreatDoor

/- slices.Clone at pieces, crests and junctions. -/
namespace Go.Proofs.YtijcbfhlhgjedaaGreatDoor
open Go.RowKit Go.Shelf Go.Sort Go.Proofs

theorem infoP : (Tryz.prog.info? 72).map (fun i => (i.zero, i.size, i.bytes)) = some (some (.agg #[.int .i64 0, .int .i64 0, .int .i64 0, .int .i64 0, .int .i64 0]), 5, 40) := by kernel_rfl
theorem infoC : (Tryz.prog.info? 76).map (fun i => (i.zero, i.size, i.bytes)) = some (some (.agg #[.int .i64 0, .int .i64 0]), 2, 16) := by kernel_rfl
theorem oneC (x : Crest) : ∀ u ∈ cC x, u.oneCell' = true := by intro u hu; simp [cC] at hu; rcases hu with rfl | rfl <;> rfl
theorem infoJ : (Tryz.prog.info? 78).map (fun i => (i.zero, i.size, i.bytes)) = some (some (.agg #[.int .i64 0, .int .i64 0, .int .i64 0]), 3, 24) := by kernel_rfl
theorem oneJ (x : Junc) : ∀ u ∈ jC x, u.oneCell' = true := by intro u hu; simp [jC] at hu; rcases hu with rfl | rfl | rfl <;> rfl
end Go.Proofs.YtijcbfhlhgjedaaGreatDoor

/- slices.Reverse at pieces, crests and junctions, of a row of the caller's own. -/
namespace Go.Proofs.YtijcbfhlhgjedaaGreatDoor
open Go.RowKit Go.Shelf Go.Sort Go.Proofs

theorem only_drew {a w : World} {row : Option Nat} (h : a.grownBy w row) : a.grownBy w.drew row := ⟨h.os, h.tape, h.output, h.size, h.block⟩
theorem only_drewN {a w : World} {row : Option Nat} (h : a.grownBy w row) (n : Nat) : a.grownBy (w.drewN n) row := ⟨h.os, h.tape, h.output, h.size, h.block⟩
theorem only_set {a w : World} {g o : Nat} (h : a.grownBy w (some g)) (u : Value) : a.grownBy (w.setCell ⟨g, o, none⟩ u) (some g) :=
  ⟨h.os, h.tape, h.output, by simpa [World.setCell] using h.size, fun i hi hne => (Below.heap_setCell w _ u i (by rintro rfl; exact hne rfl)).trans (h.block i hi hne)⟩
theorem only_trans {a b c : World} {row : Option Nat} (h : a.grownBy b row) (k : b.grownBy c row) : a.grownBy c row :=
  ⟨k.os.trans h.os, k.tape.trans h.tape, k.output.trans h.output, Nat.le_trans h.size k.size, fun i hi hne => (k.block i (Nat.lt_of_lt_of_le hi h.size) hne).trans (h.block i hi hne)⟩
theorem only_below {a w : World} {g B : Nat} (h : a.grownBy w (some g)) (hB : B ≤ a.heap.size) (hg : B ≤ g) : Below B a w :=
  ⟨h.os, h.tape, h.output, h.size, fun k hk => h.block k (by omega) (by intro e; injection e; omega)⟩
section
variable {α : Type}
end

end Go.Proofs.YtijcbfhlhgjedaaGreatDoor

/- road.Reverse, walked. -/
namespace Go.Proofs.YtijcbfhlhgjedaaGreatDoor
open Go.RowKit Go.Shelf Go.Sort Go.Proofs

section
variable {α β : Type} {f : α → List Value} {f' : β → List Value} {sz sz' : Nat} {e e' : TypeId} {base base' : Nat} {w w' : World} {A A' : Option Addr} {n c n' c' : Nat} {xs : List α} {ys : List β}
theorem BK.ne_row (hb : BK w n' e' #[] ∨ ∃ cs, BK w n' e' cs) (h : OW f sz e base w A n c xs) (hne : e ≠ e') {a : Addr} (ha : A = some a) : a.block ≠ n' := by
  intro q
  obtain ⟨c1, h1⟩ := h.ty ha
  rcases hb with hb | ⟨cs, hb⟩
  · rw [q, show w.heap[n']? = _ from hb] at h1
    injection h1 with h1
    injection h1 with _ h1
    exact hne h1.symm
  · rw [q, show w.heap[n']? = _ from hb] at h1
    injection h1 with h1
    injection h1 with _ h1
    exact hne h1.symm
/-- A list whose first k elements are changed. -/
def mid (g : α → α) (l : List α) (k : Nat) : List α := (l.take k).map g ++ l.drop k
end

end Go.Proofs.YtijcbfhlhgjedaaGreatDoor

/- Plain lists: stable insertion, stable merge, chunks sorted; exchanges. No program in sight. -/
namespace Go.Proofs.YtijcbfhlhgjedaaGreatDoor

section
variable {α : Type} (key : α → Int)
def mrg : List α → List α → List α
  | [], R => R
  | l :: L, [] => l :: L
  | l :: L, r :: R => if key r < key l then r :: mrg (l :: L) R else l :: mrg L (r :: R)
termination_by L R => L.length + R.length
theorem insR_len : ∀ (S : List α) (x : α), (insR key S x).length = S.length + 1
  | [], _ => rfl
  | y :: S, x => by unfold insR; split <;> simp [insR_len S x]
theorem ssort_nil : ssort key ([] : List α) = [] := rfl
theorem ssort_snoc (l : List α) (x : α) : ssort key (l ++ [x]) = insR key (ssort key l) x := by simp [ssort]
theorem snoc_ind {P : List α → Prop} (h0 : P []) (h1 : ∀ l x, P l → P (l ++ [x])) (l : List α) : P l := by
  have : ∀ r : List α, P r.reverse := by
    intro r
    induction r with
    | nil => exact h0
    | cons x r ih => rw [List.reverse_cons]; exact h1 _ _ ih
  have h := this l.reverse
  rwa [List.reverse_reverse] at h
theorem ssort_len (l : List α) : (ssort key l).length = l.length := by
  induction l using snoc_ind with
  | h0 => rfl
  | h1 l x ih => rw [ssort_snoc, insR_len, ih, List.length_append]; rfl
theorem mrg_nil (L : List α) : mrg key L [] = L := by cases L <;> simp [mrg]
theorem nil_mrg (R : List α) : mrg key [] R = R := by simp [mrg]
theorem mrg_cons (l : α) (L : List α) (r : α) (R : List α) : mrg key (l :: L) (r :: R) = if key r < key l then r :: mrg key (l :: L) R else l :: mrg key L (r :: R) := by rw [mrg]
theorem mrgL_len : ∀ (L R : List α), (mrg key L R).length = L.length + R.length
  | [], R => by simp [mrg]
  | l :: L, [] => by simp [mrg]
  | l :: L, r :: R => by
    rw [mrg_cons]
    split
    · rw [List.length_cons, mrgL_len (l :: L) R]; simp only [List.length_cons]; omega
    · rw [List.length_cons, mrgL_len L (r :: R)]; simp only [List.length_cons]; omega
termination_by L R => L.length + R.length
theorem insR_split {x : α} : ∀ {S1 S2 : List α}, (∀ y ∈ S1, key y ≤ key x) → (∀ y ∈ S2, key x < key y) → insR key (S1 ++ S2) x = S1 ++ x :: S2
  | [], [], _, _ => rfl
  | [], z :: S2, _, h2 => by simp [insR, h2 z (List.mem_cons_self ..)]
  | y :: S1, S2, h1, h2 => by
    have := h1 y (List.mem_cons_self ..)
    rw [List.cons_append, insR, if_neg (by omega), insR_split (fun z hz => h1 z (List.mem_cons_of_mem _ hz)) h2]
    rfl
theorem ssort_srt (l : List α) : Srt key (ssort key l) := by
  induction l using snoc_ind with
  | h0 => exact List.Pairwise.nil
  | h1 l x ih => rw [ssort_snoc]; exact ih.insR key x
theorem mrg_low : ∀ {L R : List α}, (∀ l ∈ L, ∀ r ∈ R, key l ≤ key r) → mrg key L R = L ++ R
  | [], R, _ => by simp [mrg]
  | l :: L, [], _ => by simp [mrg]
  | l :: L, r :: R, h => by
    have := h l (List.mem_cons_self ..) r (List.mem_cons_self ..)
    rw [mrg_cons, if_neg (by omega), mrg_low (L := L) (fun x hx y hy => h x (List.mem_cons_of_mem _ hx) y hy)]
    rfl
theorem mrg_high : ∀ {L R : List α}, (∀ r ∈ R, ∀ l ∈ L, key r < key l) → mrg key L R = R ++ L
  | [], R, _ => by simp [mrg]
  | l :: L, [], _ => by simp [mrg]
  | l :: L, r :: R, h => by
    have := h r (List.mem_cons_self ..) l (List.mem_cons_self ..)
    rw [mrg_cons, if_pos this, mrg_high (L := l :: L) (R := R) (fun x hx y hy => h x (List.mem_cons_of_mem _ hx) y hy)]
    rfl
theorem mrg_split : ∀ {L1 L2 R1 R2 : List α}, (∀ l ∈ L1, ∀ r ∈ R2, key l ≤ key r) → (∀ r ∈ R1, ∀ l ∈ L2, key r < key l) → mrg key (L1 ++ L2) (R1 ++ R2) = mrg key L1 R1 ++ mrg key L2 R2
  | [], L2, [], R2, _, _ => by simp [mrg]
  | [], [], r :: R1, R2, _, h2 => by simp [mrg]
  | [], l :: L2, r :: R1, R2, h1, h2 => by
    have := h2 r (List.mem_cons_self ..) l (List.mem_cons_self ..)
    have ih := mrg_split (L1 := []) (L2 := l :: L2) (R1 := R1) (R2 := R2) (fun x hx => by cases hx) (fun x hx y hy => h2 x (List.mem_cons_of_mem _ hx) y hy)
    rw [nil_mrg] at ih ⊢
    rw [List.nil_append, List.cons_append, mrg_cons, if_pos this]
    rw [List.nil_append] at ih
    rw [ih]
    rfl
  | l :: L1, L2, [], R2, h1, h2 => by
    have ih := mrg_split (L1 := L1) (L2 := L2) (R1 := []) (R2 := R2) (fun x hx y hy => h1 x (List.mem_cons_of_mem _ hx) y hy) (fun x hx => by cases hx)
    rw [mrg_nil] at ih ⊢
    rw [List.nil_append] at ih ⊢
    rcases R2 with _ | ⟨r, R2⟩
    · rw [mrg_nil, mrg_nil]
    · have := h1 l (List.mem_cons_self ..) r (List.mem_cons_self ..)
      rw [List.cons_append, mrg_cons, if_neg (by omega), ih]
      rfl
  | l :: L1, L2, r :: R1, R2, h1, h2 => by
    rw [List.cons_append, List.cons_append, mrg_cons, mrg_cons]
    split
    · have ih := mrg_split (L1 := l :: L1) (L2 := L2) (R1 := R1) (R2 := R2) h1 (fun x hx y hy => h2 x (List.mem_cons_of_mem _ hx) y hy)
      rw [List.cons_append] at ih
      rw [ih]
      rfl
    · have ih := mrg_split (L1 := L1) (L2 := L2) (R1 := r :: R1) (R2 := R2) (fun x hx y hy => h1 x (List.mem_cons_of_mem _ hx) y hy) h2
      rw [List.cons_append] at ih
      rw [ih]
      rfl
termination_by L1 _ R1 _ => L1.length + R1.length
theorem insR_mrg : ∀ (L R : List α) (x : α), insR key (mrg key L R) x = mrg key L (insR key R x)
  | [], R, x => by rw [nil_mrg, nil_mrg]
  | l :: L, [], x => by
    have ih := insR_mrg L [] x
    rw [mrg_nil] at ih ⊢
    simp only [insR] at ih ⊢
    rw [mrg_cons, mrg_nil, ih]
  | l :: L, r :: R, x => by
    rw [mrg_cons]
    by_cases h1 : key r < key l
    · rw [if_pos h1]
      have ih := insR_mrg (l :: L) R x
      by_cases h2 : key x < key r
      · simp only [insR, if_pos h2]
        rw [mrg_cons, if_pos (by omega), mrg_cons, if_pos h1]
      · simp only [insR, if_neg h2]
        rw [mrg_cons, if_pos h1, ih]
    · rw [if_neg h1]
      have ih := insR_mrg L (r :: R) x
      by_cases h2 : key x < key l
      · have h3 : key x < key r := by omega
        simp only [insR, if_pos h2, if_pos h3]
        rw [mrg_cons, if_pos h2, mrg_cons, if_neg h1]
      · simp only [insR, if_neg h2]
        by_cases h3 : key x < key r
        · simp only [insR, if_pos h3] at ih ⊢
          rw [mrg_cons, if_neg h2, ih]
        · simp only [insR, if_neg h3] at ih ⊢
          rw [mrg_cons, if_neg h1, ih]
termination_by L R => L.length + R.length
/-- Two sorted chunks, merged, are the chunk of both, sorted. -/
theorem mrg_ssort (A B : List α) : mrg key (ssort key A) (ssort key B) = ssort key (A ++ B) := by
  induction B using snoc_ind with
  | h0 => rw [ssort_nil, mrg_nil, List.append_nil]
  | h1 B x ih => rw [ssort_snoc, ← List.append_assoc, ssort_snoc, ← ih, insR_mrg]
theorem ssort_of_srt {l : List α} (h : Srt key l) : ssort key l = l := by
  induction l using snoc_ind with
  | h0 => rfl
  | h1 l x ih =>
    obtain ⟨h1, _, h3⟩ := List.pairwise_append.1 h
    rw [ssort_snoc, ih h1]
    have := insR_split key (x := x) (S1 := l) (S2 := []) (fun y hy => h3 y hy x (List.mem_cons_self ..)) (fun y hy => by cases hy)
    rw [List.append_nil] at this
    exact this
theorem Srt.sub {l l' : List α} (h : Srt key l) (hs : l'.Sublist l) : Srt key l' := h.sublist hs
theorem bl_step (s : Nat) : ∀ (k : Nat) (l : List α), k * s ≤ l.length → ∃ A : List α, A.length = k * s ∧ bl key s k l = A ++ ((l.drop (k * s)).take s ++ (l.drop (k * s)).drop s) ∧
    bl key s (k + 1) l = A ++ (ssort key ((l.drop (k * s)).take s) ++ (l.drop (k * s)).drop s)
  | 0, l, _ => ⟨[], by simp, by simp [bl], by simp [bl]⟩
  | k + 1, l, h => by
    have hm : (k + 1) * s = k * s + s := Nat.succ_mul k s
    obtain ⟨A, h1, h2, h3⟩ := bl_step s k (l.drop s) (by rw [List.length_drop]; omega)
    rw [List.drop_drop, show s + k * s = (k + 1) * s by omega] at h2 h3
    refine ⟨ssort key (l.take s) ++ A, ?_, ?_, ?_⟩
    · rw [List.length_append, ssort_len, List.length_take, h1]; omega
    · rw [bl, h2, List.append_assoc]
    · rw [bl, h3, List.append_assoc]
theorem bl_more (s : Nat) : ∀ (k : Nat) (l : List α), l.length ≤ k * s → bl key s (k + 1) l = bl key s k l
  | 0, l, h => by
    have : l = [] := List.eq_nil_of_length_eq_zero (by omega)
    subst this
    simp [bl, ssort_nil]
  | k + 1, l, h => by
    have hm : (k + 1) * s = k * s + s := Nat.succ_mul k s
    rw [bl, bl_more s k (l.drop s) (by rw [List.length_drop]; omega)]
    rfl
theorem bl_any (s k k' : Nat) (l : List α) (h : l.length ≤ k * s) (h' : l.length ≤ k' * s) : bl key s k l = bl key s k' l := by
  have : ∀ d k, l.length ≤ k * s → bl key s (k + d) l = bl key s k l := by
    intro d
    induction d with
    | zero => intro k _; rfl
    | succ d ih =>
      intro k hk
      rw [← Nat.add_assoc, bl_more key s (k + d) l (Nat.le_trans hk (Nat.mul_le_mul_right s (Nat.le_add_right k d)))]
      exact ih k hk
  rcases Nat.le_total k k' with hh | hh
  · obtain ⟨d, rfl⟩ := Nat.exists_eq_add_of_le hh
    exact (this d k h).symm
  · obtain ⟨d, rfl⟩ := Nat.exists_eq_add_of_le hh
    exact this d k' h'
theorem bs_eq {s k : Nat} {l : List α} (hs : 1 ≤ s) (h : l.length ≤ k * s) : bl key s k l = bs key s l :=
  bl_any key s k l.length l h (Nat.le_mul_of_pos_right _ hs)
theorem bs_one {s : Nat} {l : List α} (hs : 1 ≤ s) (h : l.length ≤ s) : bs key s l = ssort key l := by
  rw [← bs_eq key (k := 1) hs (by omega), bl, bl, List.take_of_length_le h, List.drop_of_length_le h, List.append_nil]
theorem bs_cons {s : Nat} (l : List α) (hs : 1 ≤ s) : bs key s l = ssort key (l.take s) ++ bs key s (l.drop s) := by
  have h1 : l.length ≤ (l.length + 1) * s := Nat.le_trans (Nat.le_succ _) (Nat.le_mul_of_pos_right _ hs)
  rw [← bs_eq key (k := l.length + 1) hs h1, bl, bs_eq key hs (by rw [List.length_drop]; exact Nat.le_trans (Nat.sub_le _ _) (Nat.le_mul_of_pos_right _ hs))]
theorem mx_step (s : Nat) (hs : 1 ≤ s) : ∀ (k : Nat) (l : List α), k * (2 * s) ≤ l.length → ∃ A : List α, A.length = k * (2 * s) ∧ mx key s k l = A ++ bs key s (l.drop (k * (2 * s))) ∧
    mx key s (k + 1) l = A ++ (ssort key ((l.drop (k * (2 * s))).take (2 * s)) ++ bs key s ((l.drop (k * (2 * s))).drop (2 * s)))
  | 0, l, _ => ⟨[], by simp, by simp [mx], by simp [mx]⟩
  | k + 1, l, h => by
    have hm : (k + 1) * (2 * s) = k * (2 * s) + 2 * s := Nat.succ_mul k (2 * s)
    obtain ⟨A, h1, h2, h3⟩ := mx_step s hs k (l.drop (2 * s)) (by rw [List.length_drop]; omega)
    rw [List.drop_drop, show 2 * s + k * (2 * s) = (k + 1) * (2 * s) by omega] at h2 h3
    refine ⟨ssort key (l.take (2 * s)) ++ A, ?_, ?_, ?_⟩
    · rw [List.length_append, ssort_len, List.length_take, h1]; omega
    · rw [mx, h2, List.append_assoc]
    · rw [mx, h3, List.append_assoc]
/-- Two chunks, to be merged. -/
theorem bs_two {s : Nat} (l : List α) (hs : 1 ≤ s) : bs key s l = ssort key (l.take s) ++ (ssort key ((l.drop s).take s) ++ bs key s (l.drop (2 * s))) := by
  rw [bs_cons key l hs, bs_cons key (l.drop s) hs, List.drop_drop, show s + s = 2 * s by omega]
theorem take_two {s : Nat} (l : List α) : l.take s ++ (l.drop s).take s = l.take (2 * s) := by
  rw [show 2 * s = s + s by omega, List.take_add]
/-- When no two chunks are left, all is in double chunks. -/
theorem mx_done {s k : Nat} (hs : 1 ≤ s) : ∀ (l : List α), k * (2 * s) ≤ l.length → l.length ≤ k * (2 * s) + s → mx key s k l = bs key (2 * s) l := by
  induction k with
  | zero =>
    intro l _ h2
    rw [mx, bs_one key hs (by omega), bs_one key (by omega) (by omega)]
  | succ k ih =>
    intro l h1 h2
    have hm : (k + 1) * (2 * s) = k * (2 * s) + 2 * s := Nat.succ_mul k (2 * s)
    rw [mx, ih (l.drop (2 * s)) (by rw [List.length_drop]; omega) (by rw [List.length_drop]; omega), ← bs_cons key l (by omega)]
theorem mx_all {s k : Nat} (hs : 1 ≤ s) : ∀ (l : List α), l.length ≤ k * (2 * s) → mx key s k l = bs key (2 * s) l := by
  induction k with
  | zero =>
    intro l h
    have : l = [] := List.eq_nil_of_length_eq_zero (by omega)
    subst this
    rw [mx, bs_one key hs (by simp), bs_one key (by omega) (by simp)]
  | succ k ih =>
    intro l h
    have hm : (k + 1) * (2 * s) = k * (2 * s) + 2 * s := Nat.succ_mul k (2 * s)
    rw [mx, ih (l.drop (2 * s)) (by rw [List.length_drop]; omega), ← bs_cons key l (by omega)]
end
section
variable {α : Type}
theorem getElem?_mid (P : List α) (u : α) (Q : List α) {i : Nat} (h : P.length = i) : (P ++ u :: Q)[i]? = some u := by
  subst h; simp
theorem set_mid (P : List α) (u v : α) (Q : List α) {i : Nat} (h : P.length = i) : (P ++ u :: Q).set i v = P ++ v :: Q := by
  subst h; simp
/-- The exchange of two elements, said with lists. -/
theorem swp_mid (P : List α) (u : α) (M : List α) (v : α) (Q : List α) {i j : Nat} (hi : P.length = i) (hj : P.length + M.length + 1 = j) :
    ((P ++ u :: (M ++ v :: Q)).set i v).set j u = P ++ v :: (M ++ u :: Q) := by
  rw [set_mid P u v _ hi]
  have : P ++ v :: (M ++ v :: Q) = (P ++ v :: M) ++ v :: Q := by simp
  rw [this, set_mid (P ++ v :: M) v u Q (by simp; omega)]
  simp
theorem get_second (P : List α) (u : α) (M : List α) (v : α) (Q : List α) {j : Nat} (hj : P.length + M.length + 1 = j) : (P ++ u :: (M ++ v :: Q))[j]? = some v := by
  have : P ++ u :: (M ++ v :: Q) = (P ++ u :: M) ++ v :: Q := by simp
  rw [this]
  exact getElem?_mid _ v Q (by simp; omega)
end
end Go.Proofs.YtijcbfhlhgjedaaGreatDoor

/- slices.Grow on no slice, slices.Concat of two slices. -/
namespace Go.Proofs.YtijcbfhlhgjedaaGreatDoor
open Go.RowKit Go.Shelf Go.Sort Go.Proofs

theorem OW.empty {α : Type} {f : α → List Value} {sz : Nat} {e : TypeId} {base : Nat} {w : World} {N c : Nat} {cur : Array Value} (hb : BK w N e cur) (hN : base ≤ N) (hc : cur.size = c * sz) (hm : c ≤ maxLen) : OW f sz e base w (some ⟨N, 0, none⟩) 0 c ([] : List α) :=
  ⟨⟨by simp, .inr ⟨N, c, cur, rfl, hN, hb, Nat.zero_le _, hm, hc, by simp⟩⟩, rfl⟩
set_option maxRecDepth 100000 in
set_option maxHeartbeats 2000000 in
theorem GrowC_any (m : Nat) (w : World) (hm : m ≤ 1000000) :
    Calls Tryz.prog 91 #[.slice none 0 0, .int .i64 m] w fun e w' => ∃ A c, e = .returned (.slice A 0 c) ∧ OW cC 2 76 w.heap.size w' A 0 c [] ∧ Below w.heap.size w w' := by
  have hw1 : IntKind.i64.wrap ((m : Int) - 0) = (m : Int) := IntWalk.i64_in _ (by omega)
  have hw2 : IntKind.i64.wrap ((0 : Int) - 0) = 0 := rfl
  by_cases h0 : m = 0
  · subst h0
    clear hw1
    go_enter Tryz.func91, Tryz.ntmps91
    go_wp2_with fail
    go_ret
    exact ⟨_, _, rfl, OW.nil_, Below.refl _ _⟩
  · have hm0 : 0 < m := by omega
    have hmi : (0 : Int) < (m : Int) := by omega
    have hmn : ¬ ((m : Int) < 0) := by omega
    obtain ⟨i, hi', hz, hsize, hbytes'⟩ := info_parts infoC
    have hrun := Lib.run_append_nil_zeros w 23 3 23 76 i (.agg #[.int .i64 0, .int .i64 0]) .i64 .i64 Tryz.underlying23 Tryz.underlying3 hi' hz m hm0 (by rw [hsize]; decide) (by omega) (by rw [hbytes']; omega)
    obtain ⟨G, hG⟩ : ∃ G, G = grownCap w m 0 76 := ⟨_, rfl⟩
    obtain ⟨cur, hcur⟩ : ∃ cur, cur = Builtin.zeroCells (Value.cells (.agg #[.int .i64 0, .int .i64 0])) m ++ Builtin.zeroCells (Value.cells (.agg #[.int .i64 0, .int .i64 0])) (grownCap w m 0 76 - m) := ⟨_, rfl⟩
    have hge := grownCap_ge w m 0 76
    have hle := grownCap_le_maxLen w m 0 76 (by unfold maxLen; omega)
    have hcs : cur.size = G * 2 := by
      rw [hcur, Array.size_append, size_zeroCells, size_zeroCells, hG]
      show m * 2 + (grownCap w m 0 76 - m) * 2 = _
      omega
    rw [← hcur, ← hG] at hrun
    rw [← hG] at hge hle
    have HH := Lib.hid (And.intro hcs hle)
    clear hcur hG hcs hz hsize hbytes' hi' hle h0
    obtain ⟨w', hw'⟩ : ∃ w', w' = w.drew.alloc (.cells cur 76) := ⟨_, rfl⟩
    have hb : BK w' w.heap.size 76 cur := by rw [hw']; exact BK.new w.drew _ _
    have hbel : Below w.heap.size w w' := by rw [hw']; exact (Below.refl w.heap.size w).drew.alloc (Nat.le_refl _) _
    rw [← hw'] at hrun
    clear hw'
    have HRUN := Lib.hid hrun
    clear hrun
    have hgi : (m : Int) ≤ (G : Int) := by omega
    go_enter Tryz.func91, Tryz.ntmps91
    go_wp2_with (at_builtin; refine Lib.wpList_append_run _ rfl _ _ _ _ rfl _ _ rfl rfl _ _ HRUN.out ?_)
    go_ret
    exact ⟨_, _, rfl, OW.empty hb (Nat.le_refl _) HH.out.1 HH.out.2, hbel⟩
set_option maxRecDepth 100000 in
set_option maxHeartbeats 4000000 in
theorem ConcatC_any (b off : Nat) (q : Nat) (A1 : Option Addr) (n1 c1 : Nat) (xs : List Crest) (A2 : Option Addr) (n2 c2 : Nat) (ys : List Crest) (w : World) (hb : b < w.heap.size) (h0 : w.cell? ⟨b, off, none⟩ = some (.slice A1 n1 c1)) (h1 : w.cell? ⟨b, off + 1, none⟩ = some (.slice A2 n2 c2))
    (hx : SL cC 2 w w.heap.size A1 n1 xs) (hy : SL cC 2 w w.heap.size A2 n2 ys) (hn1 : n1 ≤ 100000) (hn2 : n2 ≤ 100000) :
    Calls Tryz.prog 70 #[.slice (some ⟨b, off, none⟩) 2 q] w fun e w' => ∃ A c, e = .returned (.slice A (n1 + n2) c) ∧ OW cC 2 76 w.heap.size w' A (n1 + n2) c (xs ++ ys) ∧ Below w.heap.size w w' := by
  have hX := Lib.hid hx
  have hY := Lib.hid hy
  clear hx hy
  go_enter Tryz.func70, Tryz.ntmps70
  go_wp2_with fail
  go_loopw [3, 11] (fun s i wr => ((i = .int .i64 0 ∧ s = .int .i64 0) ∨ (i = .int .i64 1 ∧ s = .int .i64 n1) ∨ (i = .int .i64 2 ∧ s = .int .i64 (n1 + n2))) ∧ wr = w)
    (fun _ i _ => 2 - (intOf i).toNat)
  case atStart => exact ⟨.inl ⟨rfl, rfl⟩, rfl⟩
  case round =>
    obtain ⟨hor, rfl⟩ := hrel
    rcases hor with ⟨rfl, rfl⟩ | ⟨rfl, rfl⟩ | ⟨rfl, rfl⟩
    · have hw1 : IntKind.i64.wrap (n1 : Int) = (n1 : Int) := IntWalk.i64_in _ (by omega)
      have hng : ¬ ((n1 : Int) < 0) := by omega
      go_wp2_with fail
      go_roundw
      case rel => exact ⟨.inr (.inl ⟨rfl, rfl⟩), by first | rfl | trivial⟩
      case measure => simp [intOf]
    · have hw1 : IntKind.i64.wrap ((n1 : Int) + (n2 : Int)) = (n1 : Int) + (n2 : Int) := IntWalk.i64_in _ (by omega)
      have hng : ¬ ((n1 : Int) + (n2 : Int) < 0) := by omega
      go_wp2_with fail
      go_roundw
      case rel => exact ⟨.inr (.inr ⟨rfl, rfl⟩), by first | rfl | trivial⟩
      case measure => simp [intOf]
    · go_wp2_with fail
      have hg := GrowC_any (n1 + n2) wr (by omega)
      rw [show ((n1 + n2 : Nat) : Int) = (n1 : Int) + (n2 : Int) by omega] at hg
      refine hg.mono ?_
      rintro e w1 ⟨A, c, rfl, ho, hb1⟩
      have d0 := (bc hb1 hb).trans h0
      have d1 := (bc hb1 hb).trans h1
      have HO := Lib.hid ho
      have hz1 := hb1.size
      clear hg ho
      obtain ⟨w0, rfl⟩ : ∃ w0 : World, w0 = wr := ⟨_, rfl⟩
      clear h0 h1
      go_wp2_with fail
      go_loopw [6, 27] (fun s i wv => (∃ A c, (i = .int .i64 0 ∧ s = .slice A 0 c ∧ OW cC 2 76 w0.heap.size wv A 0 c []) ∨ (i = .int .i64 1 ∧ s = .slice A n1 c ∧ OW cC 2 76 w0.heap.size wv A n1 c xs) ∨ (i = .int .i64 2 ∧ s = .slice A (n1 + n2) c ∧ OW cC 2 76 w0.heap.size wv A (n1 + n2) c (xs ++ ys))) ∧ Below w0.heap.size w0 wv ∧ w1.heap.size ≤ wv.heap.size)
        (fun _ i _ => 2 - (intOf i).toNat)
      case atStart => exact ⟨⟨A, c, .inl ⟨rfl, rfl, HO.out⟩⟩, hb1, Nat.le_refl _⟩
      case round =>
        obtain ⟨⟨A, c, hor⟩, hbv, hzv⟩ := hrel
        have e0 := (bc hbv hb).trans ((bc hb1 hb).symm.trans d0)
        have e1 := (bc hbv hb).trans ((bc hb1 hb).symm.trans d1)
        clear d0 d1 HO
        rcases hor with ⟨rfl, rfl, ho⟩ | ⟨rfl, rfl, ho⟩ | ⟨rfl, rfl, ho⟩
        · go_wp2_with (at_builtin; refine wpList_appS rfl _ _ 23 rfl w0.heap.size 76 _ 2 16 Tryz.underlying23 infoC rfl (by decide) cC _ 0 _ [] rfl ho w0.heap.size A1 n1 c1 xs rfl (hX.out.below hbv) cC_len oneC (by omega) (by omega) (by omega) ?_; intro A' c' w2 hap; have HAP := Lib.hid hap; clear hap)
          go_roundw
          case rel =>
            have hap := HAP.out
            have h1 := hap.own
            rw [List.nil_append, Nat.zero_add] at h1
            exact ⟨⟨_, _, .inr (.inl ⟨rfl, rfl, h1⟩)⟩, hbv.trans hap.bel, by have := hap.size; omega⟩
          case measure => simp [intOf]
        · go_wp2_with (at_builtin; refine wpList_appS rfl _ _ 23 rfl w0.heap.size 76 _ 2 16 Tryz.underlying23 infoC rfl (by decide) cC _ n1 _ xs rfl ho w0.heap.size A2 n2 c2 ys rfl (hY.out.below hbv) cC_len oneC (by omega) (by omega) (by omega) ?_; intro A' c' w2 hap; have HAP := Lib.hid hap; clear hap)
          go_roundw
          case rel =>
            have hap := HAP.out
            exact ⟨⟨_, _, .inr (.inr ⟨rfl, rfl, hap.own⟩)⟩, hbv.trans hap.bel, by have := hap.size; omega⟩
          case measure => simp [intOf]
        · have HO := Lib.hid ho
          clear ho
          go_wp2_with fail
          go_ret
          exact ⟨_, _, rfl, HO.out, hbv⟩
set_option maxRecDepth 100000 in
set_option maxHeartbeats 2000000 in
theorem GrowJ_any (m : Nat) (w : World) (hm : m ≤ 1000000) :
    Calls Tryz.prog 93 #[.slice none 0 0, .int .i64 m] w fun e w' => ∃ A c, e = .returned (.slice A 0 c) ∧ OW jC 3 78 w.heap.size w' A 0 c [] ∧ Below w.heap.size w w' := by
  have hw1 : IntKind.i64.wrap ((m : Int) - 0) = (m : Int) := IntWalk.i64_in _ (by omega)
  have hw2 : IntKind.i64.wrap ((0 : Int) - 0) = 0 := rfl
  by_cases h0 : m = 0
  · subst h0
    clear hw1
    go_enter Tryz.func93, Tryz.ntmps93
    go_wp2_with fail
    go_ret
    exact ⟨_, _, rfl, OW.nil_, Below.refl _ _⟩
  · have hm0 : 0 < m := by omega
    have hmi : (0 : Int) < (m : Int) := by omega
    have hmn : ¬ ((m : Int) < 0) := by omega
    obtain ⟨i, hi', hz, hsize, hbytes'⟩ := info_parts infoJ
    have hrun := Lib.run_append_nil_zeros w 24 3 24 78 i (.agg #[.int .i64 0, .int .i64 0, .int .i64 0]) .i64 .i64 Tryz.underlying24 Tryz.underlying3 hi' hz m hm0 (by rw [hsize]; decide) (by omega) (by rw [hbytes']; omega)
    obtain ⟨G, hG⟩ : ∃ G, G = grownCap w m 0 78 := ⟨_, rfl⟩
    obtain ⟨cur, hcur⟩ : ∃ cur, cur = Builtin.zeroCells (Value.cells (.agg #[.int .i64 0, .int .i64 0, .int .i64 0])) m ++ Builtin.zeroCells (Value.cells (.agg #[.int .i64 0, .int .i64 0, .int .i64 0])) (grownCap w m 0 78 - m) := ⟨_, rfl⟩
    have hge := grownCap_ge w m 0 78
    have hle := grownCap_le_maxLen w m 0 78 (by unfold maxLen; omega)
    have hcs : cur.size = G * 3 := by
      rw [hcur, Array.size_append, size_zeroCells, size_zeroCells, hG]
      show m * 3 + (grownCap w m 0 78 - m) * 3 = _
      omega
    rw [← hcur, ← hG] at hrun
    rw [← hG] at hge hle
    have HH := Lib.hid (And.intro hcs hle)
    clear hcur hG hcs hz hsize hbytes' hi' hle h0
    obtain ⟨w', hw'⟩ : ∃ w', w' = w.drew.alloc (.cells cur 78) := ⟨_, rfl⟩
    have hb : BK w' w.heap.size 78 cur := by rw [hw']; exact BK.new w.drew _ _
    have hbel : Below w.heap.size w w' := by rw [hw']; exact (Below.refl w.heap.size w).drew.alloc (Nat.le_refl _) _
    rw [← hw'] at hrun
    clear hw'
    have HRUN := Lib.hid hrun
    clear hrun
    have hgi : (m : Int) ≤ (G : Int) := by omega
    go_enter Tryz.func93, Tryz.ntmps93
    go_wp2_with (at_builtin; refine Lib.wpList_append_run _ rfl _ _ _ _ rfl _ _ rfl rfl _ _ HRUN.out ?_)
    go_ret
    exact ⟨_, _, rfl, OW.empty hb (Nat.le_refl _) HH.out.1 HH.out.2, hbel⟩
set_option maxRecDepth 100000 in
set_option maxHeartbeats 4000000 in
theorem ConcatJ_any (b off : Nat) (q : Nat) (A1 : Option Addr) (n1 c1 : Nat) (xs : List Junc) (A2 : Option Addr) (n2 c2 : Nat) (ys : List Junc) (w : World) (hb : b < w.heap.size) (h0 : w.cell? ⟨b, off, none⟩ = some (.slice A1 n1 c1)) (h1 : w.cell? ⟨b, off + 1, none⟩ = some (.slice A2 n2 c2))
    (hx : SL jC 3 w w.heap.size A1 n1 xs) (hy : SL jC 3 w w.heap.size A2 n2 ys) (hn1 : n1 ≤ 100000) (hn2 : n2 ≤ 100000) :
    Calls Tryz.prog 74 #[.slice (some ⟨b, off, none⟩) 2 q] w fun e w' => ∃ A c, e = .returned (.slice A (n1 + n2) c) ∧ OW jC 3 78 w.heap.size w' A (n1 + n2) c (xs ++ ys) ∧ Below w.heap.size w w' := by
  have hX := Lib.hid hx
  have hY := Lib.hid hy
  clear hx hy
  go_enter Tryz.func74, Tryz.ntmps74
  go_wp2_with fail
  go_loopw [3, 11] (fun s i wr => ((i = .int .i64 0 ∧ s = .int .i64 0) ∨ (i = .int .i64 1 ∧ s = .int .i64 n1) ∨ (i = .int .i64 2 ∧ s = .int .i64 (n1 + n2))) ∧ wr = w)
    (fun _ i _ => 2 - (intOf i).toNat)
  case atStart => exact ⟨.inl ⟨rfl, rfl⟩, rfl⟩
  case round =>
    obtain ⟨hor, rfl⟩ := hrel
    rcases hor with ⟨rfl, rfl⟩ | ⟨rfl, rfl⟩ | ⟨rfl, rfl⟩
    · have hw1 : IntKind.i64.wrap (n1 : Int) = (n1 : Int) := IntWalk.i64_in _ (by omega)
      have hng : ¬ ((n1 : Int) < 0) := by omega
      go_wp2_with fail
      go_roundw
      case rel => exact ⟨.inr (.inl ⟨rfl, rfl⟩), by first | rfl | trivial⟩
      case measure => simp [intOf]
    · have hw1 : IntKind.i64.wrap ((n1 : Int) + (n2 : Int)) = (n1 : Int) + (n2 : Int) := IntWalk.i64_in _ (by omega)
      have hng : ¬ ((n1 : Int) + (n2 : Int) < 0) := by omega
      go_wp2_with fail
      go_roundw
      case rel => exact ⟨.inr (.inr ⟨rfl, rfl⟩), by first | rfl | trivial⟩
      case measure => simp [intOf]
    · go_wp2_with fail
      have hg := GrowJ_any (n1 + n2) wr (by omega)
      rw [show ((n1 + n2 : Nat) : Int) = (n1 : Int) + (n2 : Int) by omega] at hg
      refine hg.mono ?_
      rintro e w1 ⟨A, c, rfl, ho, hb1⟩
      have d0 := (bc hb1 hb).trans h0
      have d1 := (bc hb1 hb).trans h1
      have HO := Lib.hid ho
      have hz1 := hb1.size
      clear hg ho
      obtain ⟨w0, rfl⟩ : ∃ w0 : World, w0 = wr := ⟨_, rfl⟩
      clear h0 h1
      go_wp2_with fail
      go_loopw [6, 27] (fun s i wv => (∃ A c, (i = .int .i64 0 ∧ s = .slice A 0 c ∧ OW jC 3 78 w0.heap.size wv A 0 c []) ∨ (i = .int .i64 1 ∧ s = .slice A n1 c ∧ OW jC 3 78 w0.heap.size wv A n1 c xs) ∨ (i = .int .i64 2 ∧ s = .slice A (n1 + n2) c ∧ OW jC 3 78 w0.heap.size wv A (n1 + n2) c (xs ++ ys))) ∧ Below w0.heap.size w0 wv ∧ w1.heap.size ≤ wv.heap.size)
        (fun _ i _ => 2 - (intOf i).toNat)
      case atStart => exact ⟨⟨A, c, .inl ⟨rfl, rfl, HO.out⟩⟩, hb1, Nat.le_refl _⟩
      case round =>
        obtain ⟨⟨A, c, hor⟩, hbv, hzv⟩ := hrel
        have e0 := (bc hbv hb).trans ((bc hb1 hb).symm.trans d0)
        have e1 := (bc hbv hb).trans ((bc hb1 hb).symm.trans d1)
        clear d0 d1 HO
        rcases hor with ⟨rfl, rfl, ho⟩ | ⟨rfl, rfl, ho⟩ | ⟨rfl, rfl, ho⟩
        · go_wp2_with (at_builtin; refine wpList_appS rfl _ _ 24 rfl w0.heap.size 78 _ 3 24 Tryz.underlying24 infoJ rfl (by decide) jC _ 0 _ [] rfl ho w0.heap.size A1 n1 c1 xs rfl (hX.out.below hbv) jC_len oneJ (by omega) (by omega) (by omega) ?_; intro A' c' w2 hap; have HAP := Lib.hid hap; clear hap)
          go_roundw
          case rel =>
            have hap := HAP.out
            have h1 := hap.own
            rw [List.nil_append, Nat.zero_add] at h1
            exact ⟨⟨_, _, .inr (.inl ⟨rfl, rfl, h1⟩)⟩, hbv.trans hap.bel, by have := hap.size; omega⟩
          case measure => simp [intOf]
        · go_wp2_with (at_builtin; refine wpList_appS rfl _ _ 24 rfl w0.heap.size 78 _ 3 24 Tryz.underlying24 infoJ rfl (by decide) jC _ n1 _ xs rfl ho w0.heap.size A2 n2 c2 ys rfl (hY.out.below hbv) jC_len oneJ (by omega) (by omega) (by omega) ?_; intro A' c' w2 hap; have HAP := Lib.hid hap; clear hap)
          go_roundw
          case rel =>
            have hap := HAP.out
            exact ⟨⟨_, _, .inr (.inr ⟨rfl, rfl, hap.own⟩)⟩, hbv.trans hap.bel, by have := hap.size; omega⟩
          case measure => simp [intOf]
        · have HO := Lib.hid ho
          clear ho
          go_wp2_with fail
          go_ret
          exact ⟨_, _, rfl, HO.out, hbv⟩
end Go.Proofs.YtijcbfhlhgjedaaGreatDoor

/- surveys: two surveys, measured, or the error. -/
namespace Go.Proofs.YtijcbfhlhgjedaaGreatDoor
open Go.RowKit Go.Shelf Go.Sort Go.Proofs

set_option maxRecDepth 100000 in
set_option maxHeartbeats 4000000 in
theorem surveys_in (pa : Option Addr) (pn pc : Nat) (ca : Option Addr) (cn cc : Nat) (ja : Option Addr) (jn jc : Nat) (R : Road) (pa2 : Option Addr) (pn2 pc2 : Nat) (ca2 : Option Addr) (cn2 cc2 : Nat) (ja2 : Option Addr) (jn2 jc2 : Nat) (R2 : Road) (w : World)
    (h : RD w w.heap.size pa pn ca cn ja jn R) (h2 : RD w w.heap.size pa2 pn2 ca2 cn2 ja2 jn2 R2) (hv : OK R) (hv2 : OK R2) :
    Calls Tryz.prog 26 #[.agg #[.slice pa pn pc, .slice ca cn cc, .slice ja jn jc], .agg #[.slice pa2 pn2 pc2, .slice ca2 cn2 cc2, .slice ja2 jn2 jc2]] w fun e w' =>
      ((sumL R.ps = sumL R2.ps → ∃ g ba bq g2 ba2 bq2, e = .returned (.tuple #[.pointer (some ⟨g, 0, none⟩), .pointer (some ⟨g2, 0, none⟩), .int .i64 0]) ∧ MS w' w'.heap.size g pa pn pc ca cn cc ja jn jc ba bq R ∧ MS w' w'.heap.size g2 pa2 pn2 pc2 ca2 cn2 cc2 ja2 jn2 jc2 ba2 bq2 R2) ∧
       (¬ sumL R.ps = sumL R2.ps → e = .returned (.tuple #[.pointer none, .pointer none, .int .i64 2]))) ∧ Below w.heap.size w w' := by
  have hR := Lib.hid h
  have hR2 := Lib.hid h2
  have hv' := Lib.hid hv
  have hv2' := Lib.hid hv2
  have hmo : Tryz.prog.follows .mixedOrders = true := by kernel_rfl
  have hpn : pn ≤ 2000 := by rw [h.p.1]; exact hv.p2
  have hpn2 : pn2 ≤ 2000 := by rw [h2.p.1]; exact hv2.p2
  have hc := Lib.hid (chk_ok hv)
  have hc2 := Lib.hid (chk_ok hv2)
  clear h h2 hv hv2
  obtain ⟨W0, hW0⟩ : ∃ W0, W0 = (w.alloc (.cells #[.slice pa pn pc, .slice ca cn cc, .slice ja jn jc] 26)).alloc (.cells #[.slice pa2 pn2 pc2, .slice ca2 cn2 cc2, .slice ja2 jn2 jc2] 26) := ⟨_, rfl⟩
  have hB0 : Below w.heap.size w W0 := by rw [hW0]; exact ((Below.refl w.heap.size w).alloc (Nat.le_refl _) _).alloc (by simp) _
  have hX0 : BK W0 w.heap.size 26 #[.slice pa pn pc, .slice ca cn cc, .slice ja jn jc] := by rw [hW0]; exact (BK.new w _ _).alloc _
  have hY0 : BK W0 (w.heap.size + 1) 26 #[.slice pa2 pn2 pc2, .slice ca2 cn2 cc2, .slice ja2 jn2 jc2] := by rw [hW0]; have := BK.new (w.alloc (.cells #[.slice pa pn pc, .slice ca cn cc, .slice ja jn jc] 26)) 26 #[.slice pa2 pn2 pc2, .slice ca2 cn2 cc2, .slice ja2 jn2 jc2]; rw [World.size_alloc] at this; exact this
  go_enter Tryz.func26, Tryz.ntmps26
  go_wp2_with fail
  rw [← hW0]
  clear hW0
  refine (Check_any _ _ _ _ _ _ _ _ _ R _ (hR.out.grow hB0 hB0.size)).mono ?_
  rintro e W1 ⟨rfl, hk0⟩
  rw [hc.out]
  have hB1 := hB0.trans (hk0.mono hB0.size)
  have hX1 := hX0.below hk0 hX0.lt
  have hY1 := hY0.below hk0 hY0.lt
  have y0 := hY1.cell 0
  have y1 := hY1.cell 1
  have y2 := hY1.cell 2
  simp only [List.getElem?_toArray, List.getElem?_cons_zero, List.getElem?_cons_succ] at y0 y1 y2
  go_wp2_with fail
  clear y0 y1 y2
  refine (Check_any _ _ _ _ _ _ _ _ _ R2 _ (hR2.out.grow hB1 hB1.size)).mono ?_
  rintro e W2 ⟨rfl, hk1⟩
  rw [hc2.out]
  have hB2 := hB1.trans (hk1.mono hB1.size)
  have hX2 := hX1.below hk1 hX1.lt
  have hY2 := hY1.below hk1 hY1.lt
  have x0 := fun d os => cell_regrown (hX2.cell 0) d os
  have x1 := fun d os => cell_regrown (hX2.cell 1) d os
  have x2 := fun d os => cell_regrown (hX2.cell 2) d os
  have y0 := fun d os => cell_regrown (hY2.cell 0) d os
  have y1 := fun d os => cell_regrown (hY2.cell 1) d os
  have y2 := fun d os => cell_regrown (hY2.cell 2) d os
  go_wp2_with fail
  refine wp_region_ch 4 [1, 3] hmo (by kernel_rfl) ?_
  simp only [List.take_succ_cons, List.take_zero, List.drop_succ_cons, List.drop_zero]
  repeat (refine wpC_q (by decide) (by decide) (fun K hK => ?_); go_simp; refine hK _ ?_; clear hK K)
  refine wpC_c (ι := Nat) 57 #[.agg #[.slice pa pn pc, .slice ca cn cc, .slice ja jn jc]] (fun g => .pointer (some ⟨g, 0, none⟩)) (fun g x => ∃ ba bq, MS x x.heap.size g pa pn pc ca cn cc ja jn jc ba bq R) (by decide) (by decide) rfl (fun w => by go_simp) stable_true (fun g x y ⟨ba, bq, hm⟩ hb => ⟨ba, bq, hm.grow hb hb.size⟩) (fun W hW _ => ?_) (fun g1 hs1 => ?_)
  · obtain ⟨p, rfl⟩ := hW
    have hb := below_regrown W2 p.d p.os
    have hb' := hB2.trans (hb.mono hB2.size)
    refine (measure_any pa pn pc ca cn cc ja jn jc R _ (hR.out.grow hb' hb'.size) hv'.out.pk (by omega)).mono ?_
    rintro e w' ⟨g, ba, bq, rfl, hM, _, hbl⟩
    exact ⟨g, rfl, ⟨ba, bq, hM⟩, hbl⟩
  repeat (refine wpC_q (by decide) (by decide) (fun K hK => ?_); go_simp; refine hK _ ?_; clear hK K)
  refine wpC_c (ι := Nat) 57 #[.agg #[.slice pa2 pn2 pc2, .slice ca2 cn2 cc2, .slice ja2 jn2 jc2]] (fun g => .pointer (some ⟨g, 0, none⟩)) (fun g x => ∃ ba bq, MS x x.heap.size g pa2 pn2 pc2 ca2 cn2 cc2 ja2 jn2 jc2 ba bq R2) (by decide) (by decide) rfl (fun w => by go_simp) hs1 (fun g x y ⟨ba, bq, hm⟩ hb => ⟨ba, bq, hm.grow hb hb.size⟩) (fun W hW _ => ?_) (fun g2 hs2 => ?_)
  · obtain ⟨p, rfl⟩ := hW
    have hb := below_regrown W2 p.d p.os
    have hb' := hB2.trans (hb.mono hB2.size)
    refine (measure_any pa2 pn2 pc2 ca2 cn2 cc2 ja2 jn2 jc2 R2 _ (hR2.out.grow hb' hb'.size) hv2'.out.pk (by omega)).mono ?_
    rintro e w' ⟨g, ba, bq, rfl, hM, _, hbl⟩
    exact ⟨g, rfl, ⟨ba, bq, hM⟩, hbl⟩
  repeat (refine wpC_q (by decide) (by decide) (fun K hK => ?_); go_simp; refine hK _ ?_; clear hK K)
  refine wpC_nil ?_
  intro W3 hb3 hΦ
  obtain ⟨⟨-, ba, bq, hM⟩, ba2, bq2, hM2⟩ := hΦ
  clear x0 x1 x2 y0 y1 y2 hs1 hs2
  have hB3 := hB2.trans (hb3.mono hB2.size)
  go_wp2_with fail
  refine (mlength_any _ _ _ _ _ _ _ _ _ _ _ _ R _ _ hM (by omega)).mono ?_
  rintro e W4' ⟨rfl, nd, hw4⟩
  obtain ⟨W4, hw4e⟩ : ∃ W4, W4 = W4' := ⟨_, rfl⟩
  rw [← hw4e] at hw4 ⊢
  have hk4 : Below W3.heap.size W3 W4 := by rw [hw4]; exact below_drewN (Below.refl _ _) _
  clear hw4 hw4e
  have hM4 := hM.grow hk4 hk4.size
  have hM24 := hM2.grow hk4 hk4.size
  have hB4 := hB3.trans (hk4.mono hB3.size)
  go_wp2_with fail
  refine (mlength_any _ _ _ _ _ _ _ _ _ _ _ _ R2 _ _ hM24 (by omega)).mono ?_
  rintro e W5' ⟨rfl, nd, hw5⟩
  obtain ⟨W5, hw5e⟩ : ∃ W5, W5 = W5' := ⟨_, rfl⟩
  rw [← hw5e] at hw5 ⊢
  have hk5 : Below W4.heap.size W4 W5 := by rw [hw5]; exact below_drewN (Below.refl _ _) _
  clear hw5 hw5e
  have hB5 := hB4.trans (hk5.mono hB4.size)
  have hM5 := hM4.grow hk5 hk5.size
  have hM25 := hM24.grow hk5 hk5.size
  by_cases he : sumL R.ps = sumL R2.ps
  · have HH := Lib.hid (And.intro hM5 (And.intro hM25 hB5))
    have HE := Lib.hid he
    clear hM5 hM25 hM4 hM24 hM hM2
    go_wp2_with fail
    go_ret3
    exact ⟨⟨fun _ => ⟨g1, ba, bq, g2, ba2, bq2, rfl, HH.out.1, HH.out.2.1⟩, fun h => absurd HE.out h⟩, HH.out.2.2⟩
  · have HE := Lib.hid he
    clear hM5 hM25 hM4 hM24 hM hM2
    go_wp2_with fail
    go_ret3
    exact ⟨⟨fun h => absurd h HE.out, fun _ => rfl⟩, hB5⟩
end Go.Proofs.YtijcbfhlhgjedaaGreatDoor
