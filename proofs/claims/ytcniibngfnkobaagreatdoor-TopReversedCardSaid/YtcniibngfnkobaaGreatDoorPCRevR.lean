/- road.Reverse, walked. -/
import Derived.Test.YtcniibngfnkobaaGreatDoorPCRev
import Derived.Test.YtcniibngfnkobaaGreatDoorPCReg
import Derived.Test.YtcniibngfnkobaaGreatDoorPCOrdM
import Derived.Test.YtcniibngfnkobaaGreatDoorPCIter
namespace Go.Proofs.YtcniibngfnkobaaGreatDoor
open Go.RowKit Go.Shelf Go.Sort Go.Proofs

section
variable {α β : Type} {f : α → List Value} {f' : β → List Value} {sz sz' : Nat} {e e' : TypeId} {base base' : Nat} {w w' : World} {A A' : Option Addr} {n c n' c' : Nat} {xs : List α} {ys : List β}
/-- Rows of different element types never share a block. -/
theorem OW.ty (h : OW f sz e base w A n c xs) {a : Addr} (ha : A = some a) : ∃ cur, w.heap[a.block]? = some (.cells cur e (0, 0)) := by
  subst ha
  rcases h.1.2 with ⟨h3, _⟩ | ⟨g', cap, cur, h3, _, hg', _⟩
  · cases h3
  · injection h3 with h3
    injection h3 with h3
    subst h3
    exact ⟨cur, hg'⟩
theorem OW.ne (h : OW f sz e base w A n c xs) (h' : OW f' sz' e' base' w A' n' c' ys) (hne : e ≠ e') {a a' : Addr} (ha : A = some a) (ha' : A' = some a') : a.block ≠ a'.block := by
  intro q
  obtain ⟨c1, h1⟩ := h.ty ha
  obtain ⟨c2, h2⟩ := h'.ty ha'
  rw [q, h2] at h1
  injection h1 with h1
  injection h1 with _ h1
  exact hne h1.symm
theorem BK.ne_row (hb : BK w n' e' #[] ∨ ∃ cs, BK w n' e' cs) (h : OW f sz e base w A n c xs) (hne : e ≠ e') {a : Addr} (ha : A = some a) : a.block ≠ n' := by
  intro q
  obtain ⟨c1, h1⟩ := h.ty ha
  rcases hb with hb | ⟨cs, hb⟩
  · rw [q, show w.heap[n']? = _ from hb] at h1
    injection h1 with h1
    injection h1 with _ h1
    exact hne h1.symm
  · rw [q, show w.heap[n']? = _ from hb] at h1
    injection h1 with h1
    injection h1 with _ h1
    exact hne h1.symm
theorem OW.head (h : OW f sz e base w A n c xs) {a : Addr} (ha : A = some a) : ∃ b, A = some ⟨b, 0, none⟩ := by
  subst ha
  rcases h.1.2 with ⟨h3, _⟩ | ⟨g', cap, cur, h3, _, hg', _⟩
  · cases h3
  · injection h3 with h3
    injection h3 with h3
    exact ⟨g', by rw [h3]⟩
theorem grown_ow {row : Option Nat} (hg : w.grownBy w' row) (h : OW f sz e base w A n c xs) (hr : ∀ a, A = some a → some a.block ≠ row) : OW f sz e base w' A n c xs :=
  h.keep fun a ha => hg.block a.block (h.lt ha).2 (hr a ha)
theorem grown_bk {row : Option Nat} {g : Nat} {cs : Array Value} (hg : w.grownBy w' row) (h : BK w g e cs) (hr : some g ≠ row) : BK w' g e cs := h.same (hg.block g h.lt hr)
theorem OW.off_bk (h : OW f sz e base w A n c xs) {g : Nat} {t : TypeId} {cs : Array Value} (hb : BK w g t cs) (hne : e ≠ t) : some g ≠ A.map (·.block) := by
  intro q
  rcases A with _ | a
  · cases q
  · simp only [Option.map_some, Option.some.injEq] at q
    exact BK.ne_row (.inr ⟨_, hb⟩) h hne rfl q.symm
theorem OW.off_lt (h : OW f sz e base w A n c xs) {g : Nat} (hg : g < base) : some g ≠ A.map (·.block) := by
  intro q
  rcases A with _ | a
  · cases q
  · simp only [Option.map_some, Option.some.injEq] at q
    have := (h.lt rfl).1
    omega
theorem OW.off_ow (h : OW f sz e base w A n c xs) (h' : OW f' sz' e' base' w A' n' c' ys) (hne : e ≠ e') : ∀ a, A' = some a → some a.block ≠ A.map (·.block) := by
  intro a ha q
  rcases A with _ | b
  · cases q
  · simp only [Option.map_some, Option.some.injEq] at q
    exact h.ne h' hne rfl ha q.symm
theorem grown_below (h : OW f sz e base w A n c xs) (hg : w.grownBy w' (A.map (·.block))) (hb : base ≤ w.heap.size) : Below base w w' :=
  ⟨hg.os, hg.tape, hg.output, hg.size, fun k hk => hg.block k (by omega) (h.off_lt hk)⟩
theorem only_of_below {a w : World} (h : Below a.heap.size a w) (row : Option Nat) : a.grownBy w row := ⟨h.os, h.tape, h.output, h.size, fun i hi _ => h.block i hi⟩
/-- A list whose first k elements are changed. -/
def mid (g : α → α) (l : List α) (k : Nat) : List α := (l.take k).map g ++ l.drop k
theorem mid_zero (g : α → α) (l : List α) : mid g l 0 = l := by simp [mid]
theorem mid_all (g : α → α) (l : List α) : mid g l l.length = l.map g := by simp [mid]
theorem mid_len (g : α → α) (l : List α) (k : Nat) (hk : k ≤ l.length) : (mid g l k).length = l.length := by simp [mid]; omega
theorem mid_at (g : α → α) (l : List α) (k : Nat) (hk : k < l.length) : (mid g l k)[k]? = some l[k] := by
  have h1 : ((l.take k).map g).length = k := by simp; omega
  rw [mid, List.getElem?_append_right (by rw [h1]; exact Nat.le_refl _), h1, Nat.sub_self, List.getElem?_drop, Nat.add_zero, List.getElem?_eq_getElem hk]
theorem mid_set (g : α → α) (l : List α) (k : Nat) (hk : k < l.length) : (mid g l k).set k (g l[k]) = mid g l (k + 1) := by
  have h1 : ((l.take k).map g).length = k := by simp; omega
  rw [mid, List.set_append_right _ _ (by rw [h1]; exact Nat.le_refl _), h1, Nat.sub_self, List.drop_eq_getElem_cons hk, List.set_cons_zero, mid, List.take_succ_eq_append_getElem hk, List.map_append]
  simp
end

theorem jbd {R : Road} (h : OK R) : ∀ c ∈ R.js, (0 ≤ c.pos ∧ c.pos ≤ sumL R.ps) ∧ (2 ≤ c.arms ∧ c.arms ≤ 6) ∧ 1 ≤ c.way ∧ c.way ≤ c.arms := by
  intro c hc
  obtain ⟨i, hi, rfl⟩ := List.getElem_of_mem hc
  have := h.jk i hi _ (List.getElem?_eq_getElem hi)
  simp only [inR, Bool.and_eq_true, decide_eq_true_eq] at this
  exact ⟨this.1, this.2.1, this.2.2.1⟩
set_option maxRecDepth 100000 in
set_option maxHeartbeats 4000000 in
theorem Reverse_in (pa : Option Addr) (pn pc : Nat) (ca : Option Addr) (cn cc : Nat) (ja : Option Addr) (jn jc : Nat) (R : Road) (w : World)
    (h : RD w w.heap.size pa pn ca cn ja jn R) (hv : OK R) :
    Calls Tryz.prog 7 #[.agg #[.slice pa pn pc, .slice ca cn cc, .slice ja jn jc]] w fun e w' => ∃ pa' pc' ca' cc' ja' jc', e = .returned (.tuple #[.agg #[.slice pa' pn pc', .slice ca' cn cc', .slice ja' jn jc'], .int .i64 0]) ∧
      (OW pC 5 60 w.heap.size w' pa' pn pc' (revR R).ps ∧ OW cC 2 63 w.heap.size w' ca' cn cc' (revR R).cs ∧ OW jC 3 66 w.heap.size w' ja' jn jc' (revR R).js) ∧ Below w.heap.size w w' := by
  have hR := Lib.hid h
  have hv' := Lib.hid hv
  have hc := Lib.hid (chk_ok hv)
  have hmo : Tryz.prog.follows .mixedOrders = true := by kernel_rfl
  have hpn : pn ≤ 2000 := by rw [h.p.1]; exact hv.p2
  have hpn1 : 1 ≤ pn := by rw [h.p.1]; exact hv.p1
  have hcn : cn ≤ 1000 := by rw [h.c.1]; exact hv.c1
  have hjn : jn ≤ 200 := by rw [h.j.1]; exact hv.j1
  have hln := hv.len
  clear h hv
  obtain ⟨w0, hw0⟩ : ∃ w0, w0 = (w.alloc (.cells #[.slice pa pn pc, .slice ca cn cc, .slice ja jn jc] 26)).alloc (.cells #[.slice none 0 0, .slice none 0 0, .slice none 0 0] 26) := ⟨_, rfl⟩
  have hB0 : Below w.heap.size w w0 := by rw [hw0]; exact ((Below.refl w.heap.size w).alloc (Nat.le_refl _) _).alloc (by simp) _
  have hX0 : BK w0 w.heap.size 26 #[.slice pa pn pc, .slice ca cn cc, .slice ja jn jc] := by rw [hw0]; exact (BK.new w _ _).alloc _
  have hY0 : BK w0 (w.heap.size + 1) 26 #[.slice none 0 0, .slice none 0 0, .slice none 0 0] := by rw [hw0]; have := BK.new (w.alloc (.cells #[.slice pa pn pc, .slice ca cn cc, .slice ja jn jc] 26)) 26 #[.slice none 0 0, .slice none 0 0, .slice none 0 0]; rw [World.size_alloc] at this; exact this
  go_enter Tryz.func7, Tryz.ntmps7
  go_wp2_with fail
  rw [← hw0]
  clear hw0
  refine (Check_any _ _ _ _ _ _ _ _ _ R _ (hR.out.grow hB0 hB0.size)).mono ?_
  rintro e w1 ⟨rfl, hk0⟩
  rw [hc.out]
  have hB1 := hB0.trans (hk0.mono hB0.size)
  have hX1 := hX0.below hk0 hX0.lt
  have hY1 := hY0.below hk0 hY0.lt
  have x0 := hX1.cell 0
  have x1 := hX1.cell 1
  have x2 := hX1.cell 2
  simp only [List.getElem?_toArray, List.getElem?_cons_zero, List.getElem?_cons_succ] at x0 x1 x2
  go_wp2_with fail
  refine (measure_any _ _ _ _ _ _ _ _ _ R _ (hR.out.grow hB1 hB1.size) hv'.out.pk (by omega)).mono ?_
  rintro e w2 ⟨g, ba, bq, rfl, hM, hg, hk1⟩
  clear x0 x1 x2
  have hB2 := hB1.trans (hk1.mono hB1.size)
  have hX2 := hX1.below hk1 hX1.lt
  have hY2 := hY1.below hk1 hY1.lt
  go_wp2_with fail
  refine (mlength_any _ _ _ _ _ _ _ _ _ _ _ _ R _ _ hM (by omega)).mono ?_
  rintro e w3' ⟨rfl, nd, hw3⟩
  obtain ⟨w3, hw3e⟩ : ∃ w3, w3 = w3' := ⟨_, rfl⟩
  rw [← hw3e] at hw3 ⊢
  have hk2 : Below w2.heap.size w2 w3 := by rw [hw3]; exact below_drewN (Below.refl _ _) _
  clear hw3 hw3e hM
  have hB3 := hB2.trans (hk2.mono hB2.size)
  have hX3 := hX2.below hk2 hX2.lt
  have hY3 := hY2.below hk2 hY2.lt
  obtain ⟨N, hN⟩ : ∃ N, N = sumL R.ps := ⟨_, rfl⟩
  have HN := Lib.hid hN
  rw [← hN] at hln ⊢
  clear hN
  go_wp2_with fail
  refine wp_region_cha 11 10 [2, 5, 8] 26 #[.slice none 0 0, .slice none 0 0, .slice none 0 0] 6 _ hmo (by decide) rfl rfl rfl (fun a w => rfl) (by kernel_rfl) ?_
  simp only [List.take_succ_cons, List.take_zero, List.drop_succ_cons, List.drop_zero]
  have x0 := fun d os => cell_regrown (hX3.cell 0) d os
  have x1 := fun d os => cell_regrown (hX3.cell 1) d os
  have x2 := fun d os => cell_regrown (hX3.cell 2) d os
  have HR3 := Lib.hid (hR.out.grow hB3 hB3.size)
  repeat (refine wpC_q (by decide) (by decide) (fun K hK => ?_); go_simp; refine hK _ ?_; clear hK K)
  refine wpC_c (ι := Option Addr × Nat) 20 #[.slice pa pn pc] (fun i => .slice i.1 pn i.2) (fun i x => OW pC 5 60 w3.heap.size x i.1 pn i.2 R.ps) (by decide) (by decide) rfl (fun w => by go_simp) stable_true (fun i => stable_ow _ _ _ _ _ _ _ _) (fun W hW _ => ?_) (fun i1 hs1 => ?_)
  · obtain ⟨p, rfl⟩ := hW
    have hb := below_regrown w3 p.d p.os
    refine (CloneP_any _ _ _ R.ps _ (HR3.out.p.grow hb hb.size) (by omega)).mono ?_
    rintro e w' ⟨A', c', rfl, ho, hbl⟩
    exact ⟨(A', c'), rfl, ho.drop0 hb.size, hbl⟩
  repeat (refine wpC_q (by decide) (by decide) (fun K hK => ?_); go_simp; refine hK _ ?_; clear hK K)
  refine wpC_c (ι := Option Addr × Nat) 21 #[.slice ca cn cc] (fun i => .slice i.1 cn i.2) (fun i x => OW cC 2 63 w3.heap.size x i.1 cn i.2 R.cs) (by decide) (by decide) rfl (fun w => by go_simp) hs1 (fun i => stable_ow _ _ _ _ _ _ _ _) (fun W hW _ => ?_) (fun i2 hs2 => ?_)
  · obtain ⟨p, rfl⟩ := hW
    have hb := below_regrown w3 p.d p.os
    refine (CloneC_any _ _ _ R.cs _ (HR3.out.c.grow hb hb.size) (by omega)).mono ?_
    rintro e w' ⟨A', c', rfl, ho, hbl⟩
    exact ⟨(A', c'), rfl, ho.drop0 hb.size, hbl⟩
  repeat (refine wpC_q (by decide) (by decide) (fun K hK => ?_); go_simp; refine hK _ ?_; clear hK K)
  refine wpC_c (ι := Option Addr × Nat) 22 #[.slice ja jn jc] (fun i => .slice i.1 jn i.2) (fun i x => OW jC 3 66 w3.heap.size x i.1 jn i.2 R.js) (by decide) (by decide) rfl (fun w => by go_simp) hs2 (fun i => stable_ow _ _ _ _ _ _ _ _) (fun W hW _ => ?_) (fun i3 hs3 => ?_)
  · obtain ⟨p, rfl⟩ := hW
    have hb := below_regrown w3 p.d p.os
    refine (CloneJ_any _ _ _ R.js _ (HR3.out.j.grow hb hb.size) (by omega)).mono ?_
    rintro e w' ⟨A', c', rfl, ho, hbl⟩
    exact ⟨(A', c'), rfl, ho.drop0 hb.size, hbl⟩
  repeat (refine wpC_q (by decide) (by decide) (fun K hK => ?_); go_simp; refine hK _ ?_; clear hK K)
  refine wpC_a (by decide) ?_
  refine wpC_nil ?_
  intro tb w4 hk3 hΦ htb hT4
  obtain ⟨⟨⟨-, o1⟩, o2⟩, o3⟩ := hΦ
  obtain ⟨A1, c1⟩ := i1
  obtain ⟨A2, c2⟩ := i2
  obtain ⟨A3, c3⟩ := i3
  simp only at o1 o2 o3 ⊢
  clear x0 x1 x2 hs1 hs2 hs3 HR3
  have hB4 := hB3.trans (hk3.mono hB3.size)
  have hX4 := hX3.below hk3 hX3.lt
  have hY4 := hY3.below hk3 hY3.lt
  have hz3 : w.heap.size + 1 < w3.heap.size := hY3.lt
  have t0 := hT4.cell 0
  have t1 := hT4.cell 1
  have t2 := hT4.cell 2
  have tf := hT4.frozen
  simp only [List.getElem?_toArray, List.getElem?_cons_zero, List.getElem?_cons_succ] at t0 t1 t2
  go_wp2_with fail
  obtain ⟨w5, hw5⟩ : ∃ w5, w5 = ((w4.setCell ⟨tb, 0, none⟩ (.slice A1 pn c1)).setCell ⟨tb, 1, none⟩ (.slice A2 cn c2)).setCell ⟨tb, 2, none⟩ (.slice A3 jn c3) := ⟨_, rfl⟩
  have hT5 : BK w5 tb 26 #[.slice A1 pn c1, .slice A2 cn c2, .slice A3 jn c3] := by rw [hw5]; exact ((hT4.set_ 0 _).set_ 1 _).set_ 2 _
  have far1 : ∀ a, A1 = some a → a.block ≠ tb := fun a ha => BK.ne_row (.inr ⟨_, hT4⟩) o1 (by decide) ha
  have far2 : ∀ a, A2 = some a → a.block ≠ tb := fun a ha => BK.ne_row (.inr ⟨_, hT4⟩) o2 (by decide) ha
  have far3 : ∀ a, A3 = some a → a.block ≠ tb := fun a ha => BK.ne_row (.inr ⟨_, hT4⟩) o3 (by decide) ha
  replace o1 : OW pC 5 60 w3.heap.size w5 A1 pn c1 R.ps := by rw [hw5]; exact ((o1.setCell far1 _).setCell far1 _).setCell far1 _
  replace o2 : OW cC 2 63 w3.heap.size w5 A2 cn c2 R.cs := by rw [hw5]; exact ((o2.setCell far2 _).setCell far2 _).setCell far2 _
  replace o3 : OW jC 3 66 w3.heap.size w5 A3 jn c3 R.js := by rw [hw5]; exact ((o3.setCell far3 _).setCell far3 _).setCell far3 _
  have hX5 : BK w5 w.heap.size 26 #[.slice pa pn pc, .slice ca cn cc, .slice ja jn jc] := by rw [hw5]; exact ((hX4.far (by show w.heap.size ≠ tb; omega) _).far (by show w.heap.size ≠ tb; omega) _).far (by show w.heap.size ≠ tb; omega) _
  have hY5 : BK w5 (w.heap.size + 1) 26 #[.slice none 0 0, .slice none 0 0, .slice none 0 0] := by rw [hw5]; exact ((hY4.far (by show w.heap.size + 1 ≠ tb; omega) _).far (by show w.heap.size + 1 ≠ tb; omega) _).far (by show w.heap.size + 1 ≠ tb; omega) _
  have hB5' : Below w3.heap.size w3 w5 := by rw [hw5]; exact ((hk3.setCell htb _).setCell htb _).setCell htb _
  rw [← hw5]
  clear hw5 tf hT4 hX4 hY4 hk3 hB4 far1 far2 far3
  refine (RevP_ow w3.heap.size A1 pn c1 _ w5 o1 (by omega)).mono ?_
  rintro e w6 ⟨⟨ev, rfl⟩, o1', hg5⟩
  replace o2 := grown_ow hg5 o2 (fun b hb e => by
    cases hA : A1 with
    | none => rw [hA] at e; cases e
    | some b2 =>
      rw [hA] at e
      simp only [Option.map_some, Option.some.injEq] at e
      exact o2.ne o1 (by decide) hb hA e)
  replace o3 := grown_ow hg5 o3 (fun b hb e => by
    cases hA : A1 with
    | none => rw [hA] at e; cases e
    | some b2 =>
      rw [hA] at e
      simp only [Option.map_some, Option.some.injEq] at e
      exact o3.ne o1 (by decide) hb hA e)
  have hX6 := grown_bk hg5 hX5 (fun e => by
    cases hA : A1 with
    | none => rw [hA] at e; cases e
    | some b2 =>
      rw [hA] at e
      simp only [Option.map_some, Option.some.injEq] at e
      have := (o1.lt hA).1
      omega)
  have hY6 := grown_bk hg5 hY5 (fun e => by
    cases hA : A1 with
    | none => rw [hA] at e; cases e
    | some b2 =>
      rw [hA] at e
      simp only [Option.map_some, Option.some.injEq] at e
      have := (o1.lt hA).1
      omega)
  have hT6 := grown_bk hg5 hT5 (fun e => by
    cases hA : A1 with
    | none => rw [hA] at e; cases e
    | some b2 =>
      rw [hA] at e
      simp only [Option.map_some, Option.some.injEq] at e
      exact BK.ne_row (.inr ⟨_, hT5⟩) o1 (by decide) hA e.symm)
  have hB6 : Below w3.heap.size w3 w6 := hB5'.trans ⟨hg5.os, hg5.tape, hg5.output, hg5.size, fun q hq => hg5.block q (by have := hB5'.size; omega) (fun e => by
    cases hA : A1 with
    | none => rw [hA] at e; cases e
    | some b2 =>
      rw [hA] at e
      simp only [Option.map_some, Option.some.injEq] at e
      have := (o1.lt hA).1
      omega)⟩
  have hB6' := hB6
  replace o1 := o1'
  clear o1' hg5 t0 t1 t2
  have t0 := hT6.cell 0
  have t1 := hT6.cell 1
  have t2 := hT6.cell 2
  simp only [List.getElem?_toArray, List.getElem?_cons_zero, List.getElem?_cons_succ] at t0 t1 t2
  go_wp2_with fail
  refine (RevC_ow w3.heap.size A2 cn c2 _ w6 o2 (by omega)).mono ?_
  rintro e w7 ⟨⟨ev, rfl⟩, o2', hg6⟩
  replace o1 := grown_ow hg6 o1 (fun b hb e => by
    cases hA : A2 with
    | none => rw [hA] at e; cases e
    | some b2 =>
      rw [hA] at e
      simp only [Option.map_some, Option.some.injEq] at e
      exact o1.ne o2 (by decide) hb hA e)
  replace o3 := grown_ow hg6 o3 (fun b hb e => by
    cases hA : A2 with
    | none => rw [hA] at e; cases e
    | some b2 =>
      rw [hA] at e
      simp only [Option.map_some, Option.some.injEq] at e
      exact o3.ne o2 (by decide) hb hA e)
  have hX7 := grown_bk hg6 hX6 (fun e => by
    cases hA : A2 with
    | none => rw [hA] at e; cases e
    | some b2 =>
      rw [hA] at e
      simp only [Option.map_some, Option.some.injEq] at e
      have := (o2.lt hA).1
      omega)
  have hY7 := grown_bk hg6 hY6 (fun e => by
    cases hA : A2 with
    | none => rw [hA] at e; cases e
    | some b2 =>
      rw [hA] at e
      simp only [Option.map_some, Option.some.injEq] at e
      have := (o2.lt hA).1
      omega)
  have hT7 := grown_bk hg6 hT6 (fun e => by
    cases hA : A2 with
    | none => rw [hA] at e; cases e
    | some b2 =>
      rw [hA] at e
      simp only [Option.map_some, Option.some.injEq] at e
      exact BK.ne_row (.inr ⟨_, hT6⟩) o2 (by decide) hA e.symm)
  have hB7 : Below w3.heap.size w3 w7 := hB6'.trans ⟨hg6.os, hg6.tape, hg6.output, hg6.size, fun q hq => hg6.block q (by have := hB6'.size; omega) (fun e => by
    cases hA : A2 with
    | none => rw [hA] at e; cases e
    | some b2 =>
      rw [hA] at e
      simp only [Option.map_some, Option.some.injEq] at e
      have := (o2.lt hA).1
      omega)⟩
  have hB7' := hB7
  replace o2 := o2'
  clear o2' hg6 t0 t1 t2
  have t0 := hT7.cell 0
  have t1 := hT7.cell 1
  have t2 := hT7.cell 2
  simp only [List.getElem?_toArray, List.getElem?_cons_zero, List.getElem?_cons_succ] at t0 t1 t2
  go_wp2_with fail
  refine (RevJ_ow w3.heap.size A3 jn c3 _ w7 o3 (by omega)).mono ?_
  rintro e w8 ⟨⟨ev, rfl⟩, o3', hg7⟩
  replace o1 := grown_ow hg7 o1 (fun b hb e => by
    cases hA : A3 with
    | none => rw [hA] at e; cases e
    | some b2 =>
      rw [hA] at e
      simp only [Option.map_some, Option.some.injEq] at e
      exact o1.ne o3 (by decide) hb hA e)
  replace o2 := grown_ow hg7 o2 (fun b hb e => by
    cases hA : A3 with
    | none => rw [hA] at e; cases e
    | some b2 =>
      rw [hA] at e
      simp only [Option.map_some, Option.some.injEq] at e
      exact o2.ne o3 (by decide) hb hA e)
  have hX8 := grown_bk hg7 hX7 (fun e => by
    cases hA : A3 with
    | none => rw [hA] at e; cases e
    | some b2 =>
      rw [hA] at e
      simp only [Option.map_some, Option.some.injEq] at e
      have := (o3.lt hA).1
      omega)
  have hY8 := grown_bk hg7 hY7 (fun e => by
    cases hA : A3 with
    | none => rw [hA] at e; cases e
    | some b2 =>
      rw [hA] at e
      simp only [Option.map_some, Option.some.injEq] at e
      have := (o3.lt hA).1
      omega)
  have hT8 := grown_bk hg7 hT7 (fun e => by
    cases hA : A3 with
    | none => rw [hA] at e; cases e
    | some b2 =>
      rw [hA] at e
      simp only [Option.map_some, Option.some.injEq] at e
      exact BK.ne_row (.inr ⟨_, hT7⟩) o3 (by decide) hA e.symm)
  have hB8 : Below w3.heap.size w3 w8 := hB7'.trans ⟨hg7.os, hg7.tape, hg7.output, hg7.size, fun q hq => hg7.block q (by have := hB7'.size; omega) (fun e => by
    cases hA : A3 with
    | none => rw [hA] at e; cases e
    | some b2 =>
      rw [hA] at e
      simp only [Option.map_some, Option.some.injEq] at e
      have := (o3.lt hA).1
      omega)⟩
  have hB8' := hB8
  replace o3 := o3'
  clear o3' hg7 t0 t1 t2
  have t0 := hT8.cell 0
  have t1 := hT8.cell 1
  have t2 := hT8.cell 2
  simp only [List.getElem?_toArray, List.getElem?_cons_zero, List.getElem?_cons_succ] at t0 t1 t2
  go_wp2_with fail
  have hlP := o1.len
  have hlC := o2.len
  have hlJ := o3.len
  have HLP := Lib.hid hlP
  have HLC := Lib.hid hlC
  have HLJ := Lib.hid hlJ
  have HB8 := Lib.hid hB8
  clear hlP hlC hlJ hB8 hB8' hB7 hB7' hB6 hB6' hB5'
  have hz8 : w3.heap.size ≤ w8.heap.size := HB8.out.size
  go_loopw [42] (fun i wr => ∃ k : Nat, k ≤ pn ∧ i = .int .i64 k ∧ OW pC 5 60 w3.heap.size wr A1 pn c1 (mid neg R.ps.reverse k) ∧ w8.grownBy wr (A1.map (·.block)))
    (fun i _ => pn - (intOf i).toNat)
  case atStart => exact ⟨0, Nat.zero_le _, rfl, by rw [mid_zero]; exact o1, World.grownBy.refl w8 _⟩
  case round =>
    obtain ⟨k, hk, rfl, hO, hg8⟩ := hrel
    have hTr := grown_bk hg8 hT8 (o1.off_bk hT8 (by decide))
    have t0 := hTr.cell 0
    have t1 := hTr.cell 1
    simp only [List.getElem?_toArray, List.getElem?_cons_zero, List.getElem?_cons_succ] at t0 t1
    by_cases hlt : k < pn
    · have hkl : k < R.ps.reverse.length := by rw [← HLP.out]; exact hlt
      have hat := mid_at neg R.ps.reverse k hkl
      have hset := mid_set neg R.ps.reverse k hkl
      have hpk := hv'.out.pk _ (List.mem_reverse.1 (List.getElem_mem hkl))
      generalize R.ps.reverse[k]'hkl = x at hat hset hpk
      have htk := pOk_tOk hpk
      obtain ⟨a1, ha1⟩ : ∃ a1, A1 = some a1 := by
        cases A1 with
        | none => have := o1.none_.1; omega
        | some a1 => exact ⟨a1, rfl⟩
      obtain ⟨b1, rfl, hbl, _, hfz, hrow⟩ := hO.at_ pC_len a1 ha1
      have d1 := hrow _ x hat 1 _ rfl
      rw [show 0 + k * 5 + 1 = k * 5 + 1 by omega] at d1
      have df := hfz (k * 5 + 1)
      have hwn : IntKind.i64.wrap (-x.turn) = -x.turn := IntWalk.i64_in _ (by have := htk.1; have := htk.2.1; omega)
      have hi1 : (0 : Int) ≤ (k : Int) := by omega
      have hi2 : (k : Int) < (pn : Int) := by omega
      have HAT := Lib.hid hat
      have HSET := Lib.hid hset
      have HO := Lib.hid hO
      have HG := Lib.hid hg8
      have o1' := Lib.hid o1
      have HA1 := Lib.hid ha1
      clear hrow hfz hat hset hkl hO hg8 o1
      subst ha1
      go_wp2_with fail
      refine wp_region_qt 10 hmo (by kernel_rfl) ?_
      simp only [List.take_succ_cons, List.take_zero, List.drop_succ_cons, List.drop_zero]
      have q0 := fun d os => cell_regrown t0 d os
      have q1 := fun d os => cell_regrown d1 d os
      repeat (quiet_step (fail))
      refine wpQuiet_nil ?_
      intro w' hb'
      clear q0 q1 hwn t0 t1
      replace d1 := (bc hb' hbl).trans d1
      replace df := (bf hb' hbl).trans df
      go_wp2_with fail
      go_roundw
      case rel =>
        have h1 := (HO.out.call hb').setF pC_len k 1 (x := x) (y := neg x) (v := .int .i64 (-x.turn)) HAT.out (by omega) rfl
        rw [HSET.out] at h1
        exact ⟨k + 1, by omega, by go_num, h1, only_set (only_trans HG.out (only_of_below hb' _)) _⟩
      case measure => simp [intOf]; omega
    · obtain rfl : k = pn := by omega
      have hall : Hid (mid neg R.ps.reverse k = (revR R).ps) := by rw [HLP.out, mid_all]; exact List.map_reverse
      rw [hall.out] at hO
      have hX9 := grown_bk hg8 hX8 (o1.off_lt (by omega))
      have hY9 := grown_bk hg8 hY8 (o1.off_lt (by omega))
      have o29 := grown_ow hg8 o2 (o1.off_ow o2 (by decide))
      have o39 := grown_ow hg8 o3 (o1.off_ow o3 (by decide))
      have hB9 : Below w3.heap.size w3 wr := HB8.out.trans (grown_below o1 hg8 hz8)
      obtain ⟨w9, hw9⟩ : ∃ w9, w9 = wr := ⟨_, rfl⟩
      rw [← hw9] at hO hTr hX9 hY9 o29 o39 hB9 t0 t1 ⊢
      clear hw9 o1 o2 o3 hX8 hY8 hT8 hg8
      have HB9 := Lib.hid hB9
      clear hB9
      have hz9 : w3.heap.size ≤ w9.heap.size := HB9.out.size
      go_wp2_with fail
      go_loopw [61] (fun i wr => ∃ j : Nat, j ≤ cn ∧ i = .int .i64 j ∧ OW cC 2 63 w3.heap.size wr A2 cn c2 (mid (fun c => { c with pos := N - c.pos }) R.cs.reverse j) ∧ w9.grownBy wr (A2.map (·.block)))
        (fun i _ => cn - (intOf i).toNat)
      case atStart => exact ⟨0, Nat.zero_le _, rfl, by rw [mid_zero]; exact o29, World.grownBy.refl w9 _⟩
      case round =>
        obtain ⟨j, hj, rfl, hO2, hg9⟩ := hrel
        have hTs := grown_bk hg9 hTr (o29.off_bk hTr (by decide))
        clear t0 t1
        have t1 := hTs.cell 1
        have t2 := hTs.cell 2
        simp only [List.getElem?_toArray, List.getElem?_cons_zero, List.getElem?_cons_succ] at t1 t2
        by_cases hlt2 : j < cn
        · have hkl : j < R.cs.reverse.length := by rw [← HLC.out]; exact hlt2
          have hat := mid_at (fun c : Crest => { c with pos := N - c.pos }) R.cs.reverse j hkl
          have hset := mid_set (fun c : Crest => { c with pos := N - c.pos }) R.cs.reverse j hkl
          have hpk := hv'.out.cpos _ (List.mem_reverse.1 (List.getElem_mem hkl))
          rw [← HN.out] at hpk
          generalize R.cs.reverse[j]'hkl = x at hat hset hpk
          obtain ⟨a1, ha1⟩ : ∃ a1, A2 = some a1 := by
            cases A2 with
            | none => have := o29.none_.1; omega
            | some a1 => exact ⟨a1, rfl⟩
          obtain ⟨b1, rfl, hbl, _, hfz, hrow⟩ := hO2.at_ cC_len a1 ha1
          have d1 := hrow _ x hat 0 _ rfl
          rw [show 0 + j * 2 + 0 = j * 2 by omega] at d1
          have df := hfz (j * 2)
          have hwn : IntKind.i64.wrap (N - x.pos) = N - x.pos := IntWalk.i64_in _ (by omega)
          have hi1 : (0 : Int) ≤ (j : Int) := by omega
          have hi2 : (j : Int) < (cn : Int) := by omega
          have HAT := Lib.hid hat
          have HSET := Lib.hid hset
          have HO := Lib.hid hO2
          have HG := Lib.hid hg9
          clear hrow hfz hat hset hkl hO2 hg9 o29
          subst ha1
          go_wp2_with fail
          refine wp_region_qt 11 hmo (by kernel_rfl) ?_
          simp only [List.take_succ_cons, List.take_zero, List.drop_succ_cons, List.drop_zero]
          have q0 := fun d os => cell_regrown t1 d os
          have q1 := fun d os => cell_regrown d1 d os
          repeat (quiet_step (fail))
          refine wpQuiet_nil ?_
          intro w' hb'
          clear q0 q1 hwn t1 t2
          replace d1 := (bc hb' hbl).trans d1
          replace df := (bf hb' hbl).trans df
          go_wp2_with fail
          go_roundw
          case rel =>
            have h1 := (HO.out.call hb').setF cC_len j 0 (x := x) (y := { x with pos := N - x.pos }) (v := .int .i64 (N - x.pos)) HAT.out (by omega) rfl
            rw [HSET.out] at h1
            exact ⟨j + 1, by omega, by go_num, h1, only_set (only_trans HG.out (only_of_below hb' _)) _⟩
          case measure => simp [intOf]; omega
        · obtain rfl : j = cn := by omega
          have hall2 : Hid (mid (fun c : Crest => { c with pos := N - c.pos }) R.cs.reverse j = (revR R).cs) := by rw [HLC.out, mid_all, HN.out]; exact List.map_reverse
          rw [hall2.out] at hO2
          have hX10 := grown_bk hg9 hX9 (o29.off_lt (by omega))
          have hY10 := grown_bk hg9 hY9 (o29.off_lt (by omega))
          have o1T := grown_ow hg9 hO (o29.off_ow hO (by decide))
          have o3T := grown_ow hg9 o39 (o29.off_ow o39 (by decide))
          have hBT : Below w3.heap.size w3 wr := HB9.out.trans (grown_below o29 hg9 hz9)
          obtain ⟨w10, hw10⟩ : ∃ w10, w10 = wr := ⟨_, rfl⟩
          rw [← hw10] at hO2 hTs hX10 hY10 o1T o3T hBT t1 t2 ⊢
          clear hw10 o29 o39 hO hX9 hY9 hTr hg9
          have HBT := Lib.hid hBT
          clear hBT
          have hz10 : w3.heap.size ≤ w10.heap.size := HBT.out.size
          go_wp2_with fail
          go_loopw [81] (fun i wr => ∃ q : Nat, q ≤ jn ∧ i = .int .i64 q ∧ OW jC 3 66 w3.heap.size wr A3 jn c3 (mid (fun c => ⟨N - c.pos, c.arms, c.arms + 1 - c.way⟩) R.js.reverse q) ∧ w10.grownBy wr (A3.map (·.block)))
            (fun i _ => jn - (intOf i).toNat)
          case atStart => exact ⟨0, Nat.zero_le _, rfl, by rw [mid_zero]; exact o3T, World.grownBy.refl w10 _⟩
          case round =>
            obtain ⟨q, hq, rfl, hO3, hg10⟩ := hrel
            have hTu := grown_bk hg10 hTs (o3T.off_bk hTs (by decide))
            clear t1 t2
            have t0 := hTu.cell 0
            have t1 := hTu.cell 1
            have t2 := hTu.cell 2
            simp only [List.getElem?_toArray, List.getElem?_cons_zero, List.getElem?_cons_succ] at t0 t1 t2
            by_cases hlt3 : q < jn
            · have hkl : q < R.js.reverse.length := by rw [← HLJ.out]; exact hlt3
              have hat := mid_at (fun c : Junc => (⟨N - c.pos, c.arms, c.arms + 1 - c.way⟩ : Junc)) R.js.reverse q hkl
              have hset := mid_set (fun c : Junc => (⟨N - c.pos, c.arms, c.arms + 1 - c.way⟩ : Junc)) R.js.reverse q hkl
              have hpk := jbd hv'.out _ (List.mem_reverse.1 (List.getElem_mem hkl))
              rw [← HN.out] at hpk
              generalize R.js.reverse[q]'hkl = x at hat hset hpk
              obtain ⟨a1, ha1⟩ : ∃ a1, A3 = some a1 := by
                cases A3 with
                | none => have := o3T.none_.1; omega
                | some a1 => exact ⟨a1, rfl⟩
              obtain ⟨b1, rfl, hbl, _, hfz, hrow⟩ := hO3.at_ jC_len a1 ha1
              have d0 := hrow _ x hat 0 _ rfl
              have d1 := hrow _ x hat 1 _ rfl
              have d2 := hrow _ x hat 2 _ rfl
              rw [show 0 + q * 3 + 0 = q * 3 by omega] at d0
              rw [show 0 + q * 3 + 1 = q * 3 + 1 by omega] at d1
              rw [show 0 + q * 3 + 2 = q * 3 + 2 by omega] at d2
              have df0 := hfz (q * 3)
              have df2 := hfz (q * 3 + 2)
              have hwn : IntKind.i64.wrap (N - x.pos) = N - x.pos := IntWalk.i64_in _ (by omega)
              have hwa : IntKind.i64.wrap (x.arms + 1) = x.arms + 1 := IntWalk.i64_in _ (by omega)
              have hww : IntKind.i64.wrap (x.arms + 1 - x.way) = x.arms + 1 - x.way := IntWalk.i64_in _ (by omega)
              have hi1 : (0 : Int) ≤ (q : Int) := by omega
              have hi2 : (q : Int) < (jn : Int) := by omega
              have HAT := Lib.hid hat
              have HSET := Lib.hid hset
              have HKL := Lib.hid hkl
              have HO := Lib.hid hO3
              have HG := Lib.hid hg10
              clear hrow hfz hat hset hkl hO3 hg10 o3T
              subst ha1
              go_wp2_with fail
              go_region
              go_wp2_with fail
              go_roundw
              case rel =>
                have hat := HAT.out
                have h1 := HO.out.setF jC_len q 0 (x := x) (y := { x with pos := N - x.pos }) (v := .int .i64 (N - x.pos)) hat (by omega) rfl
                have hml := mid_len (fun c : Junc => (⟨N - c.pos, c.arms, c.arms + 1 - c.way⟩ : Junc)) R.js.reverse q (Nat.le_of_lt HKL.out)
                have hg2 : ((mid (fun c : Junc => (⟨N - c.pos, c.arms, c.arms + 1 - c.way⟩ : Junc)) R.js.reverse q).set q { x with pos := N - x.pos })[q]? = some { x with pos := N - x.pos } := by
                  have := HKL.out
                  rw [List.getElem?_set, if_pos rfl, if_pos (by omega)]
                have h2 := h1.setF jC_len q 2 (x := { x with pos := N - x.pos }) (y := ⟨N - x.pos, x.arms, x.arms + 1 - x.way⟩) (v := .int .i64 (x.arms + 1 - x.way)) hg2 (by omega) rfl
                rw [List.set_set, HSET.out] at h2
                exact ⟨q + 1, by omega, by go_num, h2.drew, only_drew (only_set (only_set HG.out _) _)⟩
              case measure => simp [intOf]; omega
            · obtain rfl : q = jn := by omega
              have hall3 : Hid (mid (fun c : Junc => (⟨N - c.pos, c.arms, c.arms + 1 - c.way⟩ : Junc)) R.js.reverse q = (revR R).js) := by rw [HLJ.out, mid_all, HN.out]; exact List.map_reverse
              rw [hall3.out] at hO3
              have hY11 := grown_bk hg10 hY10 (o3T.off_lt (by omega))
              have o1U := grown_ow hg10 o1T (o3T.off_ow o1T (by decide))
              have o2U := grown_ow hg10 hO2 (o3T.off_ow hO2 (by decide))
              have hBU : Below w3.heap.size w3 wr := HBT.out.trans (grown_below o3T hg10 hz10)
              have hBW := hB3.trans (hBU.mono hB3.size)
              have y0 := hY11.cell 0
              have y1 := hY11.cell 1
              have y2 := hY11.cell 2
              have yf := hY11.frozen
              simp only [List.getElem?_toArray, List.getElem?_cons_zero, List.getElem?_cons_succ] at y0 y1 y2
              have hyl := hY11.lt
              have f1 : ∀ a, A1 = some a → a.block ≠ w.heap.size + 1 := fun a ha => by have := (o1U.lt ha).1; omega
              have f2 : ∀ a, A2 = some a → a.block ≠ w.heap.size + 1 := fun a ha => by have := (o2U.lt ha).1; omega
              have f3 : ∀ a, A3 = some a → a.block ≠ w.heap.size + 1 := fun a ha => by have := (hO3.lt ha).1; omega
              have r1 := (((o1U.setCell (p := ⟨w.heap.size + 1, 0, none⟩) f1 (.slice A1 k c1)).setCell (p := ⟨w.heap.size + 1, 1, none⟩) f1 (.slice A2 j c2)).setCell (p := ⟨w.heap.size + 1, 2, none⟩) f1 (.slice A3 q c3)).drop0 hB3.size
              have r2 := (((o2U.setCell (p := ⟨w.heap.size + 1, 0, none⟩) f2 (.slice A1 k c1)).setCell (p := ⟨w.heap.size + 1, 1, none⟩) f2 (.slice A2 j c2)).setCell (p := ⟨w.heap.size + 1, 2, none⟩) f2 (.slice A3 q c3)).drop0 hB3.size
              have r3 := (((hO3.setCell (p := ⟨w.heap.size + 1, 0, none⟩) f3 (.slice A1 k c1)).setCell (p := ⟨w.heap.size + 1, 1, none⟩) f3 (.slice A2 j c2)).setCell (p := ⟨w.heap.size + 1, 2, none⟩) f3 (.slice A3 q c3)).drop0 hB3.size
              have rB := ((hBW.setCell (p := ⟨w.heap.size + 1, 0, none⟩) (by simp) (.slice A1 k c1)).setCell (p := ⟨w.heap.size + 1, 1, none⟩) (by simp) (.slice A2 j c2)).setCell (p := ⟨w.heap.size + 1, 2, none⟩) (by simp) (.slice A3 q c3)
              have RR := Lib.hid (And.intro (And.intro r1 (And.intro r2 r3)) rB)
              clear r1 r2 r3 rB f1 f2 f3 hO3 o1U o2U hBU hBW hg10
              go_wp2_with fail
              have hYF := ((hY11.set_ 0 (.slice A1 k c1)).set_ 1 (.slice A2 j c2)).set_ 2 (.slice A3 q c3)
              obtain ⟨wF, hwF⟩ : ∃ wF, wF = ((wr.setCell ⟨w.heap.size + 1, 0, none⟩ (.slice A1 k c1)).setCell ⟨w.heap.size + 1, 1, none⟩ (.slice A2 j c2)).setCell ⟨w.heap.size + 1, 2, none⟩ (.slice A3 q c3) := ⟨_, rfl⟩
              rw [← hwF] at hYF RR ⊢
              clear hwF y0 y1 y2 yf hyl hY11
              have z0 := hYF.cell 0
              have z1 := hYF.cell 1
              have z2 := hYF.cell 2
              simp at z0 z1 z2
              refine bodyPost_ret (v := .tuple #[.agg #[.slice A1 k c1, .slice A2 j c2, .slice A3 q c3], .int .i64 0]) (by simp [results, Tryz.results7, go_sem, z0, z1, z2]) rfl ⟨_, _, _, _, _, _, rfl, RR.out.1, RR.out.2⟩
end Go.Proofs.YtcniibngfnkobaaGreatDoor
