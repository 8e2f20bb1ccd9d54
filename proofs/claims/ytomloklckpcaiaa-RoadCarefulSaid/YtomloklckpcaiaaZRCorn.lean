/- The reference's Corners, walked. -/
import Derived.Test.YtomloklckpcaiaaZCorn
import Derived.Test.YtomloklckpcaiaaZSee
import Derived.Test.YtomloklckpcaiaaZFind
import Derived.Test.YtomloklckpcaiaaZReg
namespace Go.Proofs.Ytomloklckpcaiaa
open Go.RowKit Go.Shelf Go.Sort Go.Proofs

theorem flat_setF {α : Type} {f : α → List Value} {sz : Nat} (hf : ∀ x, (f x).length = sz) : ∀ (xs : List α) (i j : Nat) (x y : α) (v : Value), xs[i]? = some x → j < sz → f y = (f x).set j v → (xs.set i y).flatMap f = (xs.flatMap f).set (i * sz + j) v
  | [], i, _, _, _, _, h, _, _ => by simp at h
  | a :: xs, 0, j, x, y, v, h, hj, hy => by
    simp at h; subst h
    rw [List.set_cons_zero, List.flatMap_cons, List.flatMap_cons, hy, Nat.zero_mul, Nat.zero_add, List.set_append_left _ _ (by rw [hf]; exact hj)]
  | a :: xs, i + 1, j, x, y, v, h, hj, hy => by
    have e : (i + 1) * sz + j = sz + (i * sz + j) := by rw [Nat.succ_mul]; omega
    rw [List.set_cons_succ, List.flatMap_cons, List.flatMap_cons, flat_setF hf xs i j x y v (by simpa using h) hj hy, e, List.set_append_right _ _ (by rw [hf]; omega), hf, Nat.add_sub_cancel_left]
/-- One cell of an element of an own row is written. -/
theorem OW.setF {α : Type} {f : α → List Value} {sz : Nat} {e : TypeId} {base : Nat} {w : World} {b n c : Nat} {xs : List α} (h : OW f sz e base w (some ⟨b, 0, none⟩) n c xs) (hf : ∀ x, (f x).length = sz) (i j : Nat) {x y : α} {v : Value}
    (hx : xs[i]? = some x) (hj : j < sz) (hy : f y = (f x).set j v) : OW f sz e base (w.setCell ⟨b, i * sz + j, none⟩ v) (some ⟨b, 0, none⟩) n c (xs.set i y) := by
  refine ⟨⟨by rw [flat_setF hf xs i j x y v hx hj hy]; simpa using h.1.1, ?_⟩, by simpa using h.2⟩
  rcases h.1.2 with ⟨h3, _⟩ | ⟨g, cap, cur, h3, hb, hg, hn, hc, hs, ht⟩
  · cases h3
  · injection h3 with h3 h4 h5
    injection h3 with h3
    injection h3 with h3
    subst h3 h5
    refine .inr ⟨b, c, cur.setIfInBounds (i * sz + j) v, rfl, hb, ?_, hn, hc, by simpa using hs, ?_⟩
    · simp [World.setCell, Array.getElem?_modify, hg]
    · rw [Array.toList_setIfInBounds, List.take_set, ht, flat_setF hf xs i j x y v hx hj hy]
end Go.Proofs.Ytomloklckpcaiaa

/- The example's road, and what known reads of it. -/
namespace Go.Proofs.Ytomloklckpcaiaa
open Go.RowKit Go.Shelf Go.Sort Go.Proofs

def exR : Road := ⟨[⟨100, 0, 0, 50, 2⟩, ⟨50, 1, 50, 50, 2⟩, ⟨20, 0, 0, 50, 2⟩, ⟨30, 1, 30, 50, 2⟩, ⟨200, 0, 0, 50, 2⟩], [⟨250, 2⟩], []⟩
theorem exR_ok : OK exR := (val_iff _).1 (by decide)
theorem exR_len : sumL exR.ps = 400 := by decide
theorem exR_crns : crns 20 500 exR = [⟨100, 200, 1, 30, 50, 30, 2000⟩] := by kernel_rfl
theorem exR_turn : upt exR.ps 400 - upt exR.ps 125 = 1500 := by decide
theorem exR_at : At exR.ps 150 2 := by unfold At; decide
theorem exR_see : SI exR.ps 500 0 (lim exR 1000 0) 125 := by
  have key : ∀ i : Nat, i < 126 → (-500 ≤ upt exR.ps (i : Int) - upt exR.ps 0 ∧ upt exR.ps (i : Int) - upt exR.ps 0 ≤ 500) := by decide
  refine ⟨by decide, by decide, fun q h0 h1 => ?_, ?_⟩
  · have := key q.toNat (by omega)
    rw [show ((q.toNat : Nat) : Int) = q by omega] at this
    exact this
  · unfold okq; decide
theorem SL.of_bk {α : Type} {f : α → List Value} {sz : Nat} {w : World} {B g : Nat} {t : TypeId} {cs : Array Value} {xs : List α} (hb : BK w g t cs) (hcs : cs.toList = xs.flatMap f) (hf : ∀ x, (f x).length = sz) (hg : g < B) :
    SL f sz w B (some ⟨g, 0, none⟩) xs.length xs := by
  refine ⟨rfl, fun _ => ⟨g, 0, rfl, hg, fun i x hx j v hv => ?_⟩⟩
  rw [hb.cell, ← Array.getElem?_toList, hcs, Nat.zero_add]
  exact flat_at hf xs i x hx j v hv
def exPs : Array Value := #[.int .i64 100, .int .i64 0, .int .i64 0, .int .i64 50, .int .i64 2, .int .i64 50, .int .i64 1, .int .i64 50, .int .i64 50, .int .i64 2, .int .i64 20, .int .i64 0, .int .i64 0, .int .i64 50, .int .i64 2, .int .i64 30, .int .i64 1, .int .i64 30, .int .i64 50, .int .i64 2, .int .i64 200, .int .i64 0, .int .i64 0, .int .i64 50, .int .i64 2]
set_option maxRecDepth 100000 in
set_option maxHeartbeats 1000000 in
theorem Example_any (w : World) :
    Calls Try.prog 52 #[] w fun e w' => e = .returned (.agg #[.slice (some ⟨w.heap.size + 1, 0, none⟩) 5 5, .slice (some ⟨w.heap.size + 2, 0, none⟩) 1 1, .slice none 0 0]) ∧
      RD w' w'.heap.size (some ⟨w.heap.size + 1, 0, none⟩) 5 (some ⟨w.heap.size + 2, 0, none⟩) 1 none 0 exR ∧ Below w.heap.size w w' := by
  go_enter Try.func52, Try.ntmps52
  go_wp2_with fail
  have b1 : BK ((w.alloc (.cells #[.slice (some ⟨w.heap.size + 1, 0, none⟩) 5 5, .slice (some ⟨w.heap.size + 1 + 1, 0, none⟩) 1 1, .slice none 0 0] 26)).alloc (.cells exPs 52)) (w.heap.size + 1) 52 exPs := by
    have := BK.new (w.alloc (.cells #[.slice (some ⟨w.heap.size + 1, 0, none⟩) 5 5, .slice (some ⟨w.heap.size + 1 + 1, 0, none⟩) 1 1, .slice none 0 0] 26)) 52 exPs
    rw [World.size_alloc] at this
    exact this
  have b2 : BK (((w.alloc (.cells #[.slice (some ⟨w.heap.size + 1, 0, none⟩) 5 5, .slice (some ⟨w.heap.size + 1 + 1, 0, none⟩) 1 1, .slice none 0 0] 26)).alloc (.cells exPs 52)).alloc (.cells #[.int .i64 250, .int .i64 2] 87)) (w.heap.size + 2) 87 #[.int .i64 250, .int .i64 2] := by
    have := BK.new ((w.alloc (.cells #[.slice (some ⟨w.heap.size + 1, 0, none⟩) 5 5, .slice (some ⟨w.heap.size + 1 + 1, 0, none⟩) 1 1, .slice none 0 0] 26)).alloc (.cells exPs 52)) 87 #[.int .i64 250, .int .i64 2]
    rw [World.size_alloc, World.size_alloc] at this
    exact this
  refine bodyPost_ret (v := .agg #[.slice (some ⟨w.heap.size + 1, 0, none⟩) 5 5, .slice (some ⟨w.heap.size + 2, 0, none⟩) 1 1, .slice none 0 0]) (by simp [results, Try.results52, go_sem]) rfl ⟨rfl, ⟨?_, ?_, SL.nil_⟩, ?_⟩
  · exact SL.of_bk (xs := exR.ps) (b1.alloc _) rfl pC_len (by simp)
  · exact SL.of_bk (xs := exR.cs) b2 rfl cC_len (by simp)
  · exact (((Below.refl w.heap.size w).alloc (Nat.le_refl _) _).alloc (by simp) _).alloc (by simp; omega) _
set_option maxRecDepth 100000 in
set_option maxHeartbeats 2000000 in
theorem known_any (w : World) : Calls Try.prog 20 #[] w fun e w' => e = .returned (.bool true) ∧ Below w.heap.size w w' := by
  go_enter Try.func20, Try.ntmps20
  go_wp2_with fail
  refine (Example_any _).mono ?_
  rintro e w1 ⟨rfl, hR1, hb1⟩
  obtain ⟨P, hP⟩ : ∃ P, P = some (⟨w.heap.size + 1, 0, none⟩ : Addr) := ⟨_, rfl⟩
  obtain ⟨C, hC⟩ : ∃ C, C = some (⟨w.heap.size + 2, 0, none⟩ : Addr) := ⟨_, rfl⟩
  rw [← hP, ← hC] at hR1 ⊢
  clear hP hC
  have HR1 := Lib.hid hR1
  clear hR1
  go_wp2_with fail
  obtain ⟨W0, hW0⟩ : ∃ W0, W0 = w1.alloc (.cells #[.slice P 5 5, .slice C 1 1, .slice none 0 0] 26) := ⟨_, rfl⟩
  have hb0' : Below w.heap.size w W0 := by rw [hW0]; exact hb1.alloc hb1.size _
  have hX0 : BK W0 w1.heap.size 26 #[.slice P 5 5, .slice C 1 1, .slice none 0 0] := by rw [hW0]; exact BK.new _ _ _
  have hbR0 : Below w1.heap.size w1 W0 := by rw [hW0]; exact (Below.refl _ _).alloc (Nat.le_refl _) _
  rw [← hW0]
  clear hW0
  refine (Length_in _ 5 5 _ 1 1 _ 0 0 exR W0 (HR1.out.grow hbR0 hbR0.size) exR_ok).mono ?_
  rintro e W1 ⟨rfl, hk0⟩
  rw [exR_len]
  have hbR1 := hbR0.trans (hk0.mono hbR0.size)
  have hb1' := hb0'.trans (hk0.mono hb0'.size)
  have hX1 := hX0.below hk0 hX0.lt
  have x0 := hX1.cell 0
  have x1 := hX1.cell 1
  have x2 := hX1.cell 2
  simp only [List.getElem?_toArray, List.getElem?_cons_zero, List.getElem?_cons_succ] at x0 x1 x2
  go_wp2_with fail
  clear x0 x1 x2
  refine (Find_in 150 2 _ 5 5 _ 1 1 _ 0 0 exR W1 (HR1.out.grow hbR1 hbR1.size) exR_ok exR_at).mono ?_
  rintro e W2 ⟨rfl, hk1⟩
  rw [show (150 : Int) - sumL (exR.ps.take 2) = 0 by decide]
  have hbR2 := hbR1.trans (hk1.mono hbR1.size)
  have hb2' := hb1'.trans (hk1.mono hb1'.size)
  have hX2 := hX1.below hk1 hX1.lt
  have x0 := hX2.cell 0
  have x1 := hX2.cell 1
  have x2 := hX2.cell 2
  simp only [List.getElem?_toArray, List.getElem?_cons_zero, List.getElem?_cons_succ] at x0 x1 x2
  go_wp2_with fail
  clear x0 x1 x2
  refine (Turning_in 125 400 _ 5 5 _ 1 1 _ 0 0 exR W2 (HR1.out.grow hbR2 hbR2.size) exR_ok (by decide) (by decide) (by decide)).mono ?_
  rintro e W3 ⟨rfl, hk2⟩
  rw [exR_turn]
  have hbR3 := hbR2.trans (hk2.mono hbR2.size)
  have hb3' := hb2'.trans (hk2.mono hb2'.size)
  have hX3 := hX2.below hk2 hX2.lt
  have x0 := hX3.cell 0
  have x1 := hX3.cell 1
  have x2 := hX3.cell 2
  simp only [List.getElem?_toArray, List.getElem?_cons_zero, List.getElem?_cons_succ] at x0 x1 x2
  go_wp2_with fail
  clear x0 x1 x2
  refine (Corners_in 20 500 _ 5 5 _ 1 1 _ 0 0 exR W3 (HR1.out.grow hbR3 hbR3.size) exR_ok (by decide)).mono ?_
  rintro e W4 ⟨A, n, c, rfl, hs, hk3⟩
  replace hs := hs.sl kC_len
  rw [exR_crns] at hs
  obtain ⟨cb, co, rfl, hcb, c0, c1, c2, c3, c4, c5, c6⟩ := KS.at_ hs (k := 0) (by simp)
  obtain rfl : n = 1 := hs.1
  simp only [List.getElem_cons_zero, Nat.zero_mul, Nat.add_zero] at c0 c1 c2 c3 c4 c5 c6
  have hbR4 := hbR3.trans (hk3.mono hbR3.size)
  have hb4' := hb3'.trans (hk3.mono hb3'.size)
  have hX4 := hX3.below hk3 hX3.lt
  have x0 := hX4.cell 0
  have x1 := hX4.cell 1
  have x2 := hX4.cell 2
  simp only [List.getElem?_toArray, List.getElem?_cons_zero, List.getElem?_cons_succ] at x0 x1 x2
  go_wp2_with fail
  clear x0 x1 x2
  refine (Sight_in 500 1000 0 125 _ 5 5 _ 1 1 _ 0 0 exR W4 (HR1.out.grow hbR4 hbR4.size) exR_ok (by decide) (by decide) (by decide) exR_see).mono ?_
  rintro e W5 ⟨rfl, hk4⟩
  replace c0 := (bc hk4 hcb).trans c0
  replace c1 := (bc hk4 hcb).trans c1
  replace c2 := (bc hk4 hcb).trans c2
  replace c3 := (bc hk4 hcb).trans c3
  replace c4 := (bc hk4 hcb).trans c4
  replace c5 := (bc hk4 hcb).trans c5
  replace c6 := (bc hk4 hcb).trans c6
  have hbR5 := hbR4.trans (hk4.mono hbR4.size)
  have hb5' := hb4'.trans (hk4.mono hb4'.size)
  have hX5 := hX4.below hk4 hX4.lt
  have x0 := hX5.cell 0
  have x1 := hX5.cell 1
  have x2 := hX5.cell 2
  simp only [List.getElem?_toArray, List.getElem?_cons_zero, List.getElem?_cons_succ] at x0 x1 x2
  go_wp2_with fail
  clear x0 x1 x2
  go_ret
  exact ⟨rfl, hb5'⟩
end Go.Proofs.Ytomloklckpcaiaa

/- A region whose head makes one block that floats and is filled by a store that floats too (x := a call's result, beside other calls). A plain theorem over any program, and the store of a road. -/
namespace Go.Proofs.Ytomloklckpcaiaa
open Go.RowKit Go.Shelf Go.Sort Go.Proofs

section
variable {P : Program}
theorem wp_region_one {id : Nat} {Q : Exit → Act → World → Prop} {a : Act} {w : World} {l : List Oper} (m n1 s1 : Nat) (ks : List Nat) (t1 : TypeId) (zs1 cs1 : Array Value) (d1 x1 : Tmp) (vx : Value) (oa1 os1 : Oper) (hm : P.follows .mixedOrders = true)
    (hlt : n1 < m ∧ s1 < m ∧ s1 ≠ n1 ∧ x1 ≠ d1)
    (hoa1 : l.toArray[n1]? = some oa1) (hda1 : oa1.dst = some d1) (hga1 : oa1.guard = none) (hrun1 : ∀ (a : Act) (w : World), (execOp a.eval oa1).run P w = .ok (.value (.pointer (some ⟨w.heap.size, 0, none⟩))) (w.alloc (.cells zs1 t1)))
    (hos1 : l.toArray[s1]? = some os1) (hds1 : os1.dst = none) (hgs1 : os1.guard = none) (hx1 : (os1.looksAt l.toArray).contains x1 = true) (haf : (os1.after.any fun e => Region.binds .any e && e.on == n1) = true)
    (hrs1 : ∀ (a : Act) (w : World) (b : Nat), a.eval (.tmp d1) = .pointer (some ⟨b, 0, none⟩) → a.eval (.tmp x1) = vx → BK w b t1 zs1 → ∃ w', (execOp a.eval os1).run P w = .ok .skip w' ∧ BK w' b t1 cs1 ∧ Below b w w' ∧ w'.heap.size = w.heap.size ∧ ∀ k, k ≠ b → w'.heap[k]? = w.heap[k]?)
    (hB : (okB .any l.toArray m ks && floatGB l.toArray m n1 s1 oa1) = true)
    (h : wpCG P l.toArray (fun w' => ∃ p : Regrown, w' = grow (redrawn w p.d) p.os) (fun Φ => ∀ x y, Φ x → Below w.heap.size x y → Φ y) (fun i a => s1 = i → a.eval (.tmp x1) = vx ∧ d1 < a.tmps.size) [n1, s1] ks (fun a' Φ => ∀ b1 w', Below w.heap.size w w' → Φ w' → w.heap.size ≤ b1 → BK w' b1 t1 cs1 →
      wpList P l.toArray Q (l.drop m) (a'.put (some d1) (.pointer (some ⟨b1, 0, none⟩))) w') 0 (l.take m) a (fun _ => True)) :
    (Code.region id l.toArray true).wp P Q a w := by
  obtain ⟨q1, q3, q5, q8⟩ := hlt
  obtain ⟨hB1, hB2⟩ := Bool.and_eq_true_iff.1 hB
  have hmn : m < l.length := by
    have := hB1
    simp only [okB, Region.lexTailB, Bool.and_eq_true, decide_eq_true_eq] at this
    have h2 := this.1.1.1.1.2
    simpa using h2
  refine wp_region_chG m [⟨n1, d1, t1, zs1, true, s1, x1, vx, cs1⟩] ks hm hB1 (fun f hf => ?_) ⟨?_, ?_, ?_, ?_, ?_⟩ ?_
  · simp only [List.mem_cons, List.not_mem_nil, or_false] at hf
    subst hf
    refine ⟨q1, ⟨oa1, hoa1, hda1, hga1, hrun1, fun j oj h1 h2 h3 h4 => floatGB_spec hB2 j oj h1 h2 h3 (h4 rfl)⟩, fun _ => ⟨q3, q5, os1, hos1, hds1, hgs1, fun cs b e => ?_, by simpa using hx1, ?_, hrs1⟩⟩
    · simp only [okB, Region.lexTailB, Bool.and_eq_true, decide_eq_true_eq] at hB1
      exact Region.noSelect_spec hB1.1.1.1.1.1 s1 os1 cs b hos1 e
    · obtain ⟨e, he, hb⟩ := Array.any_eq_true'.1 haf
      simp only [Bool.and_eq_true, beq_iff_eq] at hb
      exact ⟨e, he, hb.1, hb.2⟩
  · simp
  · simp
  · intro f hf f' hf' h1 h2 _
    simp only [List.mem_cons, List.not_mem_nil, or_false] at hf hf'
    subst hf; subst hf'; rfl
  · intro f hf f' hf' h1
    simp only [List.mem_cons, List.not_mem_nil, or_false] at hf hf'
    subst hf; subst hf'; exact q5
  · intro f hf f' hf'
    simp only [List.mem_cons, List.not_mem_nil, or_false] at hf hf'
    subst hf; subst hf'; exact q8
  · refine wpCG_end (fun i a h f hf hs he => ?_) (fun a' Φ h w' h1 h2 bs h3 h4 => ?_) _ _ _ _ h
    · simp only [List.mem_cons, List.not_mem_nil, or_false] at hf
      subst hf
      exact h he
    obtain ⟨h5, h6, h7⟩ := h3
    have hs1l : s1 < l.length := by omega
    have hnow : (⟨n1, d1, t1, zs1, true, s1, x1, vx, cs1⟩ : FG).now (Array.replicate l.toArray.size true) = cs1 := by simp [FG.now, hs1l]
    match bs, h4, h5, h6, h7 with
    | [], h4, _, _, _ => exact absurd (h4 _ (List.mem_cons_self ..)) (by simp)
    | [(f, b)], _, h5, _, _ =>
      obtain ⟨p1, p2, p3⟩ := h5 (f, b) (by simp)
      simp only [List.mem_cons, List.not_mem_nil, or_false] at p1
      subst p1
      exact h b w' h1 h2 p2 (by rw [hnow] at p3; exact p3)
    | p :: q :: bs, _, h5, h6, _ =>
      exfalso
      have e1 := (h5 p (by simp)).1
      have e2 := (h5 q (by simp)).1
      simp only [List.mem_cons, List.not_mem_nil, or_false] at e1 e2
      simp [e1, e2] at h6
end
end Go.Proofs.Ytomloklckpcaiaa
