/- A drawn region: calls in a chain; one block that floats and is filled by a store that floats too. Any program. -/
import Derived.Test.YtnmipejpjeakbaaGreatDoorPAll
import Derived.Test.YtnmipejpjeakbaaGreatDoorVReg
namespace Go.Proofs.YtnmipejpjeakbaaGreatDoor
open Go.RowKit Go.Sort

section
variable {P : Program}
theorem wp_region_one {id : Nat} {Q : Exit → Act → World → Prop} {a : Act} {w : World} {l : List Oper} (m n1 s1 : Nat) (ks : List Nat) (t1 : TypeId) (zs1 cs1 : Array Value) (d1 x1 : Tmp) (vx : Value) (oa1 os1 : Oper) (hm : P.follows .mixedOrders = true)
    (hlt : n1 < m ∧ s1 < m ∧ s1 ≠ n1 ∧ x1 ≠ d1)
    (hoa1 : l.toArray[n1]? = some oa1) (hda1 : oa1.dst = some d1) (hga1 : oa1.guard = none) (hrun1 : ∀ (a : Act) (w : World), (execOp a.eval oa1).run P w = .ok (.value (.pointer (some ⟨w.heap.size, 0, none⟩))) (w.alloc (.cells zs1 t1)))
    (hos1 : l.toArray[s1]? = some os1) (hds1 : os1.dst = none) (hgs1 : os1.guard = none) (hx1 : (os1.looksAt l.toArray).contains x1 = true) (haf : (os1.after.any fun e => Region.binds .any e && e.on == n1) = true)
    (hrs1 : ∀ (a : Act) (w : World) (b : Nat), a.eval (.tmp d1) = .pointer (some ⟨b, 0, none⟩) → a.eval (.tmp x1) = vx → BK w b t1 zs1 → ∃ w', (execOp a.eval os1).run P w = .ok .skip w' ∧ BK w' b t1 cs1 ∧ Below b w w' ∧ w'.heap.size = w.heap.size ∧ ∀ k, k ≠ b → w'.heap[k]? = w.heap[k]?)
    (hB : (okB .any l.toArray m ks && floatGB l.toArray m n1 s1 oa1) = true)
    (h : wpCG P l.toArray (fun w' => ∃ p : Regrown, w' = grow (redrawn w p.d) p.os) (fun Φ => ∀ x y, Φ x → Below w.heap.size x y → Φ y) (fun i a => s1 = i → a.eval (.tmp x1) = vx ∧ d1 < a.tmps.size) [n1, s1] ks (fun a' Φ => ∀ b1 w', Below w.heap.size w w' → Φ w' → w.heap.size ≤ b1 → BK w' b1 t1 cs1 →
      wpList P l.toArray Q (l.drop m) (a'.put (some d1) (.pointer (some ⟨b1, 0, none⟩))) w') 0 (l.take m) a (fun _ => True)) :
    (Code.region id l.toArray true).wp P Q a w := by
  obtain ⟨q1, q3, q5, q8⟩ := hlt
  obtain ⟨hB1, hB2⟩ := Bool.and_eq_true_iff.1 hB
  have hmn : m < l.length := by
    have := hB1
    simp only [okB, Region.lexTailB, Bool.and_eq_true, decide_eq_true_eq] at this
    have h2 := this.1.1.1.1.2
    simpa using h2
  refine wp_region_chG m [⟨n1, d1, t1, zs1, true, s1, x1, vx, cs1⟩] ks hm hB1 (fun f hf => ?_) ⟨?_, ?_, ?_, ?_, ?_⟩ ?_
  · obtain rfl : f = _ := by simpa using hf
    refine ⟨q1, ⟨oa1, hoa1, hda1, hga1, hrun1, fun j oj h1 h2 h3 h4 => floatGB_spec hB2 j oj h1 h2 h3 (h4 rfl)⟩, fun _ => ⟨q3, q5, os1, hos1, hds1, hgs1, fun cs b e => ?_, by simpa using hx1, ?_, hrs1⟩⟩
    · simp only [okB, Region.lexTailB, Bool.and_eq_true, decide_eq_true_eq] at hB1
      exact Region.noSelect_spec hB1.1.1.1.1.1 s1 os1 cs b hos1 e
    · obtain ⟨e, he, hb⟩ := Array.any_eq_true'.1 haf
      simp only [Bool.and_eq_true, beq_iff_eq] at hb
      exact ⟨e, he, hb.1, hb.2⟩
  · simp
  · simp
  · intro f hf f' hf' _ _ _
    obtain rfl : f = _ := by simpa using hf
    obtain rfl : f' = _ := by simpa using hf'
    rfl
  · intro f hf f' hf' _
    obtain rfl : f = _ := by simpa using hf
    obtain rfl : f' = _ := by simpa using hf'
    exact q5
  · intro f hf f' hf'
    obtain rfl : f = _ := by simpa using hf
    obtain rfl : f' = _ := by simpa using hf'
    exact q8
  · refine wpCG_end (fun i a h f hf hs he => ?_) (fun a' Φ h w' h1 h2 bs h3 h4 => ?_) _ _ _ _ h
    · obtain rfl : f = _ := by simpa using hf
      exact h he
    obtain ⟨h5, h6, h7⟩ := h3
    have hs1l : s1 < l.length := by omega
    have hnow : (⟨n1, d1, t1, zs1, true, s1, x1, vx, cs1⟩ : FG).now (Array.replicate l.toArray.size true) = cs1 := by simp [FG.now, hs1l]
    match bs, h4, h5, h6, h7 with
    | [], h4, _, _, _ => exact absurd (h4 _ (List.mem_cons_self ..)) (by simp)
    | [(f, b)], _, h5, _, _ =>
      obtain ⟨p1, p2, p3⟩ := h5 (f, b) (by simp)
      obtain rfl : f = _ := by simpa using p1
      exact h b w' h1 h2 p2 (by rw [hnow] at p3; exact p3)
    | p :: q :: bs, _, h5, h6, _ =>
      exfalso
      have e1 := (h5 p (by simp)).1
      have e2 := (h5 q (by simp)).1
      simp only [List.mem_cons, List.not_mem_nil, or_false] at e1 e2
      simp [e1, e2] at h6
end
/-- A meaning is stored into a block of its own. -/
theorem store_mean (v0 v1 v2 v3 v4 v5 : Int) (d x : Tmp) (a : Act) (w : World) (b : Nat) (h1 : a.eval (.tmp d) = .pointer (some ⟨b, 0, none⟩)) (h2 : a.eval (.tmp x) = .agg #[.int .i64 v0, .int .i64 v1, .int .i64 v2, .int .i64 v3, .int .i64 v4, .int .i64 v5]) (h3 : BK w b 53 #[.int .i64 0, .int .i64 0, .int .i64 0, .int .i64 0, .int .i64 0, .int .i64 0]) (o : Oper) (ho : o.op = .store 53 (.tmp d) (.tmp x)) :
    ∃ w', (execOp a.eval o).run Tryz.prog w = .ok .skip w' ∧ BK w' b 53 #[.int .i64 v0, .int .i64 v1, .int .i64 v2, .int .i64 v3, .int .i64 v4, .int .i64 v5] ∧ Below b w w' ∧ w'.heap.size = w.heap.size ∧ ∀ k, k ≠ b → w'.heap[k]? = w.heap[k]? := by
  have c0 := h3.cell 0
  have c1 := h3.cell 1
  have c2 := h3.cell 2
  have c3 := h3.cell 3
  have c4 := h3.cell 4
  have c5 := h3.cell 5
  have f := h3.frozen
  have hl := h3.lt
  simp only [List.getElem?_toArray, List.getElem?_cons_zero, List.getElem?_cons_succ] at c0 c1 c2 c3 c4 c5
  refine ⟨(((((w.setCell ⟨b, 0, none⟩ (.int .i64 v0)).setCell ⟨b, 1, none⟩ (.int .i64 v1)).setCell ⟨b, 2, none⟩ (.int .i64 v2)).setCell ⟨b, 3, none⟩ (.int .i64 v3)).setCell ⟨b, 4, none⟩ (.int .i64 v4)).setCell ⟨b, 5, none⟩ (.int .i64 v5), ?_, h3.set6 rfl, below6 (Below.refl b w) (Nat.le_refl _), by simp, fun k hk => ?_⟩
  · unfold execOp
    rw [ho]
    simp only [h1, h2]
    go_simp
  · rw [Below.heap_setCell _ _ _ _ hk, Below.heap_setCell _ _ _ _ hk, Below.heap_setCell _ _ _ _ hk, Below.heap_setCell _ _ _ _ hk, Below.heap_setCell _ _ _ _ hk, Below.heap_setCell _ _ _ _ hk]
end Go.Proofs.YtnmipejpjeakbaaGreatDoor
