/- A region whose head makes three blocks, beside calls (x, y, z := three calls' results). A plain theorem over any program. -/
import Derived.Test.YtknjkcibkejieaaDoorCBReg
namespace Go.Proofs.YtknjkcibkejieaaDoor
open Go.RowKit Go.Sort

section
variable {P : Program}
theorem wp_region_ch3 {id : Nat} {Q : Exit → Act → World → Prop} {a : Act} {w : World} {l : List Oper} (m n1 n2 n3 : Nat) (ks : List Nat) (t1 t2 t3 : TypeId) (zs1 zs2 zs3 : Array Value) (d1 d2 d3 : Tmp) (oa1 oa2 oa3 : Oper) (hm : P.follows .mixedOrders = true) (hn1 : n1 < m) (hn2 : n2 < m) (hn3 : n3 < m) (hne : n1 ≠ n2 ∧ n1 ≠ n3 ∧ n2 ≠ n3) (hd : d1 ≠ d2 ∧ d1 ≠ d3 ∧ d2 ≠ d3)
    (hoa1 : l.toArray[n1]? = some oa1) (hda1 : oa1.dst = some d1) (hga1 : oa1.guard = none) (hrun1 : ∀ (a : Act) (w : World), (execOp a.eval oa1).run P w = .ok (.value (.pointer (some ⟨w.heap.size, 0, none⟩))) (w.alloc (.cells zs1 t1)))
    (hoa2 : l.toArray[n2]? = some oa2) (hda2 : oa2.dst = some d2) (hga2 : oa2.guard = none) (hrun2 : ∀ (a : Act) (w : World), (execOp a.eval oa2).run P w = .ok (.value (.pointer (some ⟨w.heap.size, 0, none⟩))) (w.alloc (.cells zs2 t2)))
    (hoa3 : l.toArray[n3]? = some oa3) (hda3 : oa3.dst = some d3) (hga3 : oa3.guard = none) (hrun3 : ∀ (a : Act) (w : World), (execOp a.eval oa3).run P w = .ok (.value (.pointer (some ⟨w.heap.size, 0, none⟩))) (w.alloc (.cells zs3 t3)))
    (hB : (okB .any l.toArray m ks && (floatB l.toArray m n1 oa1 && (floatB l.toArray m n2 oa2 && floatB l.toArray m n3 oa3))) = true)
    (h : wpC P l.toArray (fun w' => ∃ p : Regrown, w' = grow (redrawn w p.d) p.os) [n1, n2, n3] ks (fun a' Φ => ∀ b1 b2 b3 w', Below w.heap.size w w' → Φ w' → (w.heap.size ≤ b1 ∧ w.heap.size ≤ b2 ∧ w.heap.size ≤ b3) → (b1 ≠ b2 ∧ b1 ≠ b3 ∧ b2 ≠ b3) → BK w' b1 t1 zs1 → BK w' b2 t2 zs2 → BK w' b3 t3 zs3 →
      wpList P l.toArray Q (l.drop m) (((a'.put (some d1) (.pointer (some ⟨b1, 0, none⟩))).put (some d2) (.pointer (some ⟨b2, 0, none⟩))).put (some d3) (.pointer (some ⟨b3, 0, none⟩))) w') 0 (l.take m) a (fun _ => True)) :
    (Code.region id l.toArray true).wp P Q a w := by
  simp only [Bool.and_eq_true] at hB
  obtain ⟨e12, e13, e23⟩ := hne
  obtain ⟨g12, g13, g23⟩ := hd
  have c12 : ∀ (a : Act) x y, (a.put (some d2) x).put (some d1) y = (a.put (some d1) y).put (some d2) x := fun a x y => (Act.put_comm a _ _ (fun d hd' e => by cases hd'; cases e; first | exact g12 rfl | exact g12.symm rfl))
  have c13 : ∀ (a : Act) x y, (a.put (some d3) x).put (some d1) y = (a.put (some d1) y).put (some d3) x := fun a x y => (Act.put_comm a _ _ (fun d hd' e => by cases hd'; cases e; first | exact g13 rfl | exact g13.symm rfl))
  have c23 : ∀ (a : Act) x y, (a.put (some d3) x).put (some d2) y = (a.put (some d2) y).put (some d3) x := fun a x y => (Act.put_comm a _ _ (fun d hd' e => by cases hd'; cases e; first | exact g23 rfl | exact g23.symm rfl))
  refine wp_region_ch0 m [⟨n1, d1, t1, zs1⟩, ⟨n2, d2, t2, zs2⟩, ⟨n3, d3, t3, zs3⟩] ks hm hB.1 (fun f hf => ?_) ?_
  · simp only [List.mem_cons, List.not_mem_nil, or_false] at hf
    rcases hf with rfl | rfl | rfl
    · exact ⟨hn1, oa1, hoa1, hda1, hga1, hrun1, floatB_spec hB.2.1⟩
    · exact ⟨hn2, oa2, hoa2, hda2, hga2, hrun2, floatB_spec hB.2.2.1⟩
    · exact ⟨hn3, oa3, hoa3, hda3, hga3, hrun3, floatB_spec hB.2.2.2⟩
  · refine wpC_end (fun a' Φ h w' h1 h2 bs h3 h4 => ?_) _ _ _ _ h
    obtain ⟨h5, h6, h7⟩ := h3
    match bs, h4, h5, h6, h7 with
    | [], h4, _, _, _ => exact absurd (h4 _ (List.mem_cons_self ..)) (by simp)
    | [p], h4, _, _, _ =>
      exfalso
      have f1 := h4 ⟨n1, d1, t1, zs1⟩ (by simp)
      have f2 := h4 ⟨n2, d2, t2, zs2⟩ (by simp)
      simp only [List.map_cons, List.map_nil, List.mem_singleton] at f1 f2
      exact e12 (f1.trans f2.symm)
    | [p, q], h4, _, _, _ =>
      exfalso
      have f1 := h4 ⟨n1, d1, t1, zs1⟩ (by simp)
      have f2 := h4 ⟨n2, d2, t2, zs2⟩ (by simp)
      have f3 := h4 ⟨n3, d3, t3, zs3⟩ (by simp)
      simp only [List.map_cons, List.map_nil, List.mem_cons, List.not_mem_nil, or_false] at f1 f2 f3
      omega
    | [(f, b), (f', b'), (f'', b'')], _, h5, h6, h7 =>
      obtain ⟨q1, q2, q3⟩ := h5 (f, b) (by simp)
      obtain ⟨r1, r2, r3⟩ := h5 (f', b') (by simp)
      obtain ⟨s1, s2, s3⟩ := h5 (f'', b'') (by simp)
      simp only [List.mem_cons, List.not_mem_nil, or_false] at q1 r1 s1
      simp only [List.map_cons, List.map_nil, List.nodup_cons, List.mem_cons, List.not_mem_nil, or_false, not_or] at h6 h7
      obtain ⟨⟨k1, k2⟩, k3, -⟩ := h6
      obtain ⟨⟨i1, i2⟩, i3, -⟩ := h7
      have done : ∀ x1 x2 x3, (w.heap.size ≤ x1 ∧ w.heap.size ≤ x2 ∧ w.heap.size ≤ x3) → (x1 ≠ x2 ∧ x1 ≠ x3 ∧ x2 ≠ x3) → BK w' x1 t1 zs1 → BK w' x2 t2 zs2 → BK w' x3 t3 zs3 → _ := fun x1 x2 x3 => h x1 x2 x3 w' h1 h2
      rcases q1 with rfl | rfl | rfl <;> rcases r1 with rfl | rfl | rfl <;> first | exact absurd rfl k1 | skip
      all_goals rcases s1 with rfl | rfl | rfl <;> first | exact absurd rfl k2 | exact absurd rfl k3 | skip
      · show wpList P l.toArray Q (l.drop m) (((a'.put (some d3) _).put (some d2) _).put (some d1) _) w'
        rw [c12, c13, c23]
        exact done b b' b'' ⟨q2, r2, s2⟩ ⟨i1, i2, i3⟩ q3 r3 s3
      · show wpList P l.toArray Q (l.drop m) (((a'.put (some d2) _).put (some d3) _).put (some d1) _) w'
        rw [c13, c12]
        exact done b b'' b' ⟨q2, s2, r2⟩ ⟨i2, i1, fun e => i3 e.symm⟩ q3 s3 r3
      · show wpList P l.toArray Q (l.drop m) (((a'.put (some d3) _).put (some d1) _).put (some d2) _) w'
        rw [c13, c23]
        exact done b' b b'' ⟨r2, q2, s2⟩ ⟨fun e => i1 e.symm, i3, i2⟩ r3 q3 s3
      · show wpList P l.toArray Q (l.drop m) (((a'.put (some d1) _).put (some d3) _).put (some d2) _) w'
        rw [c23]
        exact done b'' b b' ⟨s2, q2, r2⟩ ⟨fun e => i2 e.symm, fun e => i3 e.symm, i1⟩ s3 q3 r3
      · show wpList P l.toArray Q (l.drop m) (((a'.put (some d2) _).put (some d1) _).put (some d3) _) w'
        rw [c12]
        exact done b' b'' b ⟨r2, s2, q2⟩ ⟨i3, fun e => i1 e.symm, fun e => i2 e.symm⟩ r3 s3 q3
      · exact done b'' b' b ⟨s2, r2, q2⟩ ⟨fun e => i3 e.symm, fun e => i2 e.symm, fun e => i1 e.symm⟩ s3 r3 q3
    | p :: q :: r :: s :: bs, _, h5, h6, _ =>
      exfalso
      have f1 := (h5 p (by simp)).1
      have f2 := (h5 q (by simp)).1
      have f3 := (h5 r (by simp)).1
      have f4 := (h5 s (by simp)).1
      simp only [List.mem_cons, List.not_mem_nil, or_false] at f1 f2 f3 f4
      simp only [List.map_cons, List.nodup_cons, List.mem_cons, not_or] at h6
      obtain ⟨⟨k1, k2, k3, -⟩, ⟨k4, k5, -⟩, ⟨k6, -⟩, -⟩ := h6
      rcases f1 with f1 | f1 | f1 <;> rcases f2 with f2 | f2 | f2 <;> rcases f3 with f3 | f3 | f3 <;> rcases f4 with f4 | f4 | f4 <;> simp [f1, f2, f3, f4] at k1 k2 k3 k4 k5 k6
variable {ops : Array Oper} {C : World → Prop} {k : Nat} {ns ks : List Nat} {Lq : Act → Fact → Prop} {o : Oper} {rest : List Oper} {a : Act} {Φ : Fact}
/-- An operation of the chain whose guard fails is passed over. -/
theorem wpC_off (h1 : k ∉ ns) (hg : Region.wanted o (yielded ops a.tmps) = false) (h : wpC P ops C ns ks Lq (k + 1) rest (a.put o.dst undef) Φ) : wpC P ops C ns ks Lq k (o :: rest) a Φ := by
  unfold wpC
  rw [if_neg h1, if_neg (by rw [hg]; decide)]
  exact h
end
end Go.Proofs.YtknjkcibkejieaaDoor
