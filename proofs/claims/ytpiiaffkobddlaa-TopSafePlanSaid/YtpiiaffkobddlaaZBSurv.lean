/- surveys: two surveys, measured, or the error. -/
import Derived.Test.YtpiiaffkobddlaaZBBackM
import Derived.Test.YtpiiaffkobddlaaZBStr
import Derived.Test.YtpiiaffkobddlaaZBCorn
import Derived.Test.YtpiiaffkobddlaaZBFind
import Derived.Test.YtpiiaffkobddlaaZBReg
import Derived.Test.YtpiiaffkobddlaaZBConc
namespace Go.Proofs.Ytpiiaffkobddlaa
open Go.RowKit Go.Shelf Go.Sort Go.Proofs

set_option maxRecDepth 100000 in
set_option maxHeartbeats 4000000 in
theorem surveys_in (pa : Option Addr) (pn pc : Nat) (ca : Option Addr) (cn cc : Nat) (ja : Option Addr) (jn jc : Nat) (R : Road) (pa2 : Option Addr) (pn2 pc2 : Nat) (ca2 : Option Addr) (cn2 cc2 : Nat) (ja2 : Option Addr) (jn2 jc2 : Nat) (R2 : Road) (w : World)
    (h : RD w w.heap.size pa pn ca cn ja jn R) (h2 : RD w w.heap.size pa2 pn2 ca2 cn2 ja2 jn2 R2) (hv : OK R) (hv2 : OK R2) :
    Calls Try.prog 18 #[.agg #[.slice pa pn pc, .slice ca cn cc, .slice ja jn jc], .agg #[.slice pa2 pn2 pc2, .slice ca2 cn2 cc2, .slice ja2 jn2 jc2]] w fun e w' =>
      ((sumL R.ps = sumL R2.ps → ∃ g ba bq g2 ba2 bq2, e = .returned (.tuple #[.pointer (some ⟨g, 0, none⟩), .pointer (some ⟨g2, 0, none⟩), .int .i64 0]) ∧ MS w' w'.heap.size g pa pn pc ca cn cc ja jn jc ba bq R ∧ MS w' w'.heap.size g2 pa2 pn2 pc2 ca2 cn2 cc2 ja2 jn2 jc2 ba2 bq2 R2) ∧
       (¬ sumL R.ps = sumL R2.ps → e = .returned (.tuple #[.pointer none, .pointer none, .int .i64 2]))) ∧ Below w.heap.size w w' := by
  have hR := Lib.hid h
  have hR2 := Lib.hid h2
  have hv' := Lib.hid hv
  have hv2' := Lib.hid hv2
  have hmo : Try.prog.follows .mixedOrders = true := by kernel_rfl
  have hpn : pn ≤ 2000 := by rw [h.p.1]; exact hv.p2
  have hpn2 : pn2 ≤ 2000 := by rw [h2.p.1]; exact hv2.p2
  have hc := Lib.hid (chk_ok hv)
  have hc2 := Lib.hid (chk_ok hv2)
  clear h h2 hv hv2
  obtain ⟨W0, hW0⟩ : ∃ W0, W0 = (w.alloc (.cells #[.slice pa pn pc, .slice ca cn cc, .slice ja jn jc] 26)).alloc (.cells #[.slice pa2 pn2 pc2, .slice ca2 cn2 cc2, .slice ja2 jn2 jc2] 26) := ⟨_, rfl⟩
  have hB0 : Below w.heap.size w W0 := by rw [hW0]; exact ((Below.refl w.heap.size w).alloc (Nat.le_refl _) _).alloc (by simp) _
  have hX0 : BK W0 w.heap.size 26 #[.slice pa pn pc, .slice ca cn cc, .slice ja jn jc] := by rw [hW0]; exact (BK.new w _ _).alloc _
  have hY0 : BK W0 (w.heap.size + 1) 26 #[.slice pa2 pn2 pc2, .slice ca2 cn2 cc2, .slice ja2 jn2 jc2] := by rw [hW0]; have := BK.new (w.alloc (.cells #[.slice pa pn pc, .slice ca cn cc, .slice ja jn jc] 26)) 26 #[.slice pa2 pn2 pc2, .slice ca2 cn2 cc2, .slice ja2 jn2 jc2]; rw [World.size_alloc] at this; exact this
  go_enter Try.func18, Try.ntmps18
  go_wp2_with fail
  rw [← hW0]
  clear hW0
  refine (Check_any _ _ _ _ _ _ _ _ _ R _ (hR.out.grow hB0 hB0.size)).mono ?_
  rintro e W1 ⟨rfl, hk0⟩
  rw [hc.out]
  have hB1 := hB0.trans (hk0.mono hB0.size)
  have hX1 := hX0.below hk0 hX0.lt
  have hY1 := hY0.below hk0 hY0.lt
  have y0 := hY1.cell 0
  have y1 := hY1.cell 1
  have y2 := hY1.cell 2
  simp only [List.getElem?_toArray, List.getElem?_cons_zero, List.getElem?_cons_succ] at y0 y1 y2
  go_wp2_with fail
  clear y0 y1 y2
  refine (Check_any _ _ _ _ _ _ _ _ _ R2 _ (hR2.out.grow hB1 hB1.size)).mono ?_
  rintro e W2 ⟨rfl, hk1⟩
  rw [hc2.out]
  have hB2 := hB1.trans (hk1.mono hB1.size)
  have hX2 := hX1.below hk1 hX1.lt
  have hY2 := hY1.below hk1 hY1.lt
  have x0 := fun d os => cell_regrown (hX2.cell 0) d os
  have x1 := fun d os => cell_regrown (hX2.cell 1) d os
  have x2 := fun d os => cell_regrown (hX2.cell 2) d os
  have y0 := fun d os => cell_regrown (hY2.cell 0) d os
  have y1 := fun d os => cell_regrown (hY2.cell 1) d os
  have y2 := fun d os => cell_regrown (hY2.cell 2) d os
  go_wp2_with fail
  refine wp_region_ch 4 [1, 3] hmo (by kernel_rfl) ?_
  simp only [List.take_succ_cons, List.take_zero, List.drop_succ_cons, List.drop_zero]
  repeat (refine wpC_q (by decide) (by decide) (fun K hK => ?_); go_simp; refine hK _ ?_; clear hK K)
  refine wpC_c (ι := Nat) 44 #[.agg #[.slice pa pn pc, .slice ca cn cc, .slice ja jn jc]] (fun g => .pointer (some ⟨g, 0, none⟩)) (fun g x => ∃ ba bq, MS x x.heap.size g pa pn pc ca cn cc ja jn jc ba bq R) (by decide) (by decide) rfl (fun w => by go_simp) stable_true (fun g x y ⟨ba, bq, hm⟩ hb => ⟨ba, bq, hm.grow hb hb.size⟩) (fun W hW _ => ?_) (fun g1 hs1 => ?_)
  · obtain ⟨p, rfl⟩ := hW
    have hb := below_regrown W2 p.d p.os
    have hb' := hB2.trans (hb.mono hB2.size)
    refine (measure_any pa pn pc ca cn cc ja jn jc R _ (hR.out.grow hb' hb'.size) hv'.out.pk (by omega)).mono ?_
    rintro e w' ⟨g, ba, bq, rfl, hM, _, hbl⟩
    exact ⟨g, rfl, ⟨ba, bq, hM⟩, hbl⟩
  repeat (refine wpC_q (by decide) (by decide) (fun K hK => ?_); go_simp; refine hK _ ?_; clear hK K)
  refine wpC_c (ι := Nat) 44 #[.agg #[.slice pa2 pn2 pc2, .slice ca2 cn2 cc2, .slice ja2 jn2 jc2]] (fun g => .pointer (some ⟨g, 0, none⟩)) (fun g x => ∃ ba bq, MS x x.heap.size g pa2 pn2 pc2 ca2 cn2 cc2 ja2 jn2 jc2 ba bq R2) (by decide) (by decide) rfl (fun w => by go_simp) hs1 (fun g x y ⟨ba, bq, hm⟩ hb => ⟨ba, bq, hm.grow hb hb.size⟩) (fun W hW _ => ?_) (fun g2 hs2 => ?_)
  · obtain ⟨p, rfl⟩ := hW
    have hb := below_regrown W2 p.d p.os
    have hb' := hB2.trans (hb.mono hB2.size)
    refine (measure_any pa2 pn2 pc2 ca2 cn2 cc2 ja2 jn2 jc2 R2 _ (hR2.out.grow hb' hb'.size) hv2'.out.pk (by omega)).mono ?_
    rintro e w' ⟨g, ba, bq, rfl, hM, _, hbl⟩
    exact ⟨g, rfl, ⟨ba, bq, hM⟩, hbl⟩
  repeat (refine wpC_q (by decide) (by decide) (fun K hK => ?_); go_simp; refine hK _ ?_; clear hK K)
  refine wpC_nil ?_
  intro W3 hb3 hΦ
  obtain ⟨⟨-, ba, bq, hM⟩, ba2, bq2, hM2⟩ := hΦ
  clear x0 x1 x2 y0 y1 y2 hs1 hs2
  have hB3 := hB2.trans (hb3.mono hB2.size)
  go_wp2_with fail
  refine (mlength_any _ _ _ _ _ _ _ _ _ _ _ _ R _ _ hM (by omega)).mono ?_
  rintro e W4' ⟨rfl, nd, hw4⟩
  obtain ⟨W4, hw4e⟩ : ∃ W4, W4 = W4' := ⟨_, rfl⟩
  rw [← hw4e] at hw4 ⊢
  have hk4 : Below W3.heap.size W3 W4 := by rw [hw4]; exact below_drewN (Below.refl _ _) _
  clear hw4 hw4e
  have hM4 := hM.grow hk4 hk4.size
  have hM24 := hM2.grow hk4 hk4.size
  have hB4 := hB3.trans (hk4.mono hB3.size)
  go_wp2_with fail
  refine (mlength_any _ _ _ _ _ _ _ _ _ _ _ _ R2 _ _ hM24 (by omega)).mono ?_
  rintro e W5' ⟨rfl, nd, hw5⟩
  obtain ⟨W5, hw5e⟩ : ∃ W5, W5 = W5' := ⟨_, rfl⟩
  rw [← hw5e] at hw5 ⊢
  have hk5 : Below W4.heap.size W4 W5 := by rw [hw5]; exact below_drewN (Below.refl _ _) _
  clear hw5 hw5e
  have hB5 := hB4.trans (hk5.mono hB4.size)
  have hM5 := hM4.grow hk5 hk5.size
  have hM25 := hM24.grow hk5 hk5.size
  by_cases he : sumL R.ps = sumL R2.ps
  · have HH := Lib.hid (And.intro hM5 (And.intro hM25 hB5))
    have HE := Lib.hid he
    clear hM5 hM25 hM4 hM24 hM hM2
    go_wp2_with fail
    go_ret3
    exact ⟨⟨fun _ => ⟨g1, ba, bq, g2, ba2, bq2, rfl, HH.out.1, HH.out.2.1⟩, fun h => absurd HE.out h⟩, HH.out.2.2⟩
  · have HE := Lib.hid he
    clear hM5 hM25 hM4 hM24 hM hM2
    go_wp2_with fail
    go_ret3
    exact ⟨⟨fun h => absurd h HE.out, fun _ => rfl⟩, hB5⟩
end Go.Proofs.Ytpiiaffkobddlaa

/- road.Compare: where two surveys differ, by stretches. -/
namespace Go.Proofs.Ytpiiaffkobddlaa
open Go.RowKit Go.Shelf Go.Sort Go.Proofs

attribute [local go_sem] Oper.semAt_some

/-- A piece is stored in a block made for it. -/
theorem store_piece (p : Piece) (d x : Tmp) (a : Act) (w : World) (b : Nat) (h1 : a.eval (.tmp d) = .pointer (some ⟨b, 0, none⟩)) (h2 : a.eval (.tmp x) = .agg #[.int .i64 p.len, .int .i64 p.turn, .int .i64 p.rad, .int .i64 p.wid, .int .i64 p.sur]) (h3 : BK w b 53 #[.int .i64 0, .int .i64 0, .int .i64 0, .int .i64 0, .int .i64 0]) (o : Oper) (ho : o.op = .store 53 (.tmp d) (.tmp x)) :
    ∃ w', (execOp a.eval o).run Try.prog w = .ok .skip w' ∧ BK w' b 53 #[.int .i64 p.len, .int .i64 p.turn, .int .i64 p.rad, .int .i64 p.wid, .int .i64 p.sur] ∧ Below b w w' ∧ w'.heap.size = w.heap.size ∧ ∀ k, k ≠ b → w'.heap[k]? = w.heap[k]? := by
  have c0 := h3.cell 0
  have c1 := h3.cell 1
  have c2 := h3.cell 2
  have c3 := h3.cell 3
  have c4 := h3.cell 4
  have f := h3.frozen
  have hl := h3.lt
  simp only [List.getElem?_toArray, List.getElem?_cons_zero, List.getElem?_cons_succ] at c0 c1 c2 c3 c4
  refine ⟨((((w.setCell ⟨b, 0, none⟩ (.int .i64 p.len)).setCell ⟨b, 1, none⟩ (.int .i64 p.turn)).setCell ⟨b, 2, none⟩ (.int .i64 p.rad)).setCell ⟨b, 3, none⟩ (.int .i64 p.wid)).setCell ⟨b, 4, none⟩ (.int .i64 p.sur), ?_, ((((h3.set_ 0 _).set_ 1 _).set_ 2 _).set_ 3 _).set_ 4 _, ((((((Below.refl b w).setCell (Nat.le_refl _) _).setCell (Nat.le_refl _) _).setCell (Nat.le_refl _) _).setCell (Nat.le_refl _) _).setCell (Nat.le_refl _) _), by simp, fun k hk => ?_⟩
  · unfold execOp
    rw [ho]
    simp only [h1, h2]
    go_simp
  · rw [Below.heap_setCell _ _ _ _ hk, Below.heap_setCell _ _ _ _ hk, Below.heap_setCell _ _ _ _ hk, Below.heap_setCell _ _ _ _ hk, Below.heap_setCell _ _ _ _ hk]
/-- A frame gets a name. -/
theorem wpIn_named {F : Fence} {n : Nat} {P : Program} {c : Code} {Q : Exit → Act → World → Prop} {a : Act} {w : World} (h : ∀ a0, a0 = a → c.wpIn F n P Q a0 w) : c.wpIn F n P Q a w := h a rfl
theorem owg_own {α β : Type} (B g base : Nat) (t e : TypeId) (cf : α → List Value) (sz : Nat) (f : β → List α) : OwnFrom B (fun s W => ∃ A n c, BK W g t #[.slice A n c] ∧ OW cf sz e base W A n c (f s)) := by
  intro s W W' row hs hg hr
  obtain ⟨A, n, c, h1, h2⟩ := hs
  refine ⟨A, n, c, bk_own B g t (fun _ : Unit => _) () W W' row h1 hg hr, h2.keep (fun b hb => hg.block b.block (h2.lt hb).2 (fun e => ?_))⟩
  obtain ⟨_, o, ho, hc⟩ := hr _ e.symm
  subst hb
  rcases h2.1.2 with ⟨h3, _⟩ | ⟨g', cap, cur, h3, _, hg', _⟩
  · cases h3
  · injection h3 with h3
    injection h3 with h3
    subst h3
    rw [hg'] at ho
    cases ho
    cases hc
end Go.Proofs.Ytpiiaffkobddlaa

/- road.Compare: the error. -/
namespace Go.Proofs.Ytpiiaffkobddlaa
open Go.RowKit Go.Shelf Go.Sort Go.Proofs

end Go.Proofs.Ytpiiaffkobddlaa

/- hairpinref01.Part, walked. -/
namespace Go.Proofs.Ytpiiaffkobddlaa
open Go.RowKit Go.Shelf Go.Sort Go.Proofs

/-- A store elsewhere. -/
theorem JB.off {tR tP tC tJ : TypeId} {base : Nat} {w : World} {tb : Nat} {A1 : Option Addr} {n1 c1 : Nat} {ps : List Piece} {A2 : Option Addr} {n2 c2 : Nat} {cs : List Crest} {A3 : Option Addr} {n3 c3 : Nat} {js : List Junc}
    (h : JB tR tP tC tJ base w tb A1 n1 c1 ps A2 n2 c2 cs A3 n3 c3 js) {p : Addr} (hb : tb ≠ p.block) (h1 : ∀ a, A1 = some a → a.block ≠ p.block) (h2 : ∀ a, A2 = some a → a.block ≠ p.block) (h3 : ∀ a, A3 = some a → a.block ≠ p.block) (v : Value) :
    JB tR tP tC tJ base (w.setCell p v) tb A1 n1 c1 ps A2 n2 c2 cs A3 n3 c3 js :=
  ⟨h.b.far hb v, h.p.setCell h1 v, h.c.setCell h2 v, h.j.setCell h3 v⟩
end Go.Proofs.Ytpiiaffkobddlaa

/- road.Part, walked. -/
namespace Go.Proofs.Ytpiiaffkobddlaa
open Go.RowKit Go.Shelf Go.Sort Go.Proofs

attribute [local go_sem] Oper.semAt_some

/-- The record of deferred calls stays. -/
def DK (w : World) (D : Nat) : Prop := w.heap[D]? = some (.deferred (some []))
theorem DK.lt {w : World} {D : Nat} (h : DK w D) : D < w.heap.size := (Array.getElem?_eq_some_iff.1 h).1
theorem DK.alloc {w : World} {D : Nat} (h : DK w D) (o : Obj) : DK (w.alloc o) D := (Below.heap_alloc w o D h.lt).trans h
theorem DK.far {w : World} {D : Nat} (h : DK w D) {p : Addr} (hp : D ≠ p.block) (u : Value) : DK (w.setCell p u) D := (Below.heap_setCell w p u D hp).trans h
theorem DK.below {w w' : World} {D B : Nat} (h : DK w D) (hb : Below B w w') (hg : D < B) : DK w' D := (hb.block D hg).trans h
theorem DK.ne_row {α : Type} {f : α → List Value} {sz : Nat} {e : TypeId} {base : Nat} {w : World} {D : Nat} {A : Option Addr} {n c : Nat} {l : List α} (h : DK w D) (ho : OW f sz e base w A n c l) : ∀ g, A = some g → g.block ≠ D := fun g hg he => by
  subst hg
  rcases ho.1.2 with ⟨h3, _⟩ | ⟨g', cap, cur, h3, _, hg', _⟩
  · cases h3
  · injection h3 with h3
    injection h3 with h3
    subst h3
    unfold DK at h
    rw [show D = g' from he.symm, hg'] at h
    cases h
end Go.Proofs.Ytpiiaffkobddlaa
