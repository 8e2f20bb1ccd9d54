/- The way back, plainly: the corners of a reversed road. No program in sight. -/
import Derived.Test.YtomloklckpcaiaaZCorn
import Derived.Test.YtomloklckpcaiaaZFind
import Derived.Test.YtomloklckpcaiaaZRev
import Derived.Test.YtomloklckpcaiaaZReg
import Derived.Test.YtomloklckpcaiaaZPG
import Derived.Test.YtomloklckpcaiaaZRCorn
namespace Go.Proofs.Ytomloklckpcaiaa
open Go.RowKit Go.Proofs

def neg (p : Piece) : Piece := { p with turn := -p.turn }
end Go.Proofs.Ytomloklckpcaiaa

/- road.Reverse, walked. -/
namespace Go.Proofs.Ytomloklckpcaiaa
open Go.RowKit Go.Shelf Go.Sort Go.Proofs

section
variable {α β : Type} {f : α → List Value} {f' : β → List Value} {sz sz' : Nat} {e e' : TypeId} {base base' : Nat} {w w' : World} {A A' : Option Addr} {n c n' c' : Nat} {xs : List α} {ys : List β}
/-- Rows of different element types never share a block. -/
theorem OW.ty (h : OW f sz e base w A n c xs) {a : Addr} (ha : A = some a) : ∃ cur, w.heap[a.block]? = some (.cells cur e (0, 0)) := by
  subst ha
  rcases h.1.2 with ⟨h3, _⟩ | ⟨g', cap, cur, h3, _, hg', _⟩
  · cases h3
  · injection h3 with h3
    injection h3 with h3
    subst h3
    exact ⟨cur, hg'⟩
theorem OW.ne (h : OW f sz e base w A n c xs) (h' : OW f' sz' e' base' w A' n' c' ys) (hne : e ≠ e') {a a' : Addr} (ha : A = some a) (ha' : A' = some a') : a.block ≠ a'.block := by
  intro q
  obtain ⟨c1, h1⟩ := h.ty ha
  obtain ⟨c2, h2⟩ := h'.ty ha'
  rw [q, h2] at h1
  injection h1 with h1
  injection h1 with _ h1
  exact hne h1.symm
theorem BK.ne_row (hb : BK w n' e' #[] ∨ ∃ cs, BK w n' e' cs) (h : OW f sz e base w A n c xs) (hne : e ≠ e') {a : Addr} (ha : A = some a) : a.block ≠ n' := by
  intro q
  obtain ⟨c1, h1⟩ := h.ty ha
  rcases hb with hb | ⟨cs, hb⟩
  · rw [q, show w.heap[n']? = _ from hb] at h1
    injection h1 with h1
    injection h1 with _ h1
    exact hne h1.symm
  · rw [q, show w.heap[n']? = _ from hb] at h1
    injection h1 with h1
    injection h1 with _ h1
    exact hne h1.symm
/-- A list whose first k elements are changed. -/
def mid (g : α → α) (l : List α) (k : Nat) : List α := (l.take k).map g ++ l.drop k
end

end Go.Proofs.Ytomloklckpcaiaa

/- surveys: two surveys, measured, or the error. -/
namespace Go.Proofs.Ytomloklckpcaiaa
open Go.RowKit Go.Shelf Go.Sort Go.Proofs

set_option maxRecDepth 100000 in
set_option maxHeartbeats 4000000 in
theorem surveys_in (pa : Option Addr) (pn pc : Nat) (ca : Option Addr) (cn cc : Nat) (ja : Option Addr) (jn jc : Nat) (R : Road) (pa2 : Option Addr) (pn2 pc2 : Nat) (ca2 : Option Addr) (cn2 cc2 : Nat) (ja2 : Option Addr) (jn2 jc2 : Nat) (R2 : Road) (w : World)
    (h : RD w w.heap.size pa pn ca cn ja jn R) (h2 : RD w w.heap.size pa2 pn2 ca2 cn2 ja2 jn2 R2) (hv : OK R) (hv2 : OK R2) :
    Calls Try.prog 74 #[.agg #[.slice pa pn pc, .slice ca cn cc, .slice ja jn jc], .agg #[.slice pa2 pn2 pc2, .slice ca2 cn2 cc2, .slice ja2 jn2 jc2]] w fun e w' =>
      ((sumL R.ps = sumL R2.ps → ∃ g ba bq g2 ba2 bq2, e = .returned (.tuple #[.pointer (some ⟨g, 0, none⟩), .pointer (some ⟨g2, 0, none⟩), .int .i64 0]) ∧ MS w' w'.heap.size g pa pn pc ca cn cc ja jn jc ba bq R ∧ MS w' w'.heap.size g2 pa2 pn2 pc2 ca2 cn2 cc2 ja2 jn2 jc2 ba2 bq2 R2) ∧
       (¬ sumL R.ps = sumL R2.ps → e = .returned (.tuple #[.pointer none, .pointer none, .int .i64 2]))) ∧ Below w.heap.size w w' := by
  have hR := Lib.hid h
  have hR2 := Lib.hid h2
  have hv' := Lib.hid hv
  have hv2' := Lib.hid hv2
  have hmo : Try.prog.follows .mixedOrders = true := by kernel_rfl
  have hpn : pn ≤ 2000 := by rw [h.p.1]; exact hv.p2
  have hpn2 : pn2 ≤ 2000 := by rw [h2.p.1]; exact hv2.p2
  have hc := Lib.hid (chk_ok hv)
  have hc2 := Lib.hid (chk_ok hv2)
  clear h h2 hv hv2
  obtain ⟨W0, hW0⟩ : ∃ W0, W0 = (w.alloc (.cells #[.slice pa pn pc, .slice ca cn cc, .slice ja jn jc] 26)).alloc (.cells #[.slice pa2 pn2 pc2, .slice ca2 cn2 cc2, .slice ja2 jn2 jc2] 26) := ⟨_, rfl⟩
  have hB0 : Below w.heap.size w W0 := by rw [hW0]; exact ((Below.refl w.heap.size w).alloc (Nat.le_refl _) _).alloc (by simp) _
  have hX0 : BK W0 w.heap.size 26 #[.slice pa pn pc, .slice ca cn cc, .slice ja jn jc] := by rw [hW0]; exact (BK.new w _ _).alloc _
  have hY0 : BK W0 (w.heap.size + 1) 26 #[.slice pa2 pn2 pc2, .slice ca2 cn2 cc2, .slice ja2 jn2 jc2] := by rw [hW0]; have := BK.new (w.alloc (.cells #[.slice pa pn pc, .slice ca cn cc, .slice ja jn jc] 26)) 26 #[.slice pa2 pn2 pc2, .slice ca2 cn2 cc2, .slice ja2 jn2 jc2]; rw [World.size_alloc] at this; exact this
  go_enter Try.func74, Try.ntmps74
  go_wp2_with fail
  rw [← hW0]
  clear hW0
  refine (Check_any _ _ _ _ _ _ _ _ _ R _ (hR.out.grow hB0 hB0.size)).mono ?_
  rintro e W1 ⟨rfl, hk0⟩
  rw [hc.out]
  have hB1 := hB0.trans (hk0.mono hB0.size)
  have hX1 := hX0.below hk0 hX0.lt
  have hY1 := hY0.below hk0 hY0.lt
  have y0 := hY1.cell 0
  have y1 := hY1.cell 1
  have y2 := hY1.cell 2
  simp only [List.getElem?_toArray, List.getElem?_cons_zero, List.getElem?_cons_succ] at y0 y1 y2
  go_wp2_with fail
  clear y0 y1 y2
  refine (Check_any _ _ _ _ _ _ _ _ _ R2 _ (hR2.out.grow hB1 hB1.size)).mono ?_
  rintro e W2 ⟨rfl, hk1⟩
  rw [hc2.out]
  have hB2 := hB1.trans (hk1.mono hB1.size)
  have hX2 := hX1.below hk1 hX1.lt
  have hY2 := hY1.below hk1 hY1.lt
  have x0 := fun d os => cell_regrown (hX2.cell 0) d os
  have x1 := fun d os => cell_regrown (hX2.cell 1) d os
  have x2 := fun d os => cell_regrown (hX2.cell 2) d os
  have y0 := fun d os => cell_regrown (hY2.cell 0) d os
  have y1 := fun d os => cell_regrown (hY2.cell 1) d os
  have y2 := fun d os => cell_regrown (hY2.cell 2) d os
  go_wp2_with fail
  refine wp_region_ch 4 [1, 3] hmo (by kernel_rfl) ?_
  simp only [List.take_succ_cons, List.take_zero, List.drop_succ_cons, List.drop_zero]
  repeat (refine wpC_q (by decide) (by decide) (fun K hK => ?_); go_simp; refine hK _ ?_; clear hK K)
  refine wpC_c (ι := Nat) 55 #[.agg #[.slice pa pn pc, .slice ca cn cc, .slice ja jn jc]] (fun g => .pointer (some ⟨g, 0, none⟩)) (fun g x => ∃ ba bq, MS x x.heap.size g pa pn pc ca cn cc ja jn jc ba bq R) (by decide) (by decide) rfl (fun w => by go_simp) stable_true (fun g x y ⟨ba, bq, hm⟩ hb => ⟨ba, bq, hm.grow hb hb.size⟩) (fun W hW _ => ?_) (fun g1 hs1 => ?_)
  · obtain ⟨p, rfl⟩ := hW
    have hb := below_regrown W2 p.d p.os
    have hb' := hB2.trans (hb.mono hB2.size)
    refine (measure_any pa pn pc ca cn cc ja jn jc R _ (hR.out.grow hb' hb'.size) hv'.out.pk (by omega)).mono ?_
    rintro e w' ⟨g, ba, bq, rfl, hM, _, hbl⟩
    exact ⟨g, rfl, ⟨ba, bq, hM⟩, hbl⟩
  repeat (refine wpC_q (by decide) (by decide) (fun K hK => ?_); go_simp; refine hK _ ?_; clear hK K)
  refine wpC_c (ι := Nat) 55 #[.agg #[.slice pa2 pn2 pc2, .slice ca2 cn2 cc2, .slice ja2 jn2 jc2]] (fun g => .pointer (some ⟨g, 0, none⟩)) (fun g x => ∃ ba bq, MS x x.heap.size g pa2 pn2 pc2 ca2 cn2 cc2 ja2 jn2 jc2 ba bq R2) (by decide) (by decide) rfl (fun w => by go_simp) hs1 (fun g x y ⟨ba, bq, hm⟩ hb => ⟨ba, bq, hm.grow hb hb.size⟩) (fun W hW _ => ?_) (fun g2 hs2 => ?_)
  · obtain ⟨p, rfl⟩ := hW
    have hb := below_regrown W2 p.d p.os
    have hb' := hB2.trans (hb.mono hB2.size)
    refine (measure_any pa2 pn2 pc2 ca2 cn2 cc2 ja2 jn2 jc2 R2 _ (hR2.out.grow hb' hb'.size) hv2'.out.pk (by omega)).mono ?_
    rintro e w' ⟨g, ba, bq, rfl, hM, _, hbl⟩
    exact ⟨g, rfl, ⟨ba, bq, hM⟩, hbl⟩
  repeat (refine wpC_q (by decide) (by decide) (fun K hK => ?_); go_simp; refine hK _ ?_; clear hK K)
  refine wpC_nil ?_
  intro W3 hb3 hΦ
  obtain ⟨⟨-, ba, bq, hM⟩, ba2, bq2, hM2⟩ := hΦ
  clear x0 x1 x2 y0 y1 y2 hs1 hs2
  have hB3 := hB2.trans (hb3.mono hB2.size)
  go_wp2_with fail
  refine (mlength_any _ _ _ _ _ _ _ _ _ _ _ _ R _ _ hM (by omega)).mono ?_
  rintro e W4' ⟨rfl, nd, hw4⟩
  obtain ⟨W4, hw4e⟩ : ∃ W4, W4 = W4' := ⟨_, rfl⟩
  rw [← hw4e] at hw4 ⊢
  have hk4 : Below W3.heap.size W3 W4 := by rw [hw4]; exact below_drewN (Below.refl _ _) _
  clear hw4 hw4e
  have hM4 := hM.grow hk4 hk4.size
  have hM24 := hM2.grow hk4 hk4.size
  have hB4 := hB3.trans (hk4.mono hB3.size)
  go_wp2_with fail
  refine (mlength_any _ _ _ _ _ _ _ _ _ _ _ _ R2 _ _ hM24 (by omega)).mono ?_
  rintro e W5' ⟨rfl, nd, hw5⟩
  obtain ⟨W5, hw5e⟩ : ∃ W5, W5 = W5' := ⟨_, rfl⟩
  rw [← hw5e] at hw5 ⊢
  have hk5 : Below W4.heap.size W4 W5 := by rw [hw5]; exact below_drewN (Below.refl _ _) _
  clear hw5 hw5e
  have hB5 := hB4.trans (hk5.mono hB4.size)
  have hM5 := hM4.grow hk5 hk5.size
  have hM25 := hM24.grow hk5 hk5.size
  by_cases he : sumL R.ps = sumL R2.ps
  · have HH := Lib.hid (And.intro hM5 (And.intro hM25 hB5))
    have HE := Lib.hid he
    clear hM5 hM25 hM4 hM24 hM hM2
    go_wp2_with fail
    go_ret3
    exact ⟨⟨fun _ => ⟨g1, ba, bq, g2, ba2, bq2, rfl, HH.out.1, HH.out.2.1⟩, fun h => absurd HE.out h⟩, HH.out.2.2⟩
  · have HE := Lib.hid he
    clear hM5 hM25 hM4 hM24 hM hM2
    go_wp2_with fail
    go_ret3
    exact ⟨⟨fun h => absurd h HE.out, fun _ => rfl⟩, hB5⟩
end Go.Proofs.Ytomloklckpcaiaa

/- Two roads joined, plainly; and a road that a call builds in a box: its three rows, and what becomes of them when one grows. -/
namespace Go.Proofs.Ytomloklckpcaiaa
open Go.RowKit Go.Shelf Go.Sort Go.Proofs

/-! ### A road in a box -/
/-- The box tb holds three rows of the call's own. -/
structure JB (tR tP tC tJ : TypeId) (base : Nat) (w : World) (tb : Nat) (A1 : Option Addr) (n1 c1 : Nat) (ps : List Piece) (A2 : Option Addr) (n2 c2 : Nat) (cs : List Crest) (A3 : Option Addr) (n3 c3 : Nat) (js : List Junc) : Prop where
  b : BK w tb tR #[.slice A1 n1 c1, .slice A2 n2 c2, .slice A3 n3 c3]
  p : OW pC 5 tP base w A1 n1 c1 ps
  c : OW cC 2 tC base w A2 n2 c2 cs
  j : OW jC 3 tJ base w A3 n3 c3 js
section
variable {tR tP tC tJ : TypeId} {base : Nat} {w w' : World} {tb : Nat} {A1 : Option Addr} {n1 c1 : Nat} {ps : List Piece} {A2 : Option Addr} {n2 c2 : Nat} {cs : List Crest} {A3 : Option Addr} {n3 c3 : Nat} {js : List Junc}
theorem JB.call (h : JB tR tP tC tJ base w tb A1 n1 c1 ps A2 n2 c2 cs A3 n3 c3 js) (hb : Below w.heap.size w w') : JB tR tP tC tJ base w' tb A1 n1 c1 ps A2 n2 c2 cs A3 n3 c3 js :=
  ⟨h.b.below hb h.b.lt, h.p.call hb, h.c.call hb, h.j.call hb⟩
theorem JB.alloc (h : JB tR tP tC tJ base w tb A1 n1 c1 ps A2 n2 c2 cs A3 n3 c3 js) (o : Obj) : JB tR tP tC tJ base (w.alloc o) tb A1 n1 c1 ps A2 n2 c2 cs A3 n3 c3 js :=
  ⟨h.b.alloc o, h.p.alloc o, h.c.alloc o, h.j.alloc o⟩
variable (h : JB tR tP tC tJ base w tb A1 n1 c1 ps A2 n2 c2 cs A3 n3 c3 js)
include h
theorem JB.appP (hRP : tP ≠ tR) (hCP : tP ≠ tC) (hJP : tP ≠ tJ) (hCR : tC ≠ tR) (hJR : tJ ≠ tR) {y : Piece} {g c' : Nat} (hap : App1 pC 5 tP base w A1 n1 c1 ps y g c' w') :
    JB tR tP tC tJ base (w'.setCell ⟨tb, 0, none⟩ (.slice (some ⟨g, 0, none⟩) (n1 + 1) c')) tb (some ⟨g, 0, none⟩) (n1 + 1) c' (ps ++ [y]) A2 n2 c2 cs A3 n3 c3 js := by
  have hb1 : BK w' tb tR #[.slice A1 n1 c1, .slice A2 n2 c2, .slice A3 n3 c3] := h.b.same (hap.far tb h.b.lt (fun b hb => BK.ne_row (.inr ⟨_, h.b⟩) h.p hRP hb))
  have hc1 : OW cC 2 tC base w' A2 n2 c2 cs := h.c.keep fun a ha => hap.far _ (h.c.lt ha).2 (fun b hb e => h.p.ne h.c hCP hb ha e)
  have hj1 : OW jC 3 tJ base w' A3 n3 c3 js := h.j.keep fun a ha => hap.far _ (h.j.lt ha).2 (fun b hb e => h.p.ne h.j hJP hb ha e)
  exact ⟨hb1.set_ 0 _, hap.own.setCell (fun a ha => BK.ne_row (.inr ⟨_, hb1⟩) hap.own hRP ha) _, hc1.setCell (fun a ha => BK.ne_row (.inr ⟨_, hb1⟩) hc1 hCR ha) _, hj1.setCell (fun a ha => BK.ne_row (.inr ⟨_, hb1⟩) hj1 hJR ha) _⟩
end
end Go.Proofs.Ytomloklckpcaiaa

/- Safer of two valid surveys of different lengths: the zero road and the error 2. -/
namespace Go.Proofs.Ytomloklckpcaiaa
open Go.RowKit Go.Shelf Go.Sort Go.Proofs

set_option maxRecDepth 100000 in
set_option maxHeartbeats 4000000 in
theorem Safer_uneq (pa : Option Addr) (pn pc : Nat) (ca : Option Addr) (cn cc : Nat) (ja : Option Addr) (jn jc : Nat) (R : Road) (pa2 : Option Addr) (pn2 pc2 : Nat) (ca2 : Option Addr) (cn2 cc2 : Nat) (ja2 : Option Addr) (jn2 jc2 : Nat) (R2 : Road) (w : World) (h : RD w w.heap.size pa pn ca cn ja jn R) (h2 : RD w w.heap.size pa2 pn2 ca2 cn2 ja2 jn2 R2) (hv : OK R) (hv2 : OK R2) (hne : ¬ sumL R.ps = sumL R2.ps) :
    Calls Try.prog 46 #[.agg #[.slice pa pn pc, .slice ca cn cc, .slice ja jn jc], .agg #[.slice pa2 pn2 pc2, .slice ca2 cn2 cc2, .slice ja2 jn2 jc2]] w fun e w' => e = .returned (.tuple #[.agg #[.slice none 0 0, .slice none 0 0, .slice none 0 0], .int .i64 2]) ∧ Below w.heap.size w w' := by
  have hR := Lib.hid h
  have hR2 := Lib.hid h2
  have hv' := Lib.hid hv
  have hv2' := Lib.hid hv2
  have hne' := Lib.hid hne
  clear h h2 hv hv2 hne
  obtain ⟨w0, hw0⟩ : ∃ w0, w0 = (((w.alloc (.cells #[.slice pa pn pc, .slice ca cn cc, .slice ja jn jc] 26)).alloc (.cells #[.slice pa2 pn2 pc2, .slice ca2 cn2 cc2, .slice ja2 jn2 jc2] 26)).alloc (.cells #[.slice none 0 0, .slice none 0 0, .slice none 0 0] 26)).alloc (.cells #[.int .i64 0] 29) := ⟨_, rfl⟩
  have hB0 : Below w.heap.size w w0 := by rw [hw0]; exact ((((Below.refl w.heap.size w).alloc (Nat.le_refl _) _).alloc (by simp <;> omega) _).alloc (by simp <;> omega) _).alloc (by simp <;> omega) _
  have hX0 : BK w0 (w.heap.size) 26 #[.slice pa pn pc, .slice ca cn cc, .slice ja jn jc] := by rw [hw0]; exact ((((BK.new w 26 #[.slice pa pn pc, .slice ca cn cc, .slice ja jn jc])).alloc _).alloc _).alloc _
  have hY0 : BK w0 (w.heap.size + 1) 26 #[.slice pa2 pn2 pc2, .slice ca2 cn2 cc2, .slice ja2 jn2 jc2] := by rw [hw0]; have := BK.new (w.alloc (.cells #[.slice pa pn pc, .slice ca cn cc, .slice ja jn jc] 26)) 26 #[.slice pa2 pn2 pc2, .slice ca2 cn2 cc2, .slice ja2 jn2 jc2]; rw [World.size_alloc] at this; exact ((this).alloc _).alloc _
  have hZ0 : BK w0 (w.heap.size + 1 + 1) 26 #[.slice none 0 0, .slice none 0 0, .slice none 0 0] := by rw [hw0]; have := BK.new ((w.alloc (.cells #[.slice pa pn pc, .slice ca cn cc, .slice ja jn jc] 26)).alloc (.cells #[.slice pa2 pn2 pc2, .slice ca2 cn2 cc2, .slice ja2 jn2 jc2] 26)) 26 #[.slice none 0 0, .slice none 0 0, .slice none 0 0]; rw [World.size_alloc, World.size_alloc] at this; exact (this).alloc _
  have hE0 : BK w0 (w.heap.size + 1 + 1 + 1) 29 #[.int .i64 0] := by rw [hw0]; have := BK.new (((w.alloc (.cells #[.slice pa pn pc, .slice ca cn cc, .slice ja jn jc] 26)).alloc (.cells #[.slice pa2 pn2 pc2, .slice ca2 cn2 cc2, .slice ja2 jn2 jc2] 26)).alloc (.cells #[.slice none 0 0, .slice none 0 0, .slice none 0 0] 26)) 29 #[.int .i64 0]; rw [World.size_alloc, World.size_alloc, World.size_alloc] at this; exact this
  go_enter Try.func46, Try.ntmps46
  go_wp2_with fail
  rw [← hw0]
  clear hw0
  have X_0 := hX0.cell 0
  have X_1 := hX0.cell 1
  have X_2 := hX0.cell 2
  have Y_0 := hY0.cell 0
  have Y_1 := hY0.cell 1
  have Y_2 := hY0.cell 2
  simp only [List.getElem?_toArray, List.getElem?_cons_zero, List.getElem?_cons_succ] at X_0 X_1 X_2 Y_0 Y_1 Y_2
  go_wp2_with fail
  clear X_0 X_1 X_2 Y_0 Y_1 Y_2
  refine (surveys_in pa pn pc ca cn cc ja jn jc R pa2 pn2 pc2 ca2 cn2 cc2 ja2 jn2 jc2 R2 _ (hR.out.grow hB0 hB0.size) (hR2.out.grow hB0 hB0.size) hv'.out hv2'.out).mono ?_
  rintro e w1 ⟨⟨-, hout⟩, hk0⟩
  obtain rfl := hout hne'.out
  clear hout
  have hB1 := hB0.trans (hk0.mono hB0.size)
  have hZ1 := hZ0.below hk0 hZ0.lt
  have hE1 := hE0.below hk0 hE0.lt
  have hZF := hZ1.frozen
  have hEF := hE1.frozen
  have Z_0 := hZ1.cell 0
  have Z_1 := hZ1.cell 1
  have Z_2 := hZ1.cell 2
  have E_0 := hE1.cell 0
  simp only [List.getElem?_toArray, List.getElem?_cons_zero, List.getElem?_cons_succ] at Z_0 Z_1 Z_2 E_0
  go_wp2_with fail
  have hYF := (((hZ1.set_ 0 (.slice none 0 0)).set_ 1 (.slice none 0 0)).set_ 2 (.slice none 0 0)).far (p := ⟨w.heap.size + 1 + 1 + 1, 0, none⟩) (by simp) (.int .i64 2)
  have hEX := (((hE1.far (p := ⟨w.heap.size + 1 + 1, 0, none⟩) (by simp) (.slice none 0 0)).far (p := ⟨w.heap.size + 1 + 1, 1, none⟩) (by simp) (.slice none 0 0)).far (p := ⟨w.heap.size + 1 + 1, 2, none⟩) (by simp) (.slice none 0 0)).set_ 0 (.int .i64 2)
  have hBF := (((hB1.setCell (p := ⟨w.heap.size + 1 + 1, 0, none⟩) (by simp <;> omega) (.slice none 0 0)).setCell (p := ⟨w.heap.size + 1 + 1, 1, none⟩) (by simp <;> omega) (.slice none 0 0)).setCell (p := ⟨w.heap.size + 1 + 1, 2, none⟩) (by simp <;> omega) (.slice none 0 0)).setCell (p := ⟨w.heap.size + 1 + 1 + 1, 0, none⟩) (by simp <;> omega) (.int .i64 2)
  obtain ⟨wF, hwF⟩ : ∃ wF, wF = (((w1.setCell ⟨w.heap.size + 1 + 1, 0, none⟩ (.slice none 0 0)).setCell ⟨w.heap.size + 1 + 1, 1, none⟩ (.slice none 0 0)).setCell ⟨w.heap.size + 1 + 1, 2, none⟩ (.slice none 0 0)).setCell ⟨w.heap.size + 1 + 1 + 1, 0, none⟩ (.int .i64 2) := ⟨_, rfl⟩
  rw [← hwF] at hYF hEX hBF ⊢
  clear hwF
  have z0 := hYF.cell 0
  have z1 := hYF.cell 1
  have z2 := hYF.cell 2
  have z3 := hEX.cell 0
  simp at z0 z1 z2 z3
  refine bodyPost_ret (v := .tuple #[.agg #[.slice none 0 0, .slice none 0 0, .slice none 0 0], .int .i64 2]) (by simp [results, Try.results46, go_sem, z0, z1, z2, z3]) rfl ⟨rfl, hBF⟩
end Go.Proofs.Ytomloklckpcaiaa
