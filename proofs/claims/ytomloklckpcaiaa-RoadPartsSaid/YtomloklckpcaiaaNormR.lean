/- road.Normal, for a road as defined. -/
import Derived.Test.YtomloklckpcaiaaBound
import Derived.Test.YtomloklckpcaiaaRuns
namespace Go.Proofs.Ytomloklckpcaiaa
open Go.RowKit Go.Shelf Go.Sort Go.Proofs

set_option maxRecDepth 100000 in
set_option maxHeartbeats 4000000 in
theorem Normal_in (pa : Option Addr) (pn pc : Nat) (ca : Option Addr) (cn cc : Nat) (ja : Option Addr) (jn jc : Nat) (R : Road) (w : World)
    (h : RD w w.heap.size pa pn ca cn ja jn R) (hv : OK R) :
    Calls Try.prog 35 #[.agg #[.slice pa pn pc, .slice ca cn cc, .slice ja jn jc]] w fun e w' => ∃ pa' pn' pc' ca' cc' ja' jc', e = .returned (.tuple #[.agg #[.slice pa' pn' pc', .slice ca' cn cc', .slice ja' jn jc'], .int .i64 0]) ∧
      (OW pC 5 52 w.heap.size w' pa' pn' pc' (normP R.ps) ∧ OW cC 2 87 w.heap.size w' ca' cn cc' R.cs ∧ OW jC 3 89 w.heap.size w' ja' jn jc' R.js) ∧ Below w.heap.size w w' := by
  have hR := Lib.hid h
  have hv' := Lib.hid hv
  have hnv := Lib.hid (normR_ok hv)
  have hc := Lib.hid (chk_ok hv)
  have hmo : Try.prog.follows .mixedOrders = true := by kernel_rfl
  have hpn : pn ≤ 2000 := by rw [h.p.1]; exact hv.p2
  have hcn : cn ≤ 1000 := by rw [h.c.1]; exact hv.c1
  have hjn : jn ≤ 200 := by rw [h.j.1]; exact hv.j1
  have hlen : Hid (∀ q ∈ R.ps, 1 ≤ q.len ∧ q.len ≤ 5000) := fun q hq => pOk_len (hv.pk q hq)
  clear h hv
  obtain ⟨w0, hw0⟩ : ∃ w0, w0 = (w.alloc (.cells #[.slice pa pn pc, .slice ca cn cc, .slice ja jn jc] 26)).alloc (.cells #[.slice none 0 0, .slice none 0 0, .slice none 0 0] 26) := ⟨_, rfl⟩
  have hB0 : Below w.heap.size w w0 := by rw [hw0]; exact ((Below.refl w.heap.size w).alloc (Nat.le_refl _) _).alloc (by simp) _
  have hX0 : BK w0 w.heap.size 26 #[.slice pa pn pc, .slice ca cn cc, .slice ja jn jc] := by rw [hw0]; exact (BK.new w _ _).alloc _
  have hY0 : BK w0 (w.heap.size + 1) 26 #[.slice none 0 0, .slice none 0 0, .slice none 0 0] := by rw [hw0]; have := BK.new (w.alloc (.cells #[.slice pa pn pc, .slice ca cn cc, .slice ja jn jc] 26)) 26 #[.slice none 0 0, .slice none 0 0, .slice none 0 0]; rw [World.size_alloc] at this; exact this
  go_enter Try.func35, Try.ntmps35
  go_wp2_with fail
  rw [← hw0]
  clear hw0
  refine (Check_any _ _ _ _ _ _ _ _ _ R _ (hR.out.grow hB0 hB0.size)).mono ?_
  rintro e w3 ⟨rfl, hk0⟩
  rw [hc.out]
  have hB3 := hB0.trans (hk0.mono hB0.size)
  have hX3 := hX0.below hk0 hX0.lt
  have hY3 := hY0.below hk0 hY0.lt
  clear hk0 hB0 hX0 hY0
  go_wp2_with fail
  refine wp_region_ch 13 [2, 5, 8, 10] hmo (by kernel_rfl) ?_
  simp only [List.take_succ_cons, List.take_zero, List.drop_succ_cons, List.drop_zero]
  have x0 := fun d os => cell_regrown (hX3.cell 0) d os
  have x1 := fun d os => cell_regrown (hX3.cell 1) d os
  have x2 := fun d os => cell_regrown (hX3.cell 2) d os
  have HR3 := Lib.hid (hR.out.grow hB3 hB3.size)
  repeat (refine wpC_q (by decide) (by decide) (fun K hK => ?_); go_simp; refine hK _ ?_; clear hK K)
  refine wpC_c (ι := Option Addr × Nat × Nat) 72 #[.slice pa pn pc] (fun i => .slice i.1 i.2.1 i.2.2) (fun i x => OW pC 5 52 w3.heap.size x i.1 i.2.1 i.2.2 (normP R.ps)) (by decide) (by decide) rfl (fun w => by go_simp) stable_true (fun i => stable_ow _ _ _ _ _ _ _ _) (fun W hW _ => ?_) (fun i1 hs1 => ?_)
  · obtain ⟨p, rfl⟩ := hW
    have hb := below_regrown w3 p.d p.os
    refine (runs_in _ _ _ R.ps _ (HR3.out.p.grow hb hb.size) hlen.out hpn).mono ?_
    rintro e w' ⟨A', n', c', rfl, ho, hbl⟩
    exact ⟨(A', n', c'), rfl, ho.drop0 hb.size, hbl⟩
  repeat (refine wpC_q (by decide) (by decide) (fun K hK => ?_); go_simp; refine hK _ ?_; clear hK K)
  refine wpC_c (ι := Option Addr × Nat) 66 #[.slice ca cn cc] (fun i => .slice i.1 cn i.2) (fun i x => OW cC 2 87 w3.heap.size x i.1 cn i.2 R.cs) (by decide) (by decide) rfl (fun w => by go_simp) hs1 (fun i => stable_ow _ _ _ _ _ _ _ _) (fun W hW _ => ?_) (fun i2 hs2 => ?_)
  · obtain ⟨p, rfl⟩ := hW
    have hb := below_regrown w3 p.d p.os
    refine (CloneC_any _ _ _ R.cs _ (HR3.out.c.grow hb hb.size) (by omega)).mono ?_
    rintro e w' ⟨A', c', rfl, ho, hbl⟩
    exact ⟨(A', c'), rfl, ho.drop0 hb.size, hbl⟩
  repeat (refine wpC_q (by decide) (by decide) (fun K hK => ?_); go_simp; refine hK _ ?_; clear hK K)
  refine wpC_c (ι := Option Addr × Nat) 67 #[.slice ja jn jc] (fun i => .slice i.1 jn i.2) (fun i x => OW jC 3 89 w3.heap.size x i.1 jn i.2 R.js) (by decide) (by decide) rfl (fun w => by go_simp) hs2 (fun i => stable_ow _ _ _ _ _ _ _ _) (fun W hW _ => ?_) (fun i3 hs3 => ?_)
  · obtain ⟨p, rfl⟩ := hW
    have hb := below_regrown w3 p.d p.os
    refine (CloneJ_any _ _ _ R.js _ (HR3.out.j.grow hb hb.size) (by omega)).mono ?_
    rintro e w' ⟨A', c', rfl, ho, hbl⟩
    exact ⟨(A', c'), rfl, ho.drop0 hb.size, hbl⟩
  obtain ⟨A1, n1, c1⟩ := i1
  obtain ⟨A2, c2⟩ := i2
  obtain ⟨A3, c3⟩ := i3
  repeat (refine wpC_q (by decide) (by decide) (fun K hK => ?_); go_simp; refine hK _ ?_; clear hK K)
  have hbv : boundV A1 n1 c1 A2 cn c2 A3 jn c3 (normR R) = .tuple #[.agg #[.slice A1 n1 c1, .slice A2 cn c2, .slice A3 jn c3], .int .i64 0] := by
    have hn := hnv.out
    have hf : fitsR (normR R) = true := by
      simp only [fitsR, Bool.and_eq_true, decide_eq_true_eq]
      exact ⟨hn.p2, hn.c1, hn.j1, hn.n1⟩
    rw [boundV, if_pos hf]
  refine wpC_c (ι := Unit) 71 #[.agg #[.slice A1 n1 c1, .slice A2 cn c2, .slice A3 jn c3]] (fun _ => .tuple #[.agg #[.slice A1 n1 c1, .slice A2 cn c2, .slice A3 jn c3], .int .i64 0]) (fun _ _ => True) (by decide) (by decide) rfl (fun w => by go_simp) hs3 (fun _ => stable_true) (fun W hW hΦ => ?_) (fun i4 hs4 => ?_)
  · obtain ⟨⟨⟨-, o1⟩, o2⟩, o3⟩ := hΦ
    have hn := hnv.out
    refine (bounded_any A1 n1 c1 A2 cn c2 A3 jn c3 (normR R) W ⟨o1.sl pC_len, o2.sl cC_len, o3.sl jC_len⟩ hn.pk ?_).mono ?_
    · have h1 : n1 = (normR R).ps.length := o1.len
      have := hn.p2
      omega
    · rintro e w' ⟨rfl, hbl⟩
      exact ⟨(), by rw [hbv], trivial, hbl⟩
  repeat (refine wpC_q (by decide) (by decide) (fun K hK => ?_); go_simp; refine hK _ ?_; clear hK K)
  refine wpC_nil ?_
  intro w4 hk3 hΦ
  obtain ⟨⟨⟨⟨-, o1⟩, o2⟩, o3⟩, -⟩ := hΦ
  simp only at o1 o2 o3 ⊢
  clear x0 x1 x2 hs1 hs2 hs3 hs4 HR3
  have hB4 := hB3.trans (hk3.mono hB3.size)
  have hY4 := hY3.below hk3 hY3.lt
  have hz3 : w.heap.size + 1 < w3.heap.size := hY3.lt
  have y0 := hY4.cell 0
  have y1 := hY4.cell 1
  have y2 := hY4.cell 2
  have yf := hY4.frozen
  have hyl := hY4.lt
  simp only [List.getElem?_toArray, List.getElem?_cons_zero, List.getElem?_cons_succ] at y0 y1 y2
  have f1 : ∀ a, A1 = some a → a.block ≠ w.heap.size + 1 := fun a ha => by have := (o1.lt ha).1; omega
  have f2 : ∀ a, A2 = some a → a.block ≠ w.heap.size + 1 := fun a ha => by have := (o2.lt ha).1; omega
  have f3 : ∀ a, A3 = some a → a.block ≠ w.heap.size + 1 := fun a ha => by have := (o3.lt ha).1; omega
  have r1 := (((o1.setCell (p := ⟨w.heap.size + 1, 0, none⟩) f1 (.slice A1 n1 c1)).setCell (p := ⟨w.heap.size + 1, 1, none⟩) f1 (.slice A2 cn c2)).setCell (p := ⟨w.heap.size + 1, 2, none⟩) f1 (.slice A3 jn c3)).drop0 hB3.size
  have r2 := (((o2.setCell (p := ⟨w.heap.size + 1, 0, none⟩) f2 (.slice A1 n1 c1)).setCell (p := ⟨w.heap.size + 1, 1, none⟩) f2 (.slice A2 cn c2)).setCell (p := ⟨w.heap.size + 1, 2, none⟩) f2 (.slice A3 jn c3)).drop0 hB3.size
  have r3 := (((o3.setCell (p := ⟨w.heap.size + 1, 0, none⟩) f3 (.slice A1 n1 c1)).setCell (p := ⟨w.heap.size + 1, 1, none⟩) f3 (.slice A2 cn c2)).setCell (p := ⟨w.heap.size + 1, 2, none⟩) f3 (.slice A3 jn c3)).drop0 hB3.size
  have rB := ((hB4.setCell (p := ⟨w.heap.size + 1, 0, none⟩) (by simp) (.slice A1 n1 c1)).setCell (p := ⟨w.heap.size + 1, 1, none⟩) (by simp) (.slice A2 cn c2)).setCell (p := ⟨w.heap.size + 1, 2, none⟩) (by simp) (.slice A3 jn c3)
  have RR := Lib.hid (And.intro (And.intro r1 (And.intro r2 r3)) rB)
  clear r1 r2 r3 rB f1 f2 f3 o1 o2 o3 hk3 hB4
  go_wp2_with fail
  have hYF := ((hY4.set_ 0 (.slice A1 n1 c1)).set_ 1 (.slice A2 cn c2)).set_ 2 (.slice A3 jn c3)
  obtain ⟨wF, hwF⟩ : ∃ wF, wF = ((w4.setCell ⟨w.heap.size + 1, 0, none⟩ (.slice A1 n1 c1)).setCell ⟨w.heap.size + 1, 1, none⟩ (.slice A2 cn c2)).setCell ⟨w.heap.size + 1, 2, none⟩ (.slice A3 jn c3) := ⟨_, rfl⟩
  rw [← hwF] at hYF RR ⊢
  clear hwF y0 y1 y2 yf hyl hY4
  have z0 := hYF.cell 0
  have z1 := hYF.cell 1
  have z2 := hYF.cell 2
  simp at z0 z1 z2
  refine bodyPost_ret (v := .tuple #[.agg #[.slice A1 n1 c1, .slice A2 cn c2, .slice A3 jn c3], .int .i64 0]) (by simp [results, Try.results35, go_sem, z0, z1, z2]) rfl ⟨_, _, _, _, _, _, _, rfl, RR.out.1, RR.out.2⟩
end Go.Proofs.Ytomloklckpcaiaa
