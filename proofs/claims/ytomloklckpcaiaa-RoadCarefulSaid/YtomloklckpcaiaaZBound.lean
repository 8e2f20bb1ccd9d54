/- bounded: a road that is not too long, or the error. -/
import Derived.Test.YtomloklckpcaiaaZBackM
import Derived.Test.YtomloklckpcaiaaZPcs
import Derived.Test.YtomloklckpcaiaaZRuns
import Derived.Test.YtomloklckpcaiaaZRev
namespace Go.Proofs.Ytomloklckpcaiaa
open Go.RowKit Go.Shelf Go.Sort Go.Proofs

def fitsR (R : Road) : Bool := decide (R.ps.length ≤ 2000) && (decide (R.cs.length ≤ 1000) && (decide (R.js.length ≤ 200) && decide (sumL R.ps ≤ 100000)))
/-- What bounded gives. -/
def boundV (pa : Option Addr) (pn pc : Nat) (ca : Option Addr) (cn cc : Nat) (ja : Option Addr) (jn jc : Nat) (R : Road) : Value :=
  if fitsR R = true then .tuple #[.agg #[.slice pa pn pc, .slice ca cn cc, .slice ja jn jc], .int .i64 0] else .tuple #[.agg #[.slice none 0 0, .slice none 0 0, .slice none 0 0], .int .i64 4]
set_option maxRecDepth 100000 in
theorem bounded_any (pa : Option Addr) (pn pc : Nat) (ca : Option Addr) (cn cc : Nat) (ja : Option Addr) (jn jc : Nat) (R : Road) (w : World)
    (h : RD w w.heap.size pa pn ca cn ja jn R) (hk : ∀ p ∈ R.ps, pOk p = true) (hl : pn ≤ 20000) :
    Calls Try.prog 71 #[.agg #[.slice pa pn pc, .slice ca cn cc, .slice ja jn jc]] w fun e w' => e = .returned (boundV pa pn pc ca cn cc ja jn jc R) ∧ Below w.heap.size w w' := by
  have hR := Lib.hid h
  have hk' := Lib.hid hk
  have hS := sumL_bd R.ps hk
  have hfit : fitsR R = (decide (pn ≤ 2000) && (decide (cn ≤ 1000) && (decide (jn ≤ 200) && decide (sumL R.ps ≤ 100000)))) := by rw [fitsR, h.p.1, h.c.1, h.j.1]
  have hpe := h.p.1
  obtain ⟨S, hSe⟩ : ∃ S, S = sumL R.ps := ⟨_, rfl⟩
  have HS := Lib.hid hSe
  rw [← hSe] at hS hfit
  obtain ⟨s1, s2⟩ : 0 ≤ S ∧ S ≤ 100000000 := by omega
  clear h hk hSe hS hpe
  obtain ⟨w0, hw0⟩ : ∃ w0, w0 = (w.alloc (.cells #[.slice pa pn pc, .slice ca cn cc, .slice ja jn jc] 26)).alloc (.cells #[.slice none 0 0, .slice none 0 0, .slice none 0 0] 26) := ⟨_, rfl⟩
  have hB0 : Below w.heap.size w w0 := by rw [hw0]; exact ((Below.refl w.heap.size w).alloc (Nat.le_refl _) _).alloc (by simp) _
  have hX0 : BK w0 w.heap.size 26 #[.slice pa pn pc, .slice ca cn cc, .slice ja jn jc] := by rw [hw0]; exact (BK.new w _ _).alloc _
  have hY0 : BK w0 (w.heap.size + 1) 26 #[.slice none 0 0, .slice none 0 0, .slice none 0 0] := by rw [hw0]; have := BK.new (w.alloc (.cells #[.slice pa pn pc, .slice ca cn cc, .slice ja jn jc] 26)) 26 #[.slice none 0 0, .slice none 0 0, .slice none 0 0]; rw [World.size_alloc] at this; exact this
  have hB0' : Hid (Below w.heap.size w ((w.alloc (.cells #[.slice pa pn pc, .slice ca cn cc, .slice ja jn jc] 26)).alloc (.cells #[.slice none 0 0, .slice none 0 0, .slice none 0 0] 26))) := hw0 ▸ hB0
  by_cases g1 : pn ≤ 2000
  · by_cases g2 : cn ≤ 1000
    · by_cases g3 : jn ≤ 200
      · have hfit' : Hid (fitsR R = decide (S ≤ 100000)) := by show _ = _; simpa [g1, g2, g3] using hfit
        clear hfit
        go_enter Try.func71, Try.ntmps71
        go_wp2_with fail
        rw [← hw0]
        clear hw0 hB0'
        refine (measure_any _ _ _ _ _ _ _ _ _ R _ (hR.out.grow hB0 hB0.size) hk'.out (by omega)).mono ?_
        rintro e w2 ⟨g, ba, bq, rfl, hM, hg, hk1⟩
        have hB2 := hB0.trans (hk1.mono hB0.size)
        have hX2 := hX0.below hk1 hX0.lt
        have hY2 := hY0.below hk1 hY0.lt
        clear hB0 hX0 hY0
        go_wp2_with fail
        refine (mlength_any _ _ _ _ _ _ _ _ _ _ _ _ R _ _ hM (by omega)).mono ?_
        rintro e w3' ⟨rfl, nd, hw3⟩
        obtain ⟨w3, hw3e⟩ : ∃ w3, w3 = w3' := ⟨_, rfl⟩
        rw [← hw3e] at hw3 ⊢
        have hk2 : Below w2.heap.size w2 w3 := by rw [hw3]; exact below_drewN (Below.refl _ _) _
        clear hw3 hw3e hM
        rw [← HS.out]
        have hB3 := hB2.trans (hk2.mono hB2.size)
        have hX3 := hX2.below hk2 hX2.lt
        have hY3 := hY2.below hk2 hY2.lt
        have hz3 : w.heap.size + 1 < w3.heap.size := hY3.lt
        have x0 := hX3.cell 0
        have x1 := hX3.cell 1
        have x2 := hX3.cell 2
        have yf := hY3.frozen
        have y0 := hY3.cell 0
        have y1 := hY3.cell 1
        have y2 := hY3.cell 2
        simp only [List.getElem?_toArray, List.getElem?_cons_zero, List.getElem?_cons_succ] at x0 x1 x2 y0 y1 y2
        clear hk1 hk2 hB2 hX2 hY2
        by_cases hle : S ≤ 100000
        · have hV : Hid (boundV pa pn pc ca cn cc ja jn jc R = .tuple #[.agg #[.slice pa pn pc, .slice ca cn cc, .slice ja jn jc], .int .i64 0]) := by
            unfold boundV; rw [hfit'.out, if_pos (by simpa using hle)]; exact rfl
          go_wp2_with fail
          have hYF := ((hY3.set_ 0 (.slice pa pn pc)).set_ 1 (.slice ca cn cc)).set_ 2 (.slice ja jn jc)
          have hBF := ((hB3.setCell (p := ⟨w.heap.size + 1, 0, none⟩) (by simp) (.slice pa pn pc)).setCell (p := ⟨w.heap.size + 1, 1, none⟩) (by simp) (.slice ca cn cc)).setCell (p := ⟨w.heap.size + 1, 2, none⟩) (by simp) (.slice ja jn jc)
          obtain ⟨wF, hwF⟩ : ∃ wF, wF = ((w3.setCell ⟨w.heap.size + 1, 0, none⟩ (.slice pa pn pc)).setCell ⟨w.heap.size + 1, 1, none⟩ (.slice ca cn cc)).setCell ⟨w.heap.size + 1, 2, none⟩ (.slice ja jn jc) := ⟨_, rfl⟩
          rw [← hwF] at hYF hBF ⊢
          clear hwF
          have z0 := hYF.cell 0
          have z1 := hYF.cell 1
          have z2 := hYF.cell 2
          simp at z0 z1 z2
          refine bodyPost_ret (v := .tuple #[.agg #[.slice pa pn pc, .slice ca cn cc, .slice ja jn jc], .int .i64 0]) (by simp [results, Try.results71, go_sem, z0, z1, z2]) rfl ⟨by rw [hV.out], hBF⟩
        · have hV : Hid (boundV pa pn pc ca cn cc ja jn jc R = .tuple #[.agg #[.slice none 0 0, .slice none 0 0, .slice none 0 0], .int .i64 4]) := by
            unfold boundV; rw [hfit'.out, if_neg (by simpa using hle)]; exact rfl
          go_wp2_with fail
          have hYF := ((hY3.set_ 0 (.slice none 0 0)).set_ 1 (.slice none 0 0)).set_ 2 (.slice none 0 0)
          have hBF := ((hB3.setCell (p := ⟨w.heap.size + 1, 0, none⟩) (by simp) (.slice none 0 0)).setCell (p := ⟨w.heap.size + 1, 1, none⟩) (by simp) (.slice none 0 0)).setCell (p := ⟨w.heap.size + 1, 2, none⟩) (by simp) (.slice none 0 0)
          obtain ⟨wF, hwF⟩ : ∃ wF, wF = ((w3.setCell ⟨w.heap.size + 1, 0, none⟩ (.slice none 0 0)).setCell ⟨w.heap.size + 1, 1, none⟩ (.slice none 0 0)).setCell ⟨w.heap.size + 1, 2, none⟩ (.slice none 0 0) := ⟨_, rfl⟩
          rw [← hwF] at hYF hBF ⊢
          clear hwF
          have z0 := hYF.cell 0
          have z1 := hYF.cell 1
          have z2 := hYF.cell 2
          simp at z0 z1 z2
          refine bodyPost_ret (v := .tuple #[.agg #[.slice none 0 0, .slice none 0 0, .slice none 0 0], .int .i64 4]) (by simp [results, Try.results71, go_sem, z0, z1, z2]) rfl ⟨by rw [hV.out], hBF⟩
      · have hV : Hid (boundV pa pn pc ca cn cc ja jn jc R = .tuple #[.agg #[.slice none 0 0, .slice none 0 0, .slice none 0 0], .int .i64 4]) := by
          unfold boundV; rw [hfit, if_neg (by simp [g3])]; exact rfl
        clear hfit hw0 hB0 hX0 hY0
        go_enter Try.func71, Try.ntmps71
        have q0 : ¬ (2000 : Int) < pn := by omega
        have q1 : ¬ (1000 : Int) < cn := by omega
        have q2 : (200 : Int) < jn := by omega
        clear g1 g2 g3
        go_wp2_with fail
        refine bodyPost_ret (v := .tuple #[.agg #[.slice none 0 0, .slice none 0 0, .slice none 0 0], .int .i64 4]) (by simp [results, Try.results71, go_sem]) rfl ⟨by rw [hV.out], hB0'.out⟩
    · have hV : Hid (boundV pa pn pc ca cn cc ja jn jc R = .tuple #[.agg #[.slice none 0 0, .slice none 0 0, .slice none 0 0], .int .i64 4]) := by
        unfold boundV; rw [hfit, if_neg (by simp [g2])]; exact rfl
      clear hfit hw0 hB0 hX0 hY0
      go_enter Try.func71, Try.ntmps71
      have q0 : ¬ (2000 : Int) < pn := by omega
      have q1 : (1000 : Int) < cn := by omega
      clear g1 g2
      go_wp2_with fail
      refine bodyPost_ret (v := .tuple #[.agg #[.slice none 0 0, .slice none 0 0, .slice none 0 0], .int .i64 4]) (by simp [results, Try.results71, go_sem]) rfl ⟨by rw [hV.out], hB0'.out⟩
  · have hV : Hid (boundV pa pn pc ca cn cc ja jn jc R = .tuple #[.agg #[.slice none 0 0, .slice none 0 0, .slice none 0 0], .int .i64 4]) := by
      unfold boundV; rw [hfit, if_neg (by simp [g1])]; exact rfl
    clear hfit hw0 hB0 hX0 hY0
    go_enter Try.func71, Try.ntmps71
    have q0 : (2000 : Int) < pn := by omega
    clear g1
    go_wp2_with fail
    refine bodyPost_ret (v := .tuple #[.agg #[.slice none 0 0, .slice none 0 0, .slice none 0 0], .int .i64 4]) (by simp [results, Try.results71, go_sem]) rfl ⟨by rw [hV.out], hB0'.out⟩
end Go.Proofs.Ytomloklckpcaiaa

/- hairpinref01.Normal, for a road as defined. -/
namespace Go.Proofs.Ytomloklckpcaiaa
open Go.RowKit Go.Shelf Go.Sort Go.Proofs

section
variable {P : Program} {α : Type}
/-- An append of a whole slice to nothing, as one operation. -/
theorem exec_app0 {W : World} {o : Oper} {a : Act} (s x : Operand) (t : TypeId)
    (ho : o.op = .call { callee := .builtin .append, args := #[s, x], argTypes := #[t, t] })
    (base : Nat) (e : TypeId) (z : Value) (sz bytes : Nat) (ht : P.underlying t = some (.slice e)) (hi : (P.info? e).map (fun i => (i.zero, i.size, i.bytes)) = some (some z, sz, bytes))
    (hzs : z.cells.size = sz) (hsz : 0 < sz) (f : α → List Value) (hs : a.eval s = .slice none 0 0)
    (B : Nat) (A2 : Option Addr) (m c2 : Nat) (ys : List α) (hx : a.eval x = .slice A2 m c2) (hy : SL f sz W B A2 m ys) (hf : ∀ x, (f x).length = sz) (h1 : ∀ x, ∀ u ∈ f x, u.oneCell' = true)
    (hbytes : m * bytes ≤ 140737488355328) (hby : 1 ≤ bytes) (hbase : base ≤ W.heap.size) :
    ∃ (i : Option Addr × Nat) (w' : World), (execOp a.eval o).run P W = .ok (.value (.slice i.1 m i.2)) w' ∧ OW f sz e base w' i.1 m i.2 ys ∧ Below W.heap.size W w' := by
  obtain ⟨i, hi', hz, hsize, hbytes'⟩ := info_parts hi
  obtain ⟨A', c', w', hrun, hap⟩ := run_appS (P := P) (c := 0) (c2 := c2) t o.type i z bytes ht hi' hz hsize hbytes' hzs hsz (OW.nil_ : OW f sz e base W none 0 0 ([] : List α)) hy hf h1 (by rw [Nat.zero_add]; exact hbytes) hby hbase
  rw [Nat.zero_add] at hrun
  have ho1 := hap.own
  rw [Nat.zero_add, List.nil_append] at ho1
  refine ⟨(A', c'), w', ?_, ho1, ⟨hap.bel.os, hap.bel.tape, hap.bel.output, hap.size, fun k hk => hap.far k hk (fun b hb => by cases hb)⟩⟩
  unfold execOp
  simp only [ho, resolve, invoke, builtin, Sem.run_bind, Sem.run_pure, Result.andThen_ok, List.map_toArray, List.map_cons, List.map_nil, hs, hx, hrun]
end

set_option maxRecDepth 100000 in
set_option maxHeartbeats 4000000 in
theorem RNormal_in (pa : Option Addr) (pn pc : Nat) (ca : Option Addr) (cn cc : Nat) (ja : Option Addr) (jn jc : Nat) (R : Road) (w : World)
    (h : RD w w.heap.size pa pn ca cn ja jn R) (hv : OK R) :
    Calls Try.prog 37 #[.agg #[.slice pa pn pc, .slice ca cn cc, .slice ja jn jc]] w fun e w' => ∃ pa' pn' pc' ca' cc' ja' jc', e = .returned (.agg #[.slice pa' pn' pc', .slice ca' cn cc', .slice ja' jn jc']) ∧
      (OW pC 5 52 w.heap.size w' pa' pn' pc' (normP R.ps) ∧ OW cC 2 87 w.heap.size w' ca' cn cc' R.cs ∧ OW jC 3 89 w.heap.size w' ja' jn jc' R.js) ∧ Below w.heap.size w w' := by
  have hR := Lib.hid h
  have hmo : Try.prog.follows .mixedOrders = true := by kernel_rfl
  have hpn : pn ≤ 2000 := by rw [h.p.1]; exact hv.p2
  have hcn : cn ≤ 1000 := by rw [h.c.1]; exact hv.c1
  have hjn : jn ≤ 200 := by rw [h.j.1]; exact hv.j1
  have hlen : Hid (∀ q ∈ R.ps, 1 ≤ q.len ∧ q.len ≤ 5000) := fun q hq => pOk_len (hv.pk q hq)
  clear h hv
  obtain ⟨w3, hw3⟩ : ∃ w3, w3 = (w.alloc (.cells #[.slice pa pn pc, .slice ca cn cc, .slice ja jn jc] 26)).alloc (.cells #[.slice none 0 0, .slice none 0 0, .slice none 0 0] 26) := ⟨_, rfl⟩
  have hB3 : Below w.heap.size w w3 := by rw [hw3]; exact ((Below.refl w.heap.size w).alloc (Nat.le_refl _) _).alloc (by simp) _
  have hX3 : BK w3 w.heap.size 26 #[.slice pa pn pc, .slice ca cn cc, .slice ja jn jc] := by rw [hw3]; exact (BK.new w _ _).alloc _
  have hY3 : BK w3 (w.heap.size + 1) 26 #[.slice none 0 0, .slice none 0 0, .slice none 0 0] := by rw [hw3]; have := BK.new (w.alloc (.cells #[.slice pa pn pc, .slice ca cn cc, .slice ja jn jc] 26)) 26 #[.slice none 0 0, .slice none 0 0, .slice none 0 0]; rw [World.size_alloc] at this; exact this
  go_enter Try.func37, Try.ntmps37
  go_wp2_with fail
  rw [← hw3]
  clear hw3
  refine wp_region_ch 10 [2, 5, 8] hmo (by kernel_rfl) ?_
  simp only [List.take_succ_cons, List.take_zero, List.drop_succ_cons, List.drop_zero]
  have x0 := fun d os => cell_regrown (hX3.cell 0) d os
  have x1 := fun d os => cell_regrown (hX3.cell 1) d os
  have x2 := fun d os => cell_regrown (hX3.cell 2) d os
  have HR3 := Lib.hid (hR.out.grow hB3 hB3.size)
  repeat (refine wpC_q (by decide) (by decide) (fun K hK => ?_); go_simp; refine hK _ ?_; clear hK K)
  refine wpC_c (ι := Option Addr × Nat × Nat) 73 #[.slice pa pn pc] (fun i => .slice i.1 i.2.1 i.2.2) (fun i x => OW pC 5 52 w3.heap.size x i.1 i.2.1 i.2.2 (normP R.ps)) (by decide) (by decide) rfl (fun w => by go_simp) stable_true (fun i => stable_ow _ _ _ _ _ _ _ _) (fun W hW _ => ?_) (fun i1 hs1 => ?_)
  · obtain ⟨p, rfl⟩ := hW
    have hb := below_regrown w3 p.d p.os
    refine (pieces_in _ _ _ R.ps _ (HR3.out.p.grow hb hb.size) hlen.out hpn).mono ?_
    rintro e w' ⟨A', n', c', rfl, ho, hbl⟩
    exact ⟨(A', n', c'), rfl, ho.drop0 hb.size, hbl⟩
  repeat (refine wpC_q (by decide) (by decide) (fun K hK => ?_); go_simp; refine hK _ ?_; clear hK K)
  refine wpC_v (ι := Option Addr × Nat) (fun i => .slice i.1 cn i.2) (fun i x => OW cC 2 87 w3.heap.size x i.1 cn i.2 R.cs) (by decide) (by decide) rfl hs1 (fun i => stable_ow _ _ _ _ _ _ _ _) (fun W hW _ => ?_) (fun i2 hs2 => ?_)
  · obtain ⟨p, rfl⟩ := hW
    have hb := below_regrown w3 p.d p.os
    exact exec_app0 _ _ 23 rfl w3.heap.size 87 _ 2 16 Try.underlying23 infoC rfl (by decide) cC rfl _ _ _ _ R.cs rfl (HR3.out.c.grow hb hb.size) cC_len oneC (by omega) (by omega) hb.size
  repeat (refine wpC_q (by decide) (by decide) (fun K hK => ?_); go_simp; refine hK _ ?_; clear hK K)
  refine wpC_v (ι := Option Addr × Nat) (fun i => .slice i.1 jn i.2) (fun i x => OW jC 3 89 w3.heap.size x i.1 jn i.2 R.js) (by decide) (by decide) rfl hs2 (fun i => stable_ow _ _ _ _ _ _ _ _) (fun W hW _ => ?_) (fun i3 hs3 => ?_)
  · obtain ⟨p, rfl⟩ := hW
    have hb := below_regrown w3 p.d p.os
    exact exec_app0 _ _ 24 rfl w3.heap.size 89 _ 3 24 Try.underlying24 infoJ rfl (by decide) jC rfl _ _ _ _ R.js rfl (HR3.out.j.grow hb hb.size) jC_len oneJ (by omega) (by omega) hb.size
  obtain ⟨A1, n1, c1⟩ := i1
  obtain ⟨A2, c2⟩ := i2
  obtain ⟨A3, c3⟩ := i3
  repeat (refine wpC_q (by decide) (by decide) (fun K hK => ?_); go_simp; refine hK _ ?_; clear hK K)
  refine wpC_nil ?_
  intro w4 hk3 hΦ
  obtain ⟨⟨⟨-, o1⟩, o2⟩, o3⟩ := hΦ
  simp only at o1 o2 o3 ⊢
  clear x0 x1 x2 hs1 hs2 hs3 HR3
  have hB4 := hB3.trans (hk3.mono hB3.size)
  have hY4 := hY3.below hk3 hY3.lt
  have hz3 : w.heap.size + 1 < w3.heap.size := hY3.lt
  have y0 := hY4.cell 0
  have y1 := hY4.cell 1
  have y2 := hY4.cell 2
  have yf := hY4.frozen
  have hyl := hY4.lt
  simp only [List.getElem?_toArray, List.getElem?_cons_zero, List.getElem?_cons_succ] at y0 y1 y2
  have f1 : ∀ a, A1 = some a → a.block ≠ w.heap.size + 1 := fun a ha => by have := (o1.lt ha).1; omega
  have f2 : ∀ a, A2 = some a → a.block ≠ w.heap.size + 1 := fun a ha => by have := (o2.lt ha).1; omega
  have f3 : ∀ a, A3 = some a → a.block ≠ w.heap.size + 1 := fun a ha => by have := (o3.lt ha).1; omega
  have r1 := (((o1.setCell (p := ⟨w.heap.size + 1, 0, none⟩) f1 (.slice A1 n1 c1)).setCell (p := ⟨w.heap.size + 1, 1, none⟩) f1 (.slice A2 cn c2)).setCell (p := ⟨w.heap.size + 1, 2, none⟩) f1 (.slice A3 jn c3)).drop0 hB3.size
  have r2 := (((o2.setCell (p := ⟨w.heap.size + 1, 0, none⟩) f2 (.slice A1 n1 c1)).setCell (p := ⟨w.heap.size + 1, 1, none⟩) f2 (.slice A2 cn c2)).setCell (p := ⟨w.heap.size + 1, 2, none⟩) f2 (.slice A3 jn c3)).drop0 hB3.size
  have r3 := (((o3.setCell (p := ⟨w.heap.size + 1, 0, none⟩) f3 (.slice A1 n1 c1)).setCell (p := ⟨w.heap.size + 1, 1, none⟩) f3 (.slice A2 cn c2)).setCell (p := ⟨w.heap.size + 1, 2, none⟩) f3 (.slice A3 jn c3)).drop0 hB3.size
  have rB := ((hB4.setCell (p := ⟨w.heap.size + 1, 0, none⟩) (by simp) (.slice A1 n1 c1)).setCell (p := ⟨w.heap.size + 1, 1, none⟩) (by simp) (.slice A2 cn c2)).setCell (p := ⟨w.heap.size + 1, 2, none⟩) (by simp) (.slice A3 jn c3)
  have RR := Lib.hid (And.intro (And.intro r1 (And.intro r2 r3)) rB)
  clear r1 r2 r3 rB f1 f2 f3 o1 o2 o3 hk3 hB4
  go_wp2_with fail
  have hYF := ((hY4.set_ 0 (.slice A1 n1 c1)).set_ 1 (.slice A2 cn c2)).set_ 2 (.slice A3 jn c3)
  obtain ⟨wF, hwF⟩ : ∃ wF, wF = ((w4.setCell ⟨w.heap.size + 1, 0, none⟩ (.slice A1 n1 c1)).setCell ⟨w.heap.size + 1, 1, none⟩ (.slice A2 cn c2)).setCell ⟨w.heap.size + 1, 2, none⟩ (.slice A3 jn c3) := ⟨_, rfl⟩
  rw [← hwF] at hYF RR ⊢
  clear hwF y0 y1 y2 yf hyl hY4
  have z0 := hYF.cell 0
  have z1 := hYF.cell 1
  have z2 := hYF.cell 2
  simp at z0 z1 z2
  refine bodyPost_ret (v := .agg #[.slice A1 n1 c1, .slice A2 cn c2, .slice A3 jn c3]) (by simp [results, Try.results37, go_sem, z0, z1, z2]) rfl ⟨_, _, _, _, _, _, _, rfl, RR.out.1, RR.out.2⟩
end Go.Proofs.Ytomloklckpcaiaa
