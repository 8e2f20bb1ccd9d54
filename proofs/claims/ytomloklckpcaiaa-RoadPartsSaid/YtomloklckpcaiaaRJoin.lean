/- hairpinref01.fits, hairpinref01.Join, walked. -/
import Derived.Test.YtomloklckpcaiaaRPart
namespace Go.Proofs.Ytomloklckpcaiaa
open Go.RowKit Go.Shelf Go.Sort Go.Proofs

set_option maxRecDepth 100000 in
set_option maxHeartbeats 2000000 in
theorem fits_any (pa : Option Addr) (pn pc : Nat) (ca : Option Addr) (cn cc : Nat) (ja : Option Addr) (jn jc : Nat) (R : Road) (w : World)
    (h : RD w w.heap.size pa pn ca cn ja jn R) (hk : ∀ p ∈ R.ps, pOk p = true) (hl : pn ≤ 20000) :
    Calls Try.prog 77 #[.agg #[.slice pa pn pc, .slice ca cn cc, .slice ja jn jc]] w fun e w' => e = .returned (.bool (fitsR R)) ∧ Below w.heap.size w w' := by
  have hR := Lib.hid h
  have hk' := Lib.hid hk
  have hfit : fitsR R = (decide ((pn : Int) ≤ 2000) && (decide ((cn : Int) ≤ 1000) && (decide ((jn : Int) ≤ 200) && decide (sumL R.ps ≤ 100000)))) := by
    have q1 : decide (pn ≤ 2000) = decide ((pn : Int) ≤ 2000) := by rw [decide_eq_decide]; omega
    have q2 : decide (cn ≤ 1000) = decide ((cn : Int) ≤ 1000) := by rw [decide_eq_decide]; omega
    have q3 : decide (jn ≤ 200) = decide ((jn : Int) ≤ 200) := by rw [decide_eq_decide]; omega
    rw [fitsR, ← h.p.1, ← h.c.1, ← h.j.1, q1, q2, q3]
  clear h hk
  rw [hfit]
  clear hfit
  obtain ⟨W0, hW0⟩ : ∃ W0, W0 = w.alloc (.cells #[.slice pa pn pc, .slice ca cn cc, .slice ja jn jc] 26) := ⟨_, rfl⟩
  have hB0 : Below w.heap.size w W0 := by rw [hW0]; exact (Below.refl w.heap.size w).alloc (Nat.le_refl _) _
  go_enter Try.func77, Try.ntmps77
  cases e1 : decide ((pn : Int) ≤ 2000)
  · go_wp2_with fail
    go_ret
    exact ⟨by simp, by rw [← hW0]; exact hB0⟩
  cases e2 : decide ((cn : Int) ≤ 1000)
  · go_wp2_with fail
    go_ret
    exact ⟨by simp, by rw [← hW0]; exact hB0⟩
  cases e3 : decide ((jn : Int) ≤ 200)
  · go_wp2_with fail
    go_ret
    exact ⟨by simp, by rw [← hW0]; exact hB0⟩
  go_wp2_with fail
  rw [← hW0]
  refine (rLength_any pa pn pc ca cn cc ja jn jc R _ (hR.out.grow hB0 hB0.size) hk'.out (by omega)).mono ?_
  rintro e W1 ⟨rfl, hb1⟩
  go_wp2_with fail
  go_ret
  exact ⟨by simp, hB0.trans (hb1.mono hB0.size)⟩

theorem sum_nn : ∀ {ps : List Piece}, (∀ q ∈ ps, 1 ≤ q.len) → 0 ≤ sumL ps
  | [], _ => Int.le_refl 0
  | p :: ps, h => by
    have h1 := h p (List.mem_cons_self ..)
    have h2 := sum_nn (ps := ps) (fun q hq => h q (List.mem_cons_of_mem _ hq))
    rw [sumL_cons]; omega
theorem part_its (n : Int) : ∀ (ps : List Piece) (b : Int), 0 ≤ b → b + sumL ps ≤ n → (∀ p ∈ ps, 1 ≤ p.len) → (its b ps).filterMap (prt 0 n) = ps
  | [], _, _, _, _ => rfl
  | p :: ps, b, h0, hn, hp => by
    have h1 := hp p (List.mem_cons_self ..)
    have h2 := sum_nn (ps := ps) (fun q hq => hp q (List.mem_cons_of_mem _ hq))
    rw [sumL_cons] at hn
    have hq : prt 0 n (b, p) = some p := by
      unfold prt
      simp only
      rw [show max 0 b = b by omega, show min n (b + p.len) = b + p.len by omega, if_pos (by omega)]
      congr 1
      rw [show b + p.len - b = p.len by omega]
    rw [its, List.filterMap_cons, hq]
    simp only
    rw [part_its n ps (b + p.len) (by omega) (by omega) (fun q hq => hp q (List.mem_cons_of_mem _ hq))]
theorem fm_all {α : Type} (g : α → Option α) : ∀ (l : List α), (∀ x ∈ l, g x = some x) → l.filterMap g = l
  | [], _ => rfl
  | x :: l, h => by rw [List.filterMap_cons, h x (List.mem_cons_self ..)]; simp only; rw [fm_all g l (fun y hy => h y (List.mem_cons_of_mem _ hy))]
theorem part_all {R : Road} (hv : OK R) : partR 0 (sumL R.ps) R = R := by
  have h1 := part_its (sumL R.ps) R.ps 0 (Int.le_refl 0) (by omega) (fun p hp => (pOk_len (hv.pk p hp)).1)
  have h2 : R.cs.filterMap (prtC 0 (sumL R.ps)) = R.cs := fm_all _ _ fun c hc => by
    have := (cbd hv c hc).1
    rw [prtC, if_pos (by simp [inR]; omega), Int.sub_zero]
  have h3 : R.js.filterMap (prtJ 0 (sumL R.ps)) = R.js := fm_all _ _ fun c hc => by
    have := (jbd hv c hc).1
    rw [prtJ, if_pos (by simp [inR]; omega), Int.sub_zero]
  rw [partR, h1, h2, h3]
theorem JB.appPS {tR tP tC tJ : TypeId} {base : Nat} {w w' : World} {tb : Nat} {A1 : Option Addr} {n1 c1 : Nat} {ps : List Piece} {A2 : Option Addr} {n2 c2 : Nat} {cs : List Crest} {A3 : Option Addr} {n3 c3 : Nat} {js : List Junc}
    (h : JB tR tP tC tJ base w tb A1 n1 c1 ps A2 n2 c2 cs A3 n3 c3 js) (hRP : tP ≠ tR) (hCP : tP ≠ tC) (hJP : tP ≠ tJ) (hCR : tC ≠ tR) (hJR : tJ ≠ tR) {ys : List Piece} {m : Nat} {A' : Option Addr} {c' : Nat} (hap : AppS pC 5 tP base w A1 n1 c1 m ps ys A' c' w') :
    JB tR tP tC tJ base (w'.setCell ⟨tb, 0, none⟩ (.slice A' (n1 + m) c')) tb A' (n1 + m) c' (ps ++ ys) A2 n2 c2 cs A3 n3 c3 js := by
  have hb1 : BK w' tb tR #[.slice A1 n1 c1, .slice A2 n2 c2, .slice A3 n3 c3] := h.b.same (hap.far tb h.b.lt (fun b hb => BK.ne_row (.inr ⟨_, h.b⟩) h.p hRP hb))
  have hc1 : OW cC 2 tC base w' A2 n2 c2 cs := h.c.keep fun a ha => hap.far _ (h.c.lt ha).2 (fun b hb e => h.p.ne h.c hCP hb ha e)
  have hj1 : OW jC 3 tJ base w' A3 n3 c3 js := h.j.keep fun a ha => hap.far _ (h.j.lt ha).2 (fun b hb e => h.p.ne h.j hJP hb ha e)
  exact ⟨hb1.set_ 0 _, hap.own.setCell (fun a ha => BK.ne_row (.inr ⟨_, hb1⟩) hap.own hRP ha) _, hc1.setCell (fun a ha => BK.ne_row (.inr ⟨_, hb1⟩) hc1 hCR ha) _, hj1.setCell (fun a ha => BK.ne_row (.inr ⟨_, hb1⟩) hj1 hJR ha) _⟩

set_option maxRecDepth 100000 in
set_option maxHeartbeats 8000000 in
theorem rJoin_in (pa : Option Addr) (pn pc : Nat) (ca : Option Addr) (cn cc : Nat) (ja : Option Addr) (jn jc : Nat) (R : Road) (pa2 : Option Addr) (pn2 pc2 : Nat) (ca2 : Option Addr) (cn2 cc2 : Nat) (ja2 : Option Addr) (jn2 jc2 : Nat) (R2 : Road) (w : World)
    (h : RD w w.heap.size pa pn ca cn ja jn R) (h2 : RD w w.heap.size pa2 pn2 ca2 cn2 ja2 jn2 R2) (hv : OK R) (hv2 : OK R2) :
    Calls Try.prog 42 #[.agg #[.slice pa pn pc, .slice ca cn cc, .slice ja jn jc], .agg #[.slice pa2 pn2 pc2, .slice ca2 cn2 cc2, .slice ja2 jn2 jc2]] w fun e w' => ∃ A1 c1 A2 n2' c2' A3 n3' c3', e = .returned (.tuple #[.agg #[.slice A1 (pn + pn2) c1, .slice A2 n2' c2', .slice A3 n3' c3'], .bool (fitsR (joinR R R2))]) ∧
      (OW pC 5 52 w.heap.size w' A1 (pn + pn2) c1 (joinR R R2).ps ∧ OW cC 2 87 w.heap.size w' A2 n2' c2' (joinR R R2).cs ∧ OW jC 3 89 w.heap.size w' A3 n3' c3' (joinR R R2).js) ∧ Below w.heap.size w w' := by
  have hR := Lib.hid h
  have hR2 := Lib.hid h2
  have hv' := Lib.hid hv
  have hv2' := Lib.hid hv2
  have hmo : Try.prog.follows .mixedOrders = true := by kernel_rfl
  have hpn : pn ≤ 2000 := by rw [h.p.1]; exact hv.p2
  have hpn2 : pn2 ≤ 2000 := by rw [h2.p.1]; exact hv2.p2
  have hcn : cn ≤ 1000 := by rw [h.c.1]; exact hv.c1
  have hcn2 : cn2 ≤ 1000 := by rw [h2.c.1]; exact hv2.c1
  have hjn : jn ≤ 200 := by rw [h.j.1]; exact hv.j1
  have hjn2 : jn2 ≤ 200 := by rw [h2.j.1]; exact hv2.j1
  have HP1 := Lib.hid h.p.1
  have HCC := Lib.hid h.c.1
  have HJJ := Lib.hid h.j.1
  have HC1 : Hid (R.cs.length ≤ 1000) := hv.c1
  have HJ1 : Hid (R.js.length ≤ 200) := hv.j1
  have HC2 := Lib.hid h2.c.1
  have HJ2 := Lib.hid h2.j.1
  have HPK : Hid (∀ p ∈ (joinR R R2).ps, pOk p = true) := fun p hp => by
    rcases List.mem_append.1 hp with h | h
    · exact hv.pk p h
    · exact hv2.pk p h
  have hs1 := hv.n1
  have hs2 := hv2.n1
  have hs0 := sumL_bd R.ps hv.pk
  have hs3 : 0 ≤ sumL R.ps := by omega
  have HPA := Lib.hid (part_all hv)
  clear h h2 hv hv2 hs0
  obtain ⟨W4, hW4⟩ : ∃ W4, W4 = ((w.alloc (.cells #[.slice pa pn pc, .slice ca cn cc, .slice ja jn jc] 26)).alloc (.cells #[.slice pa2 pn2 pc2, .slice ca2 cn2 cc2, .slice ja2 jn2 jc2] 26)).alloc (.cells #[.slice none 0 0, .slice none 0 0, .slice none 0 0] 26) := ⟨_, rfl⟩
  have hB4 : Below w.heap.size w W4 := by rw [hW4]; exact (((Below.refl w.heap.size w).alloc (Nat.le_refl _) _).alloc (by simp) _).alloc (by simp <;> omega) _
  have hX4 : BK W4 w.heap.size 26 #[.slice pa pn pc, .slice ca cn cc, .slice ja jn jc] := by rw [hW4]; exact ((BK.new w _ _).alloc _).alloc _
  have hY4 : BK W4 (w.heap.size + 1) 26 #[.slice pa2 pn2 pc2, .slice ca2 cn2 cc2, .slice ja2 jn2 jc2] := by rw [hW4]; have := BK.new (w.alloc (.cells #[.slice pa pn pc, .slice ca cn cc, .slice ja jn jc] 26)) 26 #[.slice pa2 pn2 pc2, .slice ca2 cn2 cc2, .slice ja2 jn2 jc2]; rw [World.size_alloc] at this; exact this.alloc _
  have hZ4 : BK W4 (w.heap.size + 2) 26 #[.slice none 0 0, .slice none 0 0, .slice none 0 0] := by rw [hW4]; have := BK.new ((w.alloc (.cells #[.slice pa pn pc, .slice ca cn cc, .slice ja jn jc] 26)).alloc (.cells #[.slice pa2 pn2 pc2, .slice ca2 cn2 cc2, .slice ja2 jn2 jc2] 26)) 26 #[.slice none 0 0, .slice none 0 0, .slice none 0 0]; rw [World.size_alloc, World.size_alloc] at this; exact this
  obtain ⟨N, hN⟩ : ∃ N, N = sumL R.ps := ⟨_, rfl⟩
  have HN := Lib.hid hN
  rw [← hN] at hs1 hs3
  clear hN
  have HR4 := Lib.hid (hR.out.grow hB4 hB4.size)
  have HR42 := Lib.hid (hR2.out.grow hB4 hB4.size)
  go_enter Try.func42, Try.ntmps42
  go_wp2_with fail
  rw [← hW4]
  clear hW4
  have x0 := fun d os => cell_regrown (hX4.cell 0) d os
  have x1 := fun d os => cell_regrown (hX4.cell 1) d os
  have x2 := fun d os => cell_regrown (hX4.cell 2) d os
  refine wp_region_cha 5 4 [2, 3] 26 #[.slice none 0 0, .slice none 0 0, .slice none 0 0] 6 _ hmo (by decide) rfl rfl rfl (fun a w => rfl) (by kernel_rfl) ?_
  simp only [List.take_succ_cons, List.take_zero, List.drop_succ_cons, List.drop_zero]
  repeat (refine wpC_q (by decide) (by decide) (fun K hK => ?_); go_simp; refine hK _ ?_; clear hK K)
  refine wpC_c (ι := Unit) 22 #[.agg #[.slice pa pn pc, .slice ca cn cc, .slice ja jn jc]] (fun _ => .int .i64 N) (fun _ _ => True) (by decide) (by decide) rfl (fun w => by go_simp) stable_true (fun _ => stable_true) (fun W hW _ => ?_) (fun i1 hs1' => ?_)
  · obtain ⟨p, rfl⟩ := hW
    have hb := below_regrown W4 p.d p.os
    refine (rLength_any pa pn pc ca cn cc ja jn jc R _ (HR4.out.grow hb hb.size) hv'.out.pk (by omega)).mono ?_
    rintro e w' ⟨rfl, hbl⟩
    exact ⟨(), by rw [HN.out], trivial, hbl⟩
  refine wpC_c (ι := Value) 45 #[.agg #[.slice pa pn pc, .slice ca cn cc, .slice ja jn jc], .int .i64 0, .int .i64 N] (fun i => i) (fun i x => ∃ A1 c1 A2 c2 A3 c3, i = .agg #[.slice A1 pn c1, .slice A2 cn c2, .slice A3 jn c3] ∧ OW pC 5 52 W4.heap.size x A1 pn c1 R.ps ∧ OW cC 2 87 W4.heap.size x A2 cn c2 R.cs ∧ OW jC 3 89 W4.heap.size x A3 jn c3 R.js) (by decide) (by decide) rfl (fun w => by go_simp) hs1'
    (fun i x y ⟨a1, a2, a3, a4, a5, a6, e, o1, o2, o3⟩ hb => ⟨a1, a2, a3, a4, a5, a6, e, o1.call hb, o2.call hb, o3.call hb⟩) (fun W hW _ => ?_) (fun i2 hs2' => ?_)
  · obtain ⟨p, rfl⟩ := hW
    have hb := below_regrown W4 p.d p.os
    have hpi := rPart_in 0 N pa pn pc ca cn cc ja jn jc R _ (HR4.out.grow hb hb.size) hv'.out (by omega) (by omega) (by omega) (by omega)
    rw [show partR 0 N R = R by rw [HN.out]; exact HPA.out] at hpi
    refine hpi.mono ?_
    rintro e w' ⟨A1, n1, c1, A2, n2, c2, A3, n3, c3, rfl, ⟨o1, o2, o3⟩, hbl⟩
    obtain rfl : n1 = pn := by rw [o1.2, HP1.out]
    obtain rfl : n2 = cn := by rw [o2.2, HCC.out]
    obtain rfl : n3 = jn := by rw [o3.2, HJJ.out]
    exact ⟨_, rfl, ⟨A1, c1, A2, c2, A3, c3, rfl, o1.drop0 hb.size, o2.drop0 hb.size, o3.drop0 hb.size⟩, hbl⟩
  refine wpC_a (by decide) ?_
  refine wpC_nil ?_
  intro tb W5 hk4 hΦ htb hTB
  obtain ⟨-, A1, c1, A2, c2, A3, c3, rfl, o1, o2, o3⟩ := hΦ
  clear x0 x1 x2 hs1' hs2' HR4
  have t0 := hTB.cell 0
  have t1 := hTB.cell 1
  have t2 := hTB.cell 2
  have tf := hTB.frozen
  have tl := hTB.lt
  simp only [List.getElem?_toArray, List.getElem?_cons_zero, List.getElem?_cons_succ] at t0 t1 t2
  have HTB : Hid (W4.heap.size ≤ tb) := htb
  have hX5 := hX4.below hk4 hX4.lt
  go_upto_region 2 with fail
  refine wp_wnamed (fun W6 hW6 => ?_)
  have hJ6 : JB 26 52 87 89 W4.heap.size W6 tb A1 pn c1 R.ps A2 cn c2 R.cs A3 jn c3 R.js := by
    have f1 : ∀ a, A1 = some a → a.block ≠ tb := fun a ha => BK.ne_row (.inr ⟨_, hTB⟩) o1 (by decide) ha
    have f2 : ∀ a, A2 = some a → a.block ≠ tb := fun a ha => BK.ne_row (.inr ⟨_, hTB⟩) o2 (by decide) ha
    have f3 : ∀ a, A3 = some a → a.block ≠ tb := fun a ha => BK.ne_row (.inr ⟨_, hTB⟩) o3 (by decide) ha
    rw [hW6]
    exact ⟨((hTB.set_ 0 _).set_ 1 _).set_ 2 _, ((o1.setCell f1 _).setCell f1 _).setCell f1 _, ((o2.setCell f2 _).setCell f2 _).setCell f2 _, ((o3.setCell f3 _).setCell f3 _).setCell f3 _⟩
  have hb6 : Below W4.heap.size W4 W6 := by rw [hW6]; exact ((hk4.setCell htb _).setCell htb _).setCell htb _
  clear hW6 t0 t1 t2 tf tl hTB o1 o2 o3 hk4 htb hX5
  have hX6 := hX4.below hb6 hX4.lt
  have x0 := hX6.cell 0
  have x1 := hX6.cell 1
  have x2 := hX6.cell 2
  simp only [List.getElem?_toArray, List.getElem?_cons_zero, List.getElem?_cons_succ] at x0 x1 x2
  have hB6 := hB4.trans (hb6.mono hB4.size)
  go_wp2_with fail
  clear x0 x1 x2
  refine (rLength_any pa pn pc ca cn cc ja jn jc R _ (hR.out.grow hB6 hB6.size) hv'.out.pk (by omega)).mono ?_
  rintro e W7 ⟨rfl, hb7'⟩
  rw [← HN.out]
  have hJ7 := hJ6.call hb7'
  have hb7 := hb6.trans (hb7'.mono hb6.size)
  have hY7 := hY4.below hb7 hY4.lt
  clear hJ6 hb6 hX6 hB6 hb7'
  have y0 := hY7.cell 0
  have b0 := hJ7.b.cell 0
  have bl := hJ7.b.lt
  simp only [List.getElem?_toArray, List.getElem?_cons_zero] at y0 b0
  have HFZ : Hid (∀ w3 A' c', AppS pC 5 52 W4.heap.size W7 A1 pn c1 pn2 R.ps R2.ps A' c' w3 → w3.heap[tb]? = W7.heap[tb]?) := by
    intro w3 A' c' hap
    exact hap.far _ hJ7.b.lt (fun b hb => BK.ne_row (.inr ⟨_, hJ7.b⟩) hJ7.p (by decide) hb)
  have hz7 := hb7.size
  go_wp2_with (at_builtin; refine wpList_appS rfl _ _ 22 rfl W4.heap.size 52 _ 5 40 Try.underlying22 infoP rfl (by decide) pC A1 pn c1 R.ps rfl hJ7.p W4.heap.size pa2 pn2 pc2 R2.ps rfl (HR42.out.p.below hb7) pC_len oneP (by omega) (by omega) (by omega) ?_; intro A1' c1' w8 hap; have hw8 := HFZ.out _ _ _ hap; have hm8 := hJ7.b.same hw8; have mf := hm8.frozen 0; have m0 := hm8.cell 0; have HAP := Lib.hid hap; clear hap)
  refine wp_wnamed (fun W9 hW9 => ?_)
  have hJ9 : JB 26 52 87 89 W4.heap.size W9 tb A1' (pn + pn2) c1' (R.ps ++ R2.ps) A2 cn c2 R.cs A3 jn c3 R.js := by rw [hW9]; exact hJ7.appPS (by decide) (by decide) (by decide) (by decide) (by decide) HAP.out
  have hb9 : Below W4.heap.size W4 W9 := by rw [hW9]; exact (hb7.trans HAP.out.bel).setCell HTB.out _
  clear hW9 HAP HFZ hw8 hm8 mf m0 y0 b0 bl hJ7 hY7 hz7 hb7
  obtain ⟨A1, rfl⟩ : ∃ A : Option Addr, A = A1' := ⟨_, rfl⟩
  obtain ⟨c1, rfl⟩ : ∃ c : Nat, c = c1' := ⟨_, rfl⟩
  go_loopw [8] (fun i wr => ∃ (k : Nat) (A2 : Option Addr) (n2' c2' : Nat), k ≤ cn2 ∧ i = .int .i64 k ∧ JB 26 52 87 89 W4.heap.size wr tb A1 (pn + pn2) c1 (R.ps ++ R2.ps) A2 n2' c2' ((R2.cs.take k).foldl (joinC N) R.cs) A3 jn c3 R.js ∧ Below W4.heap.size W4 wr)
    (fun i _ => cn2 - (intOf i).toNat)
  case atStart => exact ⟨0, A2, cn, c2, Nat.zero_le _, rfl, hJ9, hb9⟩
  case round =>
    obtain ⟨k, A2, n2', c2', hk, rfl, hJ, hb⟩ := hrel
    have hsz := hb.size
    have hYr := hY4.below hb hY4.lt
    have y1 := hYr.cell 1
    simp only [List.getElem?_toArray, List.getElem?_cons_zero, List.getElem?_cons_succ] at y1
    by_cases hlt : k < cn2
    · have hkl : k < R2.cs.length := by rw [← HC2.out]; exact hlt
      obtain ⟨bb, off, hA, hbB, k0, k1⟩ := CS.at_ (HR42.out.c.grow hb hsz) (k := k) hkl
      obtain ⟨L, hL0⟩ : ∃ L, L = (R2.cs.take k).foldl (joinC N) R.cs := ⟨_, rfl⟩
      rw [← hL0] at hJ
      have hnew : Hid ((R2.cs.take (k + 1)).foldl (joinC N) R.cs = joinC N L R2.cs[k]) := by
        show _ = _
        rw [List.take_succ_eq_append_getElem hkl, List.foldl_append, ← hL0]
        rfl
      have hcb := cbd hv2'.out _ (List.getElem_mem hkl)
      have hLs : Hid (∀ d ∈ L, 1 ≤ d.siz ∧ d.siz ≤ 3) := by
        rw [hL0]
        exact foldC_siz N _ _ (fun d hd => (cbd hv2'.out d (List.mem_of_mem_take hd)).2) (fun d hd => (cbd hv'.out d hd).2)
      have hnl : n2' ≤ 2000 := by
        have q1 := hJ.c.len
        have q2 := foldC_len N (R2.cs.take k) R.cs
        have q3 : (R2.cs.take k).length ≤ k := List.length_take_le ..
        have q4 := HC1.out
        rw [← hL0] at q2
        omega
      clear hL0
      generalize R2.cs[k]'hkl = c at k0 k1 hnew hcb
      obtain ⟨⟨hc1, hc2⟩, hc3, hc4⟩ := hcb
      have hwp : IntKind.i64.wrap (c.pos + N) = c.pos + N := IntWalk.i64_in _ (by omega)
      have bl := hJ.b.lt
      have b1 := hJ.b.cell 1
      simp only [List.getElem?_toArray, List.getElem?_cons_zero, List.getElem?_cons_succ] at b1
      have hi1 : (0 : Int) ≤ (k : Int) := by omega
      have hi2 : (k : Int) < (cn2 : Int) := by omega
      subst hA
      have hwn0 : IntKind.i64.wrap ((n2' : Int) - 1) = (n2' : Int) - 1 := IntWalk.i64_in _ (by omega)
      go_upto_region 10 with fail
      refine wp_wnamed (fun Wg hWg => ?_)
      have G9 : BK Wg wr.heap.size 87 #[.int .i64 (c.pos + N), .int .i64 c.siz] := by rw [hWg]; exact BK.new wr _ _
      have hbg : Below wr.heap.size wr Wg := by rw [hWg]; exact (Below.refl _ wr).alloc (Nat.le_refl _) _
      have hJg := hJ.call hbg
      clear hWg k0 k1 b1 hJ bl
      have b1 := hJg.b.cell 1
      have g0 := G9.cell 0
      have g1 := G9.cell 1
      simp only [List.getElem?_toArray, List.getElem?_cons_zero, List.getElem?_cons_succ] at b1 g0 g1
      have q0 := fun d os => cell_regrown b1 d os
      have q1 := fun d os => cell_regrown g0 d os
      rcases nil_or_snoc L with hL | ⟨ds, d0, hL⟩
      · have hn0 : n2' = 0 := by have := hJg.c.len; rw [hL] at this; simpa using this
        subst hn0
        clear hwn0
        have hcase : Hid (joinC N L c = L ++ [⟨c.pos + N, c.siz⟩]) := by rw [hL]; exact rfl
        clear hL hnl
        go_wp2_with fail
        refine wp_region_qt 12 hmo (by kernel_rfl) ?_
        simp only [List.take_succ_cons, List.take_zero, List.drop_succ_cons, List.drop_zero]
        iterate 2 (quiet_step (fail))
        refine wpQuiet_off (.tmp 48) 49 2 9 true rfl rfl rfl rfl (by simp) rfl (by kernel_rfl) ?_
        simp only [List.take_succ_cons, List.take_zero, List.drop_succ_cons, List.drop_zero, offs, List.foldl_cons, List.foldl_nil, Act.put, List.setIfInBounds_toArray, List.set_cons_succ, List.set_cons_zero, Bool.not_true]
        intro a1 ha1
        refine wpQuiet_nil ?_
        intro Wh hbh
        rw [ha1]
        clear ha1
        have hJh := hJg.call hbh
        have G9h := G9.below hbh G9.lt
        have hbg2 := hbg.trans (hbh.mono hbg.size)
        clear hJg G9 hbg g0 q0 q1
        clear b1 g1
        have b1 := hJh.b.cell 1
        have bl := hJh.b.lt
        have g0 := G9h.cell 0
        have g1 := G9h.cell 1
        have gl := G9h.lt
        simp only [List.getElem?_toArray, List.getElem?_cons_zero, List.getElem?_cons_succ] at b1 g0 g1
        have hN1 := BK.new Wh 87 #[.int .i64 (c.pos + N), .int .i64 c.siz]
        have hJa := hJh.alloc (.cells #[.int .i64 (c.pos + N), .int .i64 c.siz] 87)
        have HFZ : Hid (∀ w3 g c'', App1 cC 2 87 W4.heap.size (Wh.alloc (.cells #[.int .i64 (c.pos + N), .int .i64 c.siz] 87)) A2 0 c2' L ⟨c.pos + N, c.siz⟩ g c'' w3 → w3.heap[tb]? = (Wh.alloc (.cells #[.int .i64 (c.pos + N), .int .i64 c.siz] 87)).heap[tb]?) := by
          intro w3 g c'' hap
          exact hap.far _ hJa.b.lt (fun b hb => BK.ne_row (.inr ⟨_, hJa.b⟩) hJa.c (by decide) hb)
        have hzw := hbg2.size
        go_wp2_with (at_builtin; refine wpList_app rfl _ _ 23 rfl W4.heap.size 87 _ 2 16 Try.underlying23 infoC rfl (by decide) cC A2 0 c2' L rfl hJa.c ⟨c.pos + N, c.siz⟩ #[.int .i64 (c.pos + N), .int .i64 c.siz] rfl rfl 87 Wh.heap.size rfl hN1 (by simp [cC, Value.oneCell']) (by omega) (by omega) (by simp; omega) ?_; intro g' c'' w1 hap; have hw1 := HFZ.out _ _ _ hap; have hm1 := hJa.b.same hw1; have mf := hm1.frozen 1; have m1 := hm1.cell 1; have HAP := Lib.hid hap; clear hap)
        have hap := HAP.out
        have hJn := hJa.appC (by decide) (by decide) (by decide) (by decide) (by decide) hap
        have hba := (Below.refl Wh.heap.size Wh).alloc (Nat.le_refl _) (.cells #[.int .i64 (c.pos + N), .int .i64 c.siz] 87)
        go_roundw
        case rel => exact ⟨k + 1, _, _, _, by omega, by go_num, by rw [hnew.out, hcase.out]; exact hJn, ((hb.trans (hbg2.mono hb.size)).trans ((hba.mono (by omega)).trans hap.bel)).setCell HTB.out _⟩
        case measure => simp [intOf]; omega
      · have hnD : n2' = ds.length + 1 := by have := hJg.c.len; rw [hL] at this; simpa using this
        obtain ⟨a1, hA0⟩ : ∃ a1, A2 = some a1 := by
          cases A2 with
          | none => have := hJg.c.none_.1; omega
          | some a1 => exact ⟨a1, rfl⟩
        obtain ⟨bo, rfl, hbo, hbbo, hfz, hrow⟩ := hJg.c.at_ cC_len a1 hA0
        have hat : L[n2' - 1]? = some d0 := by rw [hL, hnD]; simp
        have dt : Wg.cell? ⟨bo, (n2' - 1) * 2, none⟩ = some (.int .i64 d0.pos) := by have := hrow _ d0 hat 0 _ rfl; rw [show 0 + (n2' - 1) * 2 + 0 = (n2' - 1) * 2 by omega] at this; exact this
        have du : Wg.cell? ⟨bo, (n2' - 1) * 2 + 1, none⟩ = some (.int .i64 d0.siz) := by have := hrow _ d0 hat 1 _ rfl; rw [show 0 + (n2' - 1) * 2 + 1 = (n2' - 1) * 2 + 1 by omega] at this; exact this
        have df := hfz ((n2' - 1) * 2 + 1)
        have hds := hLs.out d0 (List.mem_of_getElem? hat)
        have hwn : IntKind.i64.wrap ((n2' : Int) - 1) = (n2' : Int) - 1 := IntWalk.i64_in _ (by omega)
        have hi3 : ((n2' : Int) - 1).toNat = n2' - 1 := by omega
        have hi4 : (0 : Int) ≤ (n2' : Int) - 1 := by omega
        have hi5 : (n2' : Int) - 1 < (n2' : Int) := by omega
        have hi6 : (1 : Int) ≤ (n2' : Int) := by omega
        have hn7 : 0 < n2' := by omega
        have HADD := Lib.hid (joinC_at N ds d0 c)
        have HL := Lib.hid hL
        have HND := Lib.hid hnD
        have HAT := Lib.hid hat
        subst hA0
        clear hfz hrow hL hnD hat
        have q2 := fun d os => cell_regrown dt d os
        go_wp2_with fail
        refine wp_region_qt 12 hmo (by kernel_rfl) ?_
        simp only [List.take_succ_cons, List.take_zero, List.drop_succ_cons, List.drop_zero]
        repeat (quiet_step (fail))
        refine wpQuiet_nil ?_
        intro Wh hbh
        clear q0 q1 q2
        have hJh := hJg.call hbh
        have G9h := G9.below hbh G9.lt
        have hbg2 := hbg.trans (hbh.mono hbg.size)
        have dt' := (bc hbh hbo).trans dt
        have du' := (bc hbh hbo).trans du
        have df' := (bf hbh hbo).trans df
        have hbo' := Nat.lt_of_lt_of_le hbo hbh.size
        clear hJg G9 hbg dt du df b1 g0 g1 hbo
        by_cases het : d0.pos = c.pos + N
        · obtain ⟨M, hM⟩ : ∃ M, M = max d0.siz c.siz := ⟨_, rfl⟩
          have hite : (if d0.siz < c.siz then c.siz else d0.siz) = M := by rw [hM]; split <;> omega
          have hcase : Hid (joinC N L c = L.set (n2' - 1) ⟨d0.pos, M⟩) := by
            show _ = _
            rw [HL.out, HADD.out, if_pos het, HND.out, hM]
            simp
          have et : (d0.pos == c.pos + N) = true := by simpa using het
          clear het hM
          have b1 := hJh.b.cell 1
          have g0 := G9h.cell 0
          have g1 := G9h.cell 1
          simp only [List.getElem?_toArray, List.getElem?_cons_zero, List.getElem?_cons_succ] at b1 g0 g1
          have q0 := fun d os => cell_regrown b1 d os
          have q2 := fun d os => cell_regrown du' d os
          have q3 := fun d os => cell_regrown g1 d os
          go_wp2_with fail
          refine wp_region_qt 12 hmo (by kernel_rfl) ?_
          simp only [List.take_succ_cons, List.take_zero, List.drop_succ_cons, List.drop_zero]
          repeat (quiet_step (fail))
          refine wpQuiet_nil ?_
          intro Wi hbi
          clear q0 q2 q3 b1 g0 g1
          have hJi := hJh.call hbi
          have hbg3 := hbg2.trans (hbi.mono hbg2.size)
          have dfi := (bf hbi hbo').trans df'
          have dui := (bc hbi hbo').trans du'
          have hboi := Nat.lt_of_lt_of_le hbo' hbi.size
          clear hJh G9h hbg2 dt' du' df' hbo'
          go_wp2_with fail
          go_roundw
          case rel =>
            have h1 := hJi.setC (by decide) (by decide) (by decide) rfl (n2' - 1) 1 (x := d0) (y := ⟨d0.pos, M⟩) (v := .int .i64 M) HAT.out (by omega) rfl
            exact ⟨k + 1, _, _, _, by omega, by go_num, by rw [hnew.out, hcase.out]; exact h1, (hb.trans (hbg3.mono hb.size)).setCell hbbo _⟩
          case measure => simp [intOf]; omega
        · have hcase : Hid (joinC N L c = L ++ [⟨c.pos + N, c.siz⟩]) := by
            show _ = _
            rw [HL.out, HADD.out, if_neg het]
          have et : (d0.pos == c.pos + N) = false := by simpa using het
          clear het dt' du' df'
          have b1 := hJh.b.cell 1
          have bl := hJh.b.lt
          have g0 := G9h.cell 0
          have g1 := G9h.cell 1
          have gl := G9h.lt
          simp only [List.getElem?_toArray, List.getElem?_cons_zero, List.getElem?_cons_succ] at b1 g0 g1
          have hN1 := BK.new Wh 87 #[.int .i64 (c.pos + N), .int .i64 c.siz]
          have hJa := hJh.alloc (.cells #[.int .i64 (c.pos + N), .int .i64 c.siz] 87)
          have HFZ : Hid (∀ w3 g c'', App1 cC 2 87 W4.heap.size (Wh.alloc (.cells #[.int .i64 (c.pos + N), .int .i64 c.siz] 87)) (some ⟨bo, 0, none⟩) n2' c2' L ⟨c.pos + N, c.siz⟩ g c'' w3 → w3.heap[tb]? = (Wh.alloc (.cells #[.int .i64 (c.pos + N), .int .i64 c.siz] 87)).heap[tb]?) := by
            intro w3 g c'' hap
            exact hap.far _ hJa.b.lt (fun b hb => BK.ne_row (.inr ⟨_, hJa.b⟩) hJa.c (by decide) hb)
          have hzw := hbg2.size
          go_wp2_with (at_builtin; refine wpList_app rfl _ _ 23 rfl W4.heap.size 87 _ 2 16 Try.underlying23 infoC rfl (by decide) cC (some ⟨bo, 0, none⟩) n2' c2' L rfl hJa.c ⟨c.pos + N, c.siz⟩ #[.int .i64 (c.pos + N), .int .i64 c.siz] rfl rfl 87 Wh.heap.size rfl hN1 (by simp [cC, Value.oneCell']) (by omega) (by omega) (by simp; omega) ?_; intro g' c'' w1 hap; have hw1 := HFZ.out _ _ _ hap; have hm1 := hJa.b.same hw1; have mf := hm1.frozen 1; have m1 := hm1.cell 1; have HAP := Lib.hid hap; clear hap)
          have hap := HAP.out
          have hJn := hJa.appC (by decide) (by decide) (by decide) (by decide) (by decide) hap
          have hba := (Below.refl Wh.heap.size Wh).alloc (Nat.le_refl _) (.cells #[.int .i64 (c.pos + N), .int .i64 c.siz] 87)
          go_roundw
          case rel => exact ⟨k + 1, _, _, _, by omega, by go_num, by rw [hnew.out, hcase.out]; exact hJn, ((hb.trans (hbg2.mono hb.size)).trans ((hba.mono (by omega)).trans hap.bel)).setCell HTB.out _⟩
          case measure => simp [intOf]; omega
    · obtain rfl : k = cn2 := by omega
      have hall : Hid ((R2.cs.take k).foldl (joinC N) R.cs = (joinR R R2).cs) := by
        show _ = _
        rw [HC2.out, List.take_length, HN.out]
        rfl
      rw [hall.out] at hJ
      obtain ⟨W8, rfl⟩ : ∃ W8 : World, W8 = wr := ⟨_, rfl⟩
      have hb8 := hb
      have hJ8 := hJ
      clear hJ hb
      go_wp2_with fail
      go_loopw [11] (fun i wr => ∃ (k : Nat) (A3 : Option Addr) (n3' c3' : Nat), k ≤ jn2 ∧ i = .int .i64 k ∧ JB 26 52 87 89 W4.heap.size wr tb A1 (pn + pn2) c1 (R.ps ++ R2.ps) A2 n2' c2' (joinR R R2).cs A3 n3' c3' ((R2.js.take k).foldl (joinJ N) R.js) ∧ Below W4.heap.size W4 wr)
        (fun i _ => jn2 - (intOf i).toNat)
      case atStart => exact ⟨0, A3, jn, c3, Nat.zero_le _, rfl, hJ8, hb8⟩
      case round =>
        obtain ⟨k, A3, n3', c3', hk, rfl, hJ, hb⟩ := hrel
        have hsz := hb.size
        have hYr := hY4.below hb hY4.lt
        have y2 := hYr.cell 2
        simp only [List.getElem?_toArray, List.getElem?_cons_zero, List.getElem?_cons_succ] at y2
        by_cases hlt : k < jn2
        · have hkl : k < R2.js.length := by rw [← HJ2.out]; exact hlt
          obtain ⟨bb, off, hA, hbB, k0, k1, k2⟩ := JS.at_ (HR42.out.j.grow hb hsz) (k := k) hkl
          obtain ⟨L, hL0⟩ : ∃ L, L = (R2.js.take k).foldl (joinJ N) R.js := ⟨_, rfl⟩
          rw [← hL0] at hJ
          have hnew : Hid ((R2.js.take (k + 1)).foldl (joinJ N) R.js = joinJ N L R2.js[k]) := by
            show _ = _
            rw [List.take_succ_eq_append_getElem hkl, List.foldl_append, ← hL0]
            rfl
          have hcb := jbd hv2'.out _ (List.getElem_mem hkl)
          have hnl : n3' ≤ 400 := by
            have q1 := hJ.j.len
            have q2 := foldJ_len N (R2.js.take k) R.js
            have q3 : (R2.js.take k).length ≤ k := List.length_take_le ..
            have q4 := HJ1.out
            rw [← hL0] at q2
            omega
          clear hL0
          generalize R2.js[k]'hkl = c at k0 k1 k2 hnew hcb
          obtain ⟨⟨hc1, hc2⟩, -, -, -⟩ := hcb
          have hwp : IntKind.i64.wrap (c.pos + N) = c.pos + N := IntWalk.i64_in _ (by omega)
          have bl := hJ.b.lt
          have b2 := hJ.b.cell 2
          simp only [List.getElem?_toArray, List.getElem?_cons_zero, List.getElem?_cons_succ] at b2
          have hi1 : (0 : Int) ≤ (k : Int) := by omega
          have hi2 : (k : Int) < (jn2 : Int) := by omega
          subst hA
          have hwn0 : IntKind.i64.wrap ((n3' : Int) - 1) = (n3' : Int) - 1 := IntWalk.i64_in _ (by omega)
          go_upto_region 19 with fail
          refine wp_wnamed (fun Wg hWg => ?_)
          have G9 : BK Wg wr.heap.size 89 #[.int .i64 (c.pos + N), .int .i64 c.arms, .int .i64 c.way] := by rw [hWg]; exact BK.new wr _ _
          have hbg : Below wr.heap.size wr Wg := by rw [hWg]; exact (Below.refl _ wr).alloc (Nat.le_refl _) _
          have hJg := hJ.call hbg
          clear hWg k0 k1 k2 b2 hJ bl
          have b2 := hJg.b.cell 2
          have g0 := G9.cell 0
          simp only [List.getElem?_toArray, List.getElem?_cons_zero, List.getElem?_cons_succ] at b2 g0
          have q0 := fun d os => cell_regrown b2 d os
          have q1 := fun d os => cell_regrown g0 d os
          rcases nil_or_snoc L with hL | ⟨ds, d0, hL⟩
          · have hn0 : n3' = 0 := by have := hJg.j.len; rw [hL] at this; simpa using this
            subst hn0
            clear hwn0
            have hcase : Hid (joinJ N L c = L ++ [⟨c.pos + N, c.arms, c.way⟩]) := by rw [hL]; exact rfl
            clear hL hnl
            go_wp2_with fail
            refine wp_region_qt 12 hmo (by kernel_rfl) ?_
            simp only [List.take_succ_cons, List.take_zero, List.drop_succ_cons, List.drop_zero]
            iterate 2 (quiet_step (fail))
            refine wpQuiet_off (.tmp 102) 103 2 9 false rfl rfl rfl rfl (by simp) rfl (by kernel_rfl) ?_
            simp only [List.take_succ_cons, List.take_zero, List.drop_succ_cons, List.drop_zero, offs, List.foldl_cons, List.foldl_nil, Act.put, List.setIfInBounds_toArray, List.set_cons_succ, List.set_cons_zero, Bool.not_false]
            intro a1 ha1
            refine wpQuiet_nil ?_
            intro Wh hbh
            rw [ha1]
            clear ha1
            have hJh := hJg.call hbh
            have G9h := G9.below hbh G9.lt
            have hbg2 := hbg.trans (hbh.mono hbg.size)
            clear hJg G9 hbg g0 q0 q1
            clear b2
            have b2 := hJh.b.cell 2
            have bl := hJh.b.lt
            have g0 := G9h.cell 0
            have g1 := G9h.cell 1
            have g2 := G9h.cell 2
            have gl := G9h.lt
            simp only [List.getElem?_toArray, List.getElem?_cons_zero, List.getElem?_cons_succ] at b2 g0 g1 g2
            have hN1 := BK.new Wh 89 #[.int .i64 (c.pos + N), .int .i64 c.arms, .int .i64 c.way]
            have hJa := hJh.alloc (.cells #[.int .i64 (c.pos + N), .int .i64 c.arms, .int .i64 c.way] 89)
            have HFZ : Hid (∀ w3 g c'', App1 jC 3 89 W4.heap.size (Wh.alloc (.cells #[.int .i64 (c.pos + N), .int .i64 c.arms, .int .i64 c.way] 89)) A3 0 c3' L ⟨c.pos + N, c.arms, c.way⟩ g c'' w3 → w3.heap[tb]? = (Wh.alloc (.cells #[.int .i64 (c.pos + N), .int .i64 c.arms, .int .i64 c.way] 89)).heap[tb]?) := by
              intro w3 g c'' hap
              exact hap.far _ hJa.b.lt (fun b hb => BK.ne_row (.inr ⟨_, hJa.b⟩) hJa.j (by decide) hb)
            have hzw := hbg2.size
            go_wp2_with (at_builtin; refine wpList_app rfl _ _ 24 rfl W4.heap.size 89 _ 3 24 Try.underlying24 infoJ rfl (by decide) jC A3 0 c3' L rfl hJa.j ⟨c.pos + N, c.arms, c.way⟩ #[.int .i64 (c.pos + N), .int .i64 c.arms, .int .i64 c.way] rfl rfl 89 Wh.heap.size rfl hN1 (by simp [jC, Value.oneCell']) (by omega) (by omega) (by simp; omega) ?_; intro g' c'' w1 hap; have hw1 := HFZ.out _ _ _ hap; have hm1 := hJa.b.same hw1; have mf := hm1.frozen 2; have m2 := hm1.cell 2; have HAP := Lib.hid hap; clear hap)
            have hap := HAP.out
            have hJn := hJa.appJ (by decide) (by decide) (by decide) (by decide) (by decide) hap
            have hba := (Below.refl Wh.heap.size Wh).alloc (Nat.le_refl _) (.cells #[.int .i64 (c.pos + N), .int .i64 c.arms, .int .i64 c.way] 89)
            go_roundw
            case rel => exact ⟨k + 1, _, _, _, by omega, by go_num, by rw [hnew.out, hcase.out]; exact hJn, ((hb.trans (hbg2.mono hb.size)).trans ((hba.mono (by omega)).trans hap.bel)).setCell HTB.out _⟩
            case measure => simp [intOf]; omega
          · have hnD : n3' = ds.length + 1 := by have := hJg.j.len; rw [hL] at this; simpa using this
            obtain ⟨a1, hA0⟩ : ∃ a1, A3 = some a1 := by
              cases A3 with
              | none => have := hJg.j.none_.1; omega
              | some a1 => exact ⟨a1, rfl⟩
            obtain ⟨bo, rfl, hbo, hbbo, hfz, hrow⟩ := hJg.j.at_ jC_len a1 hA0
            have hat : L[n3' - 1]? = some d0 := by rw [hL, hnD]; simp
            have dt : Wg.cell? ⟨bo, (n3' - 1) * 3, none⟩ = some (.int .i64 d0.pos) := by have := hrow _ d0 hat 0 _ rfl; rw [show 0 + (n3' - 1) * 3 + 0 = (n3' - 1) * 3 by omega] at this; exact this
            have hwn : IntKind.i64.wrap ((n3' : Int) - 1) = (n3' : Int) - 1 := IntWalk.i64_in _ (by omega)
            have hi3 : ((n3' : Int) - 1).toNat = n3' - 1 := by omega
            have hi4 : (0 : Int) ≤ (n3' : Int) - 1 := by omega
            have hi5 : (n3' : Int) - 1 < (n3' : Int) := by omega
            have hi6 : (1 : Int) ≤ (n3' : Int) := by omega
            have hn7 : 0 < n3' := by omega
            have HADD := Lib.hid (joinJ_at N ds d0 c)
            have HL := Lib.hid hL
            subst hA0
            clear hfz hrow hL hnD hat
            have q2 := fun d os => cell_regrown dt d os
            go_wp2_with fail
            refine wp_region_qt 12 hmo (by kernel_rfl) ?_
            simp only [List.take_succ_cons, List.take_zero, List.drop_succ_cons, List.drop_zero]
            repeat (quiet_step (fail))
            refine wpQuiet_nil ?_
            intro Wh hbh
            clear q0 q1 q2
            have hJh := hJg.call hbh
            have G9h := G9.below hbh G9.lt
            have hbg2 := hbg.trans (hbh.mono hbg.size)
            clear hJg G9 hbg dt b2 g0 hbo
            by_cases het : d0.pos = c.pos + N
            · have hcase : Hid (joinJ N L c = L) := by
                show _ = _
                rw [HL.out, HADD.out, if_pos het]
              have et : (d0.pos != c.pos + N) = false := by simpa using het
              clear het
              go_wp2_with fail
              go_roundw
              case rel => exact ⟨k + 1, some ⟨bo, 0, none⟩, n3', c3', by omega, by go_num, by rw [hnew.out.trans hcase.out]; exact hJh, hb.trans (hbg2.mono hb.size)⟩
              case measure => simp [intOf]; omega
            · have hcase : Hid (joinJ N L c = L ++ [⟨c.pos + N, c.arms, c.way⟩]) := by
                show _ = _
                rw [HL.out, HADD.out, if_neg het]
              have et : (d0.pos != c.pos + N) = true := by simpa using het
              clear het
              have b2 := hJh.b.cell 2
              have bl := hJh.b.lt
              have g0 := G9h.cell 0
              have g1 := G9h.cell 1
              have g2 := G9h.cell 2
              have gl := G9h.lt
              simp only [List.getElem?_toArray, List.getElem?_cons_zero, List.getElem?_cons_succ] at b2 g0 g1 g2
              have hN1 := BK.new Wh 89 #[.int .i64 (c.pos + N), .int .i64 c.arms, .int .i64 c.way]
              have hJa := hJh.alloc (.cells #[.int .i64 (c.pos + N), .int .i64 c.arms, .int .i64 c.way] 89)
              have HFZ : Hid (∀ w3 g c'', App1 jC 3 89 W4.heap.size (Wh.alloc (.cells #[.int .i64 (c.pos + N), .int .i64 c.arms, .int .i64 c.way] 89)) (some ⟨bo, 0, none⟩) n3' c3' L ⟨c.pos + N, c.arms, c.way⟩ g c'' w3 → w3.heap[tb]? = (Wh.alloc (.cells #[.int .i64 (c.pos + N), .int .i64 c.arms, .int .i64 c.way] 89)).heap[tb]?) := by
                intro w3 g c'' hap
                exact hap.far _ hJa.b.lt (fun b hb => BK.ne_row (.inr ⟨_, hJa.b⟩) hJa.j (by decide) hb)
              have hzw := hbg2.size
              go_wp2_with (at_builtin; refine wpList_app rfl _ _ 24 rfl W4.heap.size 89 _ 3 24 Try.underlying24 infoJ rfl (by decide) jC (some ⟨bo, 0, none⟩) n3' c3' L rfl hJa.j ⟨c.pos + N, c.arms, c.way⟩ #[.int .i64 (c.pos + N), .int .i64 c.arms, .int .i64 c.way] rfl rfl 89 Wh.heap.size rfl hN1 (by simp [jC, Value.oneCell']) (by omega) (by omega) (by simp; omega) ?_; intro g' c'' w1 hap; have hw1 := HFZ.out _ _ _ hap; have hm1 := hJa.b.same hw1; have mf := hm1.frozen 2; have m2 := hm1.cell 2; have HAP := Lib.hid hap; clear hap)
              have hap := HAP.out
              have hJn := hJa.appJ (by decide) (by decide) (by decide) (by decide) (by decide) hap
              have hba := (Below.refl Wh.heap.size Wh).alloc (Nat.le_refl _) (.cells #[.int .i64 (c.pos + N), .int .i64 c.arms, .int .i64 c.way] 89)
              go_roundw
              case rel => exact ⟨k + 1, _, _, _, by omega, by go_num, by rw [hnew.out, hcase.out]; exact hJn, ((hb.trans (hbg2.mono hb.size)).trans ((hba.mono (by omega)).trans hap.bel)).setCell HTB.out _⟩
              case measure => simp [intOf]; omega
        · obtain rfl : k = jn2 := by omega
          have hall : Hid ((R2.js.take k).foldl (joinJ N) R.js = (joinR R R2).js) := by
            show _ = _
            rw [HJ2.out, List.take_length, HN.out]
            rfl
          rw [hall.out] at hJ
          have hbW : Below w.heap.size w wr := hB4.trans (hb.mono hB4.size)
          have b0 := fun d os => cell_regrown (hJ.b.cell 0) d os
          have b1 := fun d os => cell_regrown (hJ.b.cell 1) d os
          have b2 := fun d os => cell_regrown (hJ.b.cell 2) d os
          go_wp2_with fail
          refine wp_region_ch 3 [2] hmo (by kernel_rfl) ?_
          simp only [List.take_succ_cons, List.take_zero, List.drop_succ_cons, List.drop_zero]
          repeat (refine wpC_q (by decide) (by decide) (fun K hK => ?_); go_simp; refine hK _ ?_; clear hK K)
          refine wpC_c (ι := Unit) 77 #[.agg #[.slice A1 (pn + pn2) c1, .slice A2 n2' c2', .slice A3 n3' c3']] (fun _ => .bool (fitsR (joinR R R2))) (fun _ _ => True) (by decide) (by decide) rfl (fun w => by go_simp) stable_true (fun _ => stable_true) (fun W hW _ => ?_) (fun i1 hs1' => ?_)
          · obtain ⟨p, rfl⟩ := hW
            have hbg := below_regrown wr p.d p.os
            have hJg := hJ.call hbg
            refine (fits_any A1 (pn + pn2) c1 A2 n2' c2' A3 n3' c3' (joinR R R2) _ ⟨hJg.p.sl pC_len, hJg.c.sl cC_len, hJg.j.sl jC_len⟩ HPK.out (by omega)).mono ?_
            rintro e w' ⟨rfl, hbl⟩
            exact ⟨(), rfl, trivial, hbl⟩
          refine wpC_nil ?_
          intro W9 hb9 _
          clear b0 b1 b2 hs1'
          have hJ9 := hJ.call hb9
          have hZ9 := (hZ4.below hb hZ4.lt).below hb9 (hZ4.below hb hZ4.lt).lt
          have hB9 := hbW.trans (hb9.mono hbW.size)
          have hz9 : w.heap.size + 2 < W4.heap.size := hZ4.lt
          have zf := hZ9.frozen
          have zl := hZ9.lt
          have z0 := hZ9.cell 0
          have z1 := hZ9.cell 1
          have z2 := hZ9.cell 2
          simp only [List.getElem?_toArray, List.getElem?_cons_zero, List.getElem?_cons_succ] at z0 z1 z2
          have hP := hJ9.p
          have hC := hJ9.c
          have hQ := hJ9.j
          have fP : ∀ a, A1 = some a → a.block ≠ w.heap.size + 2 := fun a ha => by have := (hP.lt ha).1; omega
          have fC : ∀ a, A2 = some a → a.block ≠ w.heap.size + 2 := fun a ha => by have := (hC.lt ha).1; omega
          have fQ : ∀ a, A3 = some a → a.block ≠ w.heap.size + 2 := fun a ha => by have := (hQ.lt ha).1; omega
          obtain ⟨WF, hWF⟩ : ∃ WF, WF = ((W9.setCell ⟨w.heap.size + 2, 0, none⟩ (.slice A1 (pn + pn2) c1)).setCell ⟨w.heap.size + 2, 1, none⟩ (.slice A2 n2' c2')).setCell ⟨w.heap.size + 2, 2, none⟩ (.slice A3 n3' c3') := ⟨_, rfl⟩
          have hZF : BK WF (w.heap.size + 2) 26 #[.slice A1 (pn + pn2) c1, .slice A2 n2' c2', .slice A3 n3' c3'] := by rw [hWF]; exact ((hZ9.set_ 0 _).set_ 1 _).set_ 2 _
          have FF : (OW pC 5 52 w.heap.size WF A1 (pn + pn2) c1 (joinR R R2).ps ∧ OW cC 2 87 w.heap.size WF A2 n2' c2' (joinR R R2).cs ∧ OW jC 3 89 w.heap.size WF A3 n3' c3' (joinR R R2).js) ∧ Below w.heap.size w WF := by
            rw [hWF]
            exact ⟨⟨(((hP.setCell fP _).setCell fP _).setCell fP _).drop0 hB4.size, (((hC.setCell fC _).setCell fC _).setCell fC _).drop0 hB4.size, (((hQ.setCell fQ _).setCell fQ _).setCell fQ _).drop0 hB4.size⟩, ((hB9.setCell (by simp) _).setCell (by simp) _).setCell (by simp) _⟩
          have HFF := Lib.hid FF
          clear FF hP hC hQ fP fC fQ hJ hJ9
          go_wp2_with fail
          rw [show w.heap.size + 1 + 1 = w.heap.size + 2 from rfl]
          rw [← hWF]
          have z0 := hZF.cell 0
          have z1 := hZF.cell 1
          have z2 := hZF.cell 2
          simp only [List.getElem?_toArray, List.getElem?_cons_zero, List.getElem?_cons_succ] at z0 z1 z2
          refine bodyPost_ret (v := .tuple #[.agg #[.slice A1 (pn + pn2) c1, .slice A2 n2' c2', .slice A3 n3' c3'], .bool (fitsR (joinR R R2))]) (by simp [results, Try.results42, go_sem, z0, z1, z2]) rfl ⟨A1, c1, A2, n2', c2', A3, n3', c3', rfl, HFF.out⟩
end Go.Proofs.Ytomloklckpcaiaa
