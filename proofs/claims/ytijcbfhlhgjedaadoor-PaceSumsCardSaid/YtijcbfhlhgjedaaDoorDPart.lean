/- road.Part, walked. -/
import Derived.Test.YtijcbfhlhgjedaaDoorCAll
import Derived.Test.YtijcbfhlhgjedaaDoorDJoin
import Derived.Test.YtijcbfhlhgjedaaDoorDRevR
namespace Go.Proofs.YtijcbfhlhgjedaaDoor
open Go.RowKit Go.Shelf Go.Sort Go.Proofs

attribute [local go_sem] Oper.semAt_some

theorem wpIn_wnamed {F : Fence} {n : Nat} {P : Program} {c : Code} {Q : Exit → Act → World → Prop} {a : Act} {w : World} (h : ∀ W, W = w → c.wpIn F n P Q a W) : c.wpIn F n P Q a w := h w rfl
theorem ow3_own {α β : Type} (B g base : Nat) (t e : TypeId) (cf : α → List Value) (sz : Nat) (f : β → List α) (v1 v2 : Value) : OwnFrom B (fun s W => ∃ A n c, BK W g t #[.slice A n c, v1, v2] ∧ OW cf sz e base W A n c (f s)) := by
  intro s W W' row hs hg hr
  obtain ⟨A, n, c, h1, h2⟩ := hs
  refine ⟨A, n, c, bk_own B g t (fun _ : Unit => _) () W W' row h1 hg hr, h2.keep (fun b hb => hg.block b.block (h2.lt hb).2 (fun e => ?_))⟩
  obtain ⟨_, o, ho, hc⟩ := hr _ e.symm
  subst hb
  rcases h2.1.2 with ⟨h3, _⟩ | ⟨g', cap, cur, h3, _, hg', _⟩
  · cases h3
  · injection h3 with h3
    injection h3 with h3
    subst h3
    rw [hg'] at ho
    cases ho
    cases hc
theorem DK.ne_cells {w : World} {D g : Nat} {t : TypeId} {cs : Array Value} (h : DK w D) (hb : BK w g t cs) : g ≠ D := fun e => by
  subst e
  unfold DK at h
  unfold BK at hb
  rw [h] at hb
  cases hb
theorem DK.ne_row {α : Type} {f : α → List Value} {sz : Nat} {e : TypeId} {base : Nat} {w : World} {D : Nat} {A : Option Addr} {n c : Nat} {l : List α} (h : DK w D) (ho : OW f sz e base w A n c l) : ∀ g, A = some g → g.block ≠ D := fun g hg he => by
  subst hg
  rcases ho.1.2 with ⟨h3, _⟩ | ⟨g', cap, cur, h3, _, hg', _⟩
  · cases h3
  · injection h3 with h3
    injection h3 with h3
    subst h3
    unfold DK at h
    rw [show D = g' from he.symm, hg'] at h
    cases h
set_option maxRecDepth 100000 in
set_option maxHeartbeats 8000000 in
theorem Part_w (f t : Int) (pa : Option Addr) (pn pc : Nat) (ca : Option Addr) (cn cc : Nat) (ja : Option Addr) (jn jc : Nat) (R : Road) (w : World)
    (h : RD w w.heap.size pa pn ca cn ja jn R) (hv : OK R) (hf : 0 ≤ f) (hft : f < t) (ht : t ≤ sumL R.ps) :
    CallsIn Fence.wide 6 Tryd.prog 55 #[.agg #[.slice pa pn pc, .slice ca cn cc, .slice ja jn jc], .int .i64 f, .int .i64 t] w fun e w' => ∃ A1 n1 c1 A2 n2 c2 A3 n3 c3, e = .returned (.tuple #[.agg #[.slice A1 n1 c1, .slice A2 n2 c2, .slice A3 n3 c3], .int .i64 0]) ∧
      (OW pC 5 105 w.heap.size w' A1 n1 c1 (partR f t R).ps ∧ OW cC 2 134 w.heap.size w' A2 n2 c2 (partR f t R).cs ∧ OW jC 3 136 w.heap.size w' A3 n3 c3 (partR f t R).js) ∧ Below w.heap.size w w' := by
  have hR := Lib.hid h
  have hv' := Lib.hid hv
  have hmo : Tryd.prog.follows .mixedOrders = true := by kernel_rfl
  have hpn : pn ≤ 2000 := by rw [h.p.1]; exact hv.p2
  have hcn : cn ≤ 1000 := by rw [h.c.1]; exact hv.c1
  have hjn : jn ≤ 200 := by rw [h.j.1]; exact hv.j1
  have HC := Lib.hid h.c.1
  have HJ := Lib.hid h.j.1
  have hc := Lib.hid (chk_ok hv)
  have hn1 := hv.n1
  clear h hv
  obtain ⟨w0, hw0⟩ : ∃ w0, w0 = (((w.alloc (.cells #[.slice pa pn pc, .slice ca cn cc, .slice ja jn jc] 26)).alloc (.cells #[.int .i64 f] 3)).alloc (.cells #[.int .i64 t] 3)).alloc (.cells #[.slice none 0 0, .slice none 0 0, .slice none 0 0] 26) := ⟨_, rfl⟩
  have hB0 : Below w.heap.size w w0 := by rw [hw0]; exact ((((Below.refl w.heap.size w).alloc (Nat.le_refl _) _).alloc (by simp) _).alloc (by simp <;> omega) _).alloc (by simp <;> omega) _
  have hX0 : BK w0 w.heap.size 26 #[.slice pa pn pc, .slice ca cn cc, .slice ja jn jc] := by rw [hw0]; exact (((BK.new w _ _).alloc _).alloc _).alloc _
  have hF0 : BK w0 (w.heap.size + 1) 3 #[.int .i64 f] := by rw [hw0]; have := BK.new (w.alloc (.cells #[.slice pa pn pc, .slice ca cn cc, .slice ja jn jc] 26)) 3 #[.int .i64 f]; rw [World.size_alloc] at this; exact (this.alloc _).alloc _
  have hT0 : BK w0 (w.heap.size + 2) 3 #[.int .i64 t] := by rw [hw0]; have := BK.new ((w.alloc (.cells #[.slice pa pn pc, .slice ca cn cc, .slice ja jn jc] 26)).alloc (.cells #[.int .i64 f] 3)) 3 #[.int .i64 t]; rw [World.size_alloc, World.size_alloc] at this; exact this.alloc _
  have hZ0 : BK w0 (w.heap.size + 3) 26 #[.slice none 0 0, .slice none 0 0, .slice none 0 0] := by rw [hw0]; have := BK.new (((w.alloc (.cells #[.slice pa pn pc, .slice ca cn cc, .slice ja jn jc] 26)).alloc (.cells #[.int .i64 f] 3)).alloc (.cells #[.int .i64 t] 3)) 26 #[.slice none 0 0, .slice none 0 0, .slice none 0 0]; rw [World.size_alloc, World.size_alloc, World.size_alloc] at this; exact this
  refine callsIn_of_wp_marks Tryd.func55 rfl trivial ?_ rfl
  simp only [Tryd.ntmps55, List.size_toArray, List.length_cons, List.length_nil, Nat.reduceAdd, Nat.reduceSub, Array.replicate_succ, Array.replicate_zero, List.push_toArray, List.append_toArray, List.nil_append, List.cons_append]
  refine wpIn_wide.2 ?_
  go_wp2_with fail
  rw [← hw0]
  clear hw0
  refine (Check_any _ _ _ _ _ _ _ _ _ R _ (hR.out.grow hB0 hB0.size)).mono ?_
  rintro e w1 ⟨rfl, hk0⟩
  rw [hc.out]
  have hB1 := hB0.trans (hk0.mono hB0.size)
  have hX1 := hX0.below hk0 hX0.lt
  have hF1 := hF0.below hk0 hF0.lt
  have hT1 := hT0.below hk0 hT0.lt
  have hZ1 := hZ0.below hk0 hZ0.lt
  have x0 := hX1.cell 0
  have x1 := hX1.cell 1
  have x2 := hX1.cell 2
  simp only [List.getElem?_toArray, List.getElem?_cons_zero, List.getElem?_cons_succ] at x0 x1 x2
  go_wp2_with fail
  clear x0 x1 x2
  refine (measure_any pa pn pc ca cn cc ja jn jc R _ (hR.out.grow hB1 hB1.size) hv'.out.pk (by omega)).mono ?_
  rintro e w2 ⟨g, ba, bq, rfl, hM, -, hk1⟩
  have hB2 := hB1.trans (hk1.mono hB1.size)
  have hX2 := hX1.below hk1 hX1.lt
  have hF2 := hF1.below hk1 hF1.lt
  have hT2 := hT1.below hk1 hT1.lt
  have hZ2 := hZ1.below hk1 hZ1.lt
  clear hk0 hk1 hB0 hB1 hX0 hX1 hF0 hF1 hT0 hT1 hZ0 hZ1
  have e1 : decide (f < 0) = false := by simpa using hf
  have e2 : decide (t ≤ f) = false := by simpa using hft
  have e3 : decide (sumL R.ps < t) = false := by simpa using ht
  have q0 := fun d os => cell_regrown (hF2.cell 0) d os
  have q1 := fun d os => cell_regrown (hT2.cell 0) d os
  have HM := Lib.hid hM
  clear hM
  go_wp2_with fail
  refine wp_region_ch 12 [10] hmo (by kernel_rfl) ?_
  simp only [List.take_succ_cons, List.take_zero, List.drop_succ_cons, List.drop_zero]
  repeat (refine wpC_q (by decide) (by decide) (fun K hK => ?_); go_simp; refine hK _ ?_; clear hK K)
  refine wpC_cg (ι := Unit) 92 #[.pointer (some ⟨g, 0, none⟩)] (fun _ => .int .i64 (sumL R.ps)) (fun _ _ => True) (by decide) (by decide) (by go_simp) (fun w => by go_simp) stable_true (fun _ => stable_true) (fun W hW _ => ?_) (fun i1 hs1 => ?_)
  · obtain ⟨p, rfl⟩ := hW
    have hb := below_regrown w2 p.d p.os
    refine (mlength_any _ _ _ _ _ _ _ _ _ _ _ _ R _ _ (HM.out.grow hb hb.size) (by omega)).mono ?_
    rintro e w' ⟨rfl, nd, hw⟩
    exact ⟨(), rfl, trivial, by rw [hw]; exact below_drewN (Below.refl _ _) _⟩
  repeat (refine wpC_q (by decide) (by decide) (fun K hK => ?_); go_simp; refine hK _ ?_; clear hK K)
  refine wpC_nil ?_
  intro w3 hk2 _
  clear q0 q1 hs1
  have hB3 := hB2.trans (hk2.mono hB2.size)
  have hX3 := hX2.below hk2 hX2.lt
  have hF3 := hF2.below hk2 hF2.lt
  have hT3 := hT2.below hk2 hT2.lt
  have hZ3 := hZ2.below hk2 hZ2.lt
  have hM3 := Lib.hid (HM.out.grow hk2 hk2.size)
  clear HM hk2 hB2 hX2 hF2 hT2 hZ2 e1 e2 e3
  go_wp2_with fail
  refine (all_any g _).mono ?_
  rintro e w8 ⟨rfl, rfl⟩
  go_wp2_with fail
  obtain ⟨W0, hW0⟩ : ∃ W0, W0 = (w3.alloc (.cells #[.slice none 0 0, .slice none 0 0, .slice none 0 0] 26)).alloc (.cells #[.pointer (some ⟨g, 0, none⟩)] 143) := ⟨_, rfl⟩
  have u0 : BK W0 w3.heap.size 26 #[.slice none 0 0, .slice none 0 0, .slice none 0 0] := by rw [hW0]; exact (BK.new w3 _ _).alloc _
  have u1 : BK W0 (w3.heap.size + 1) 143 #[.pointer (some ⟨g, 0, none⟩)] := by rw [hW0]; have := (BK.new (w3.alloc (.cells #[.slice none 0 0, .slice none 0 0, .slice none 0 0] 26)) 143 #[.pointer (some ⟨g, 0, none⟩)]); rw [World.size_alloc] at this; exact this
  have hsz : W0.heap.size = w3.heap.size + 2 := by rw [hW0]; simp
  have hBW : Below w3.heap.size w3 W0 := by rw [hW0]; exact ((Below.refl _ w3).alloc (Nat.le_refl _) _).alloc (by simp) _
  rw [← hW0]
  have HS := Lib.hid hsz
  clear hW0 hsz
  refine (wpIn_wide (n := 5)).1 ?_
  refine wpIn_named (fun a0 ha0 => ?_)
  refine wpIn_rangeFunc_ownH (α := BP) rfl (by omega) (gf := 111) (lb := #[.pointer (some ⟨w3.heap.size + 1, 0, none⟩)]) (by rw [ha0]; rfl) trivial (enters_of Tryd.func111 (by kernel_rfl) rfl)
    (all_stops 4 (by omega) (w3.heap.size + 1) w3.heap.size g pa pn pc ca cn cc ja jn jc ba bq R (by omega) hv'.out.pk W0 (u1.cell 0) (by have := HS.out; omega) hBW.size (hM3.out.grow hBW (Nat.le_refl _))) KB.t (KB.b hBW.size (by have := HS.out; omega)) (Below.refl _ _) (fun _ => rfl)
    (fun pre W => (∃ A n c, BK W w3.heap.size 26 #[.slice A n c, .slice none 0 0, .slice none 0 0] ∧ OW pC 5 105 (w3.heap.size + 2) W A n c ((pre.map (·.1)).filterMap (prt f t))) ∧ Since w3 W0.heap.size W)
    (fun _ _ _ => False)
    (OwnFrom.and (ow3_own _ _ _ _ _ pC 5 (fun pre : List BP => (pre.map (·.1)).filterMap (prt f t)) _ _) (ownFrom_since hBW.size))
    (fun c s A B row hs hg hr => hs.elim)
    ⟨⟨none, 0, 0, u0, OW.nil_⟩, hBW, Nat.le_refl _⟩
    (fun e a' W => ∃ Bx A n c, w3.heap.size + 1 < Bx ∧ BK W Bx 105 (pC e.1.2).toArray ∧ BK W w3.heap.size 26 #[.slice A n c, .slice none 0 0, .slice none 0 0] ∧ (∀ a, A = some a → a.block ≠ Bx) ∧ a' = { tmps := (((a0.tmps.setIfInBounds 43 (.int .i64 e.1.1)).setIfInBounds 44 (.agg #[.int .i64 e.1.2.len, .int .i64 e.1.2.turn, .int .i64 e.1.2.rad, .int .i64 e.1.2.wid, .int .i64 e.1.2.sur])).setIfInBounds 11 (.int .i64 e.1.1)).setIfInBounds 12 (.pointer (some ⟨Bx, 0, none⟩)), defers := [] })
    (fun e a' s A B row hs hg hr => by
      obtain ⟨Bx, A', n, c, h1, h2, h3, h4, h5⟩ := hs
      exact ⟨Bx, A', n, c, h1, bk_own W0.heap.size _ _ (fun _ : Unit => _) () A B row h2 hg hr, bk_own W0.heap.size _ _ (fun _ : Unit => _) () A B row h3 hg hr, h4, h5⟩) ?assign ?body ?done ?stop
  case assign =>
    intro l pre e W K hI hK
    rw [ha0] at hK ⊢
    simp only [bpV, List.setIfInBounds_toArray, List.set_cons_succ, List.set_cons_zero] at hK ⊢
    gi_wp2
    obtain ⟨⟨A, n, c, i1, i2⟩, hB⟩ := hI
    have hz := HS.out
    have hz2 := hB.2
    have hbA := (Below.refl W.heap.size W).alloc (Nat.le_refl _) (.cells #[.int .i64 e.1.2.len, .int .i64 e.1.2.turn, .int .i64 e.1.2.rad, .int .i64 e.1.2.wid, .int .i64 e.1.2.sur] 105)
    exact hK _ _ ((KeepsOthers.alloc _ _).from _) (KB.of_below hbA (by omega) (by omega)) ⟨⟨A, n, c, i1.alloc _, i2.alloc _⟩, hB.onto hbA⟩ ⟨W.heap.size, A, n, c, by omega, BK.new W _ _, i1.alloc _, fun a ha => Nat.ne_of_lt (i2.lt ha).2, rfl⟩
  case body =>
    rintro l pre e a' W hlW ⟨r', hr⟩ ⟨⟨A, n, c, i1, i2⟩, hB⟩ ⟨Bx, A', n', c', hBx, bX, i1', hne, rfl⟩ hlt
    have hAA : A' = A := by
      have h := (show W.heap[w3.heap.size]? = _ from i1).symm.trans i1'
      simp at h
      exact h.1.symm
    subst hAA
    clear i1' n' c'
    obtain ⟨L, hL⟩ : ∃ L, L = (pre.map (·.1)).filterMap (prt f t) := ⟨_, rfl⟩
    rw [← hL] at i2
    have HNEW : Hid (((pre ++ [e]).map (·.1)).filterMap (prt f t) = L ++ (prt f t e.1).toList) := by
      show _ = _
      rw [List.map_append, List.map_cons, List.map_nil, fm_snoc, ← hL]
    have hnl : n ≤ 2000 := by
      have q1 := i2.len
      have q2 := List.length_filterMap_le (prt f t) (pre.map (·.1))
      rw [← hL, List.length_map] at q2
      omega
    clear hL
    obtain ⟨⟨S, p⟩, hpk, hs1, hs2⟩ := e
    dsimp only at bX hpk hs1 hs2 HNEW ⊢
    rw [ha0]
    simp only [List.setIfInBounds_toArray, List.set_cons_succ, List.set_cons_zero]
    have hz : w3.heap.size + 2 ≤ W0.heap.size := by have := HS.out; omega
    have hzW := hB.2
    have hpl := pOk_len hpk
    obtain ⟨hp1, hp2⟩ := hpl
    have hFW := hF3.below hB.1 hF3.lt
    have hTW := hT3.below hB.1 hT3.lt
    have hws : IntKind.i64.wrap (S + p.len) = S + p.len := IntWalk.i64_in _ (by omega)
    obtain ⟨B, hBe⟩ : ∃ B, B = max f S := ⟨_, rfl⟩
    obtain ⟨E, hEe⟩ : ∃ E, E = min t (S + p.len) := ⟨_, rfl⟩
    have hmx : (if S < f then f else S) = B := by rw [hBe]; split <;> omega
    have hmn : (if t < S + p.len then t else S + p.len) = E := by rw [hEe]; split <;> omega
    have hwe : IntKind.i64.wrap (E - B) = E - B := IntWalk.i64_in _ (by omega)
    have hprt : Hid (prt f t (S, p) = if B < E then some { p with len := E - B } else none) := by rw [hBe, hEe]; exact rfl
    clear hBe hEe
    have k0 := hFW.cell 0
    have k1 := hTW.cell 0
    have k2 := bX.cell 0
    simp only [pC, List.getElem?_toArray, List.getElem?_cons_zero] at k0 k1 k2
    have q0 := fun d os => cell_regrown k0 d os
    have q1 := fun d os => cell_regrown k1 d os
    have q2 := fun d os => cell_regrown k2 d os
    clear k0 k1 k2
    gi_wp2
    refine wpIn_region_qt 10 hmo (by kernel_rfl) ?_
    simp only [List.take_succ_cons, List.take_zero, List.drop_succ_cons, List.drop_zero]
    repeat (quiet_step (fail))
    refine wpQuiet_nil ?_
    intro Wh hbh
    clear q0 q1 q2
    have hOh := i2.call hbh
    have jh := i1.below hbh i1.lt
    have bXh := bX.below hbh bX.lt
    have hlX := bX.lt
    have g0 := bXh.cell 0
    have g1 := bXh.cell 1
    have g2 := bXh.cell 2
    have g3 := bXh.cell 3
    have g4 := bXh.cell 4
    have gf := bXh.frozen
    have gl := bXh.lt
    simp only [pC, List.getElem?_toArray, List.getElem?_cons_zero, List.getElem?_cons_succ] at g0 g1 g2 g3 g4
    have hAlt : ∀ a, A' = some a → a.block < W.heap.size := fun a ha => (i2.lt ha).2
    have hAge : ∀ a, A' = some a → w3.heap.size + 2 ≤ a.block := fun a ha => (i2.lt ha).1
    by_cases hbe : B < E
    · have et : decide (B < E) = true := by simpa using hbe
      have hcase : Hid ((prt f t (S, p)).toList = [{ p with len := E - B }]) := by show _ = _; rw [hprt.out, if_pos hbe]; rfl
      clear hbe hprt
      gi_upto_region 14 with fail
      refine wpIn_wnamed (fun Wx hWx => ?_)
      have GX : BK Wx Bx 105 #[.int .i64 (E - B), .int .i64 p.turn, .int .i64 p.rad, .int .i64 p.wid, .int .i64 p.sur] := by rw [hWx]; exact bXh.set_ 0 _
      have jx : BK Wx w3.heap.size 26 #[.slice A' n c, .slice none 0 0, .slice none 0 0] := by rw [hWx]; exact jh.far (p := ⟨Bx, 0, none⟩) (show w3.heap.size ≠ Bx by omega) _
      have hOx : OW pC 5 105 (w3.heap.size + 2) Wx A' n c L := by rw [hWx]; exact hOh.setCell (p := ⟨Bx, 0, none⟩) (fun a ha => hne a ha) _
      have hbx : Below Bx W Wx := by rw [hWx]; exact (show Below Bx W Wh from hbh.mono (by omega)).setCell (p := ⟨Bx, 0, none⟩) (Nat.le_refl Bx) _
      have hkx : KeepsFrom W0.heap.size W Wx := by rw [hWx]; exact ((keeps_of_below hbh).trans ((KeepsOthers.setCell _ _ _).from _))
      clear hWx g0 g1 g2 g3 g4 gf gl bXh jh hOh
      have g0 := GX.cell 0
      have g1 := GX.cell 1
      have g2 := GX.cell 2
      have g3 := GX.cell 3
      have g4 := GX.cell 4
      have gl := GX.lt
      have c0 := jx.cell 0
      have jl := jx.lt
      simp only [List.getElem?_toArray, List.getElem?_cons_zero, List.getElem?_cons_succ] at g0 g1 g2 g3 g4 c0
      have hN1 := BK.new Wx 105 #[.int .i64 (E - B), .int .i64 p.turn, .int .i64 p.rad, .int .i64 p.wid, .int .i64 p.sur]
      have i1a := jx.alloc (.cells #[.int .i64 (E - B), .int .i64 p.turn, .int .i64 p.rad, .int .i64 p.wid, .int .i64 p.sur] 105)
      have HFZ : Hid (∀ w4 g c'', App1 pC 5 105 (w3.heap.size + 2) (Wx.alloc (.cells #[.int .i64 (E - B), .int .i64 p.turn, .int .i64 p.rad, .int .i64 p.wid, .int .i64 p.sur] 105)) A' n c L { p with len := E - B } g c'' w4 → w4.heap[w3.heap.size]? = (Wx.alloc (.cells #[.int .i64 (E - B), .int .i64 p.turn, .int .i64 p.rad, .int .i64 p.wid, .int .i64 p.sur] 105)).heap[w3.heap.size]?) := by
        intro w4 g c'' hap
        exact hap.far _ (by simp; omega) (fun b hb => by have := (hOx.lt hb).1; omega)
      gi_wp2_with (gi_at_builtin; refine wpListIn_app rfl _ _ 22 rfl (w3.heap.size + 2) 105 _ 5 40 Tryd.underlying22 infoP rfl (by decide) pC A' n c L rfl (hOx.alloc _) { p with len := E - B } #[.int .i64 (E - B), .int .i64 p.turn, .int .i64 p.rad, .int .i64 p.wid, .int .i64 p.sur] rfl rfl 105 Wx.heap.size rfl hN1 (by simp [pC, Value.oneCell']) (by omega) (by omega) (by simp; omega) ?_; intro g' c'' w1 hap; have hw1 := HFZ.out _ _ _ hap; have hm1 := i1a.same hw1; have m0 := hm1.cell 0; have mf := hm1.frozen 0; have HAP := Lib.hid hap; clear hap)
      have hap := HAP.out
      have hm2 := hm1.set_ 0 (.slice (some ⟨g', 0, none⟩) (n + 1) c'')
      have hgl2 : w3.heap.size + 2 ≤ g' := (hap.own.lt rfl).1
      have hba := (Below.refl Wx.heap.size Wx).alloc (Nat.le_refl _) (.cells #[.int .i64 (E - B), .int .i64 p.turn, .int .i64 p.rad, .int .i64 p.wid, .int .i64 p.sur] 105)
      have hzx := hbx.size
      have hb1' : Below (w3.heap.size + 2) Wx w1 := (hba.mono (by omega)).trans hap.bel
      have hb2' : Below (w3.heap.size + 2) W w1 := (hbx.mono (by omega)).trans hb1'
      refine ⟨(hkx.trans (((KeepsOthers.alloc _ _).from _).trans (hap.keeps (hOx.alloc _) _))).trans ((KeepsOthers.setCell _ _ _).from _), (KB.of_below hb2' (by omega) (by omega)).setCell (by simp <;> omega) (by simp <;> omega) _, ⟨_, _, _, hm2, ?_⟩, ⟨(hB.1.trans (hb2'.mono (by omega))).setCell (by simp <;> omega) _, by have h1 := hap.size; simp at h1 ⊢; omega⟩⟩
      rw [HNEW.out, hcase.out]
      exact hap.own.setCell (fun b hb => by cases hb; show g' ≠ w3.heap.size; omega) _
    · have et : decide (B < E) = false := by simpa using hbe
      have hcase : Hid ((prt f t (S, p)).toList = []) := by show _ = _; rw [hprt.out, if_neg hbe]; rfl
      clear hbe hprt
      gi_wp2
      exact ⟨keeps_of_below hbh, KB.of_below hbh (by omega) (by omega), ⟨A', n, c, jh, by rw [HNEW.out, hcase.out, List.append_nil]; exact hOh⟩, hB.onto hbh⟩
  case stop => exact fun D c pre W hD hk hs hK => hs.elim
  case done =>
    rintro D ys W hD hys ⟨⟨A1, n1, c1, i1, i2⟩, hB⟩ hK
    have hall : (ys.map (·.1)).filterMap (prt f t) = (partR f t R).ps := by rw [hys]; rfl
    rw [hall] at i2
    clear hys hall
    rw [ha0]
    have hz := HS.out
    have hzW := hB.2
    have hB4 := hB3.trans (hB.1.mono hB3.size)
    have hX4 := hX3.below hB.1 hX3.lt
    have hF4 := hF3.below hB.1 hF3.lt
    have hT4 := hT3.below hB.1 hT3.lt
    have hZ4 := hZ3.below hB.1 hZ3.lt
    have hz4 := hZ3.lt
    have hJ8 : JB 26 105 134 136 (w3.heap.size + 2) W w3.heap.size A1 n1 c1 (partR f t R).ps none 0 0 [] none 0 0 [] := ⟨i1, i2, OW.nil_, OW.nil_⟩
    have hb8 := Below.refl w3.heap.size W
    have hk8 : DK W D := hK
    clear hK i1 i2 hX3 hF3 hT3 hZ3 hM3 u0 u1 hBW
    have x0 := hX4.cell 1
    simp only [List.getElem?_toArray, List.getElem?_cons_zero, List.getElem?_cons_succ] at x0
    go_wp2_with fail
    go_loopw [70] (fun i wr => ∃ (k : Nat) (A2 : Option Addr) (n2 c2 : Nat), k ≤ cn ∧ i = .int .i64 k ∧ JB 26 105 134 136 (w3.heap.size + 2) wr (w3.heap.size) A1 n1 c1 (partR f t R).ps A2 n2 c2 ((R.cs.take k).filterMap (prtC f t)) none 0 0 [] ∧ Below w3.heap.size W wr ∧ DK wr D)
      (fun i _ => cn - (intOf i).toNat)
    case atStart => exact ⟨0, none, 0, 0, Nat.zero_le _, rfl, hJ8, hb8, hk8⟩
    case round =>
      obtain ⟨k, A2, n2, c2, hk, rfl, hJ, hb, hdk⟩ := hrel
      have hsz := hb.size
      have hBw : Below w.heap.size w wr := hB4.trans (hb.mono (by omega))
      have hX := hX4.below hb (by omega)
      have hFk := hF4.below hb (by omega)
      have hTk := hT4.below hb (by omega)
      have x0 := hX.cell 1
      simp only [List.getElem?_toArray, List.getElem?_cons_zero, List.getElem?_cons_succ] at x0
      by_cases hlt : k < cn
      · have hkl : k < R.cs.length := by rw [← HC.out]; exact hlt
        obtain ⟨bb, off, hA, hbB, k0, k1⟩ := CS.at_ (hR.out.c.grow hBw hBw.size) (k := k) hkl
        have hqb := (cbd hv'.out _ (List.getElem_mem hkl)).1
        have hqn := hv'.out.n1
        obtain ⟨L, hL⟩ : ∃ L, L = (R.cs.take k).filterMap (prtC f t) := ⟨_, rfl⟩
        rw [← hL] at hJ
        have hnl : n2 ≤ k := by
          have q1 := hJ.c.len
          have q2 := List.length_filterMap_le (prtC f t) (R.cs.take k)
          have q3 : (R.cs.take k).length ≤ k := List.length_take_le ..
          rw [← hL] at q2
          omega
        have hnew : Hid ((R.cs.take (k + 1)).filterMap (prtC f t) = L ++ (prtC f t R.cs[k]).toList) := by
          show _ = _
          rw [List.take_succ_eq_append_getElem hkl, fm_snoc, ← hL]
        clear hL
        generalize R.cs[k]'hkl = q at k0 k1 hnew hqb
        obtain ⟨hq1, hq2⟩ := hqb
        have hwe : IntKind.i64.wrap (q.pos - f) = q.pos - f := IntWalk.i64_in _ (by omega)
        have bl := hJ.b.lt
        have hlA : ∀ a, A2 = some a → a.block < wr.heap.size := fun a ha => (hJ.c.lt ha).2
        have hlP : ∀ a, A1 = some a → a.block < wr.heap.size := fun a ha => (hJ.p.lt ha).2
        have hlC : ∀ a, A2 = some a → a.block < wr.heap.size := fun a ha => (hJ.c.lt ha).2
        have hi1 : (0 : Int) ≤ (k : Int) := by omega
        have hi2 : (k : Int) < (cn : Int) := by omega
        subst hA
        have f0 := hFk.cell 0
        have t0 := hTk.cell 0
        have fl := hFk.lt
        have tl := hTk.lt
        have dl := hdk.lt
        simp only [List.getElem?_toArray, List.getElem?_cons_zero] at f0 t0
        go_wp2_with fail
        refine wpCalls_wnamed (fun Wg hWg => ?_)
        have G9 : BK Wg wr.heap.size 134 #[.int .i64 q.pos, .int .i64 q.siz] := by rw [hWg]; exact BK.new wr _ _
        have hbg : Below wr.heap.size wr Wg := by rw [hWg]; exact (Below.refl _ wr).alloc (Nat.le_refl _) _
        have hJg := hJ.call hbg
        have hdg := hdk.below hbg hdk.lt
        have hFg := hFk.below hbg hFk.lt
        clear hWg k0 k1 hJ bl x0 f0 t0
        refine (within_any _ _ _ _).mono ?_
        rintro e w' ⟨rfl, rfl⟩
        have f0 := hFg.cell 0
        have fl := hFg.lt
        simp only [List.getElem?_toArray, List.getElem?_cons_zero] at f0
        have g0 := G9.cell 0
        have g1 := G9.cell 1
        have gf := G9.frozen
        have gl := G9.lt
        simp only [List.getElem?_toArray, List.getElem?_cons_zero, List.getElem?_cons_succ] at g0 g1
        cases hin : inR q.pos f t
        case true =>
          have hcase : Hid ((prtC f t q).toList = [⟨q.pos - f, q.siz⟩]) := by show _ = _; rw [prtC, if_pos hin]; rfl
          clear hin
          go_upto_region 20 with fail
          refine wp_wnamed (fun Wx hWx => ?_)
          have GX : BK Wx wr.heap.size 134 #[.int .i64 (q.pos - f), .int .i64 q.siz] := by rw [hWx]; exact G9.set_ 0 _
          have hbx : Below wr.heap.size wr Wx := by rw [hWx]; exact hbg.setCell (Nat.le_refl _) _
          have hJx : JB 26 105 134 136 (w3.heap.size + 2) Wx (w3.heap.size) A1 n1 c1 (partR f t R).ps A2 n2 c2 L none 0 0 [] := by
            rw [hWx]
            exact hJg.off (p := ⟨wr.heap.size, 0, none⟩) (show w3.heap.size ≠ wr.heap.size by omega) (fun a ha => Nat.ne_of_lt (hlP a ha)) (fun a ha => Nat.ne_of_lt (hlA a ha)) (fun a ha => by cases ha) _
          have hdx : DK Wx D := by rw [hWx]; exact hdg.far (p := ⟨wr.heap.size, 0, none⟩) (show D ≠ wr.heap.size by omega) _
          clear f0
          clear hWx g0 g1 gf gl G9 hJg hbg
          have g0 := GX.cell 0
          have g1 := GX.cell 1
          have gl := GX.lt
          simp only [List.getElem?_toArray, List.getElem?_cons_zero, List.getElem?_cons_succ] at g0 g1
          have b1 := hJx.b.cell 1
          have bl := hJx.b.lt
          have hN1 := BK.new Wx 134 #[.int .i64 (q.pos - f), .int .i64 q.siz]
          have hJa := hJx.alloc (.cells #[.int .i64 (q.pos - f), .int .i64 q.siz] 134)
          have HFZ : Hid (∀ w4 g c'', App1 cC 2 134 (w3.heap.size + 2) (Wx.alloc (.cells #[.int .i64 (q.pos - f), .int .i64 q.siz] 134)) A2 n2 c2 L ⟨q.pos - f, q.siz⟩ g c'' w4 → w4.heap[w3.heap.size]? = (Wx.alloc (.cells #[.int .i64 (q.pos - f), .int .i64 q.siz] 134)).heap[w3.heap.size]?) := by
            intro w4 g c'' hap
            exact hap.far _ hJa.b.lt (fun b hb => BK.ne_row (.inr ⟨_, hJa.b⟩) hJa.c (by decide) hb)
          have hzw := hbx.size
          simp only [List.getElem?_toArray, List.getElem?_cons_zero, List.getElem?_cons_succ] at b1
          go_wp2_with (at_builtin; refine wpList_app rfl _ _ 23 rfl (w3.heap.size + 2) 134 _ 2 16 Tryd.underlying23 infoC rfl (by decide) cC A2 n2 c2 L rfl hJa.c ⟨q.pos - f, q.siz⟩ #[.int .i64 (q.pos - f), .int .i64 q.siz] rfl rfl 134 Wx.heap.size rfl hN1 (by simp [cC, Value.oneCell']) (by omega) (by omega) (by simp; omega) ?_; intro g' c'' w1 hap; have hw1 := HFZ.out _ _ _ hap; have hm1 := hJa.b.same hw1; have mf := hm1.frozen 1; have m1 := hm1.cell 1; have HAP := Lib.hid hap; clear hap)
          have hap := HAP.out
          have hdn : DK w1 D := (hap.far D (hdx.alloc _).lt ((hdx.alloc _).ne_row hJa.c)).trans (hdx.alloc _)
          have hJn := hJa.appC (by decide) (by decide) (by decide) (by decide) (by decide) hap
          have hba := (Below.refl Wx.heap.size Wx).alloc (Nat.le_refl _) (.cells #[.int .i64 (q.pos - f), .int .i64 q.siz] 134)
          go_roundw
          case rel => exact ⟨k + 1, _, _, _, by omega, by go_num, by rw [hnew.out, hcase.out]; exact hJn, ((hb.trans (hbx.mono (by omega))).trans ((hba.mono (by omega)).trans (hap.bel.mono (by omega)))).setCell (by simp) _, hdn.far (show D ≠ w3.heap.size by omega) _⟩
          case measure => simp [intOf]; omega
        case false =>
          have hcase : Hid ((prtC f t q).toList = []) := by show _ = _; rw [prtC, if_neg (by rw [hin]; simp)]; rfl
          clear hin
          go_wp2_with fail
          go_roundw
          case rel => exact ⟨k + 1, A2, n2, c2, by omega, by go_num, by rw [hnew.out, hcase.out, List.append_nil]; exact hJg, hb.trans (hbg.mono (by omega)), hdg⟩
          case measure => simp [intOf]; omega
      · obtain rfl : k = cn := by omega
        have hall : Hid ((R.cs.take k).filterMap (prtC f t) = (partR f t R).cs) := by show _ = _; rw [HC.out, List.take_length]; rfl
        rw [hall.out] at hJ
        have hb8 := hb
        have hJ8 := hJ
        have hk8 := hdk
        clear hJ hb hdk
        have x0 := hX.cell 2
        simp only [List.getElem?_toArray, List.getElem?_cons_zero, List.getElem?_cons_succ] at x0
        go_wp2_with fail
        go_loopw [94] (fun i wr => ∃ (k : Nat) (A3 : Option Addr) (n3 c3 : Nat), k ≤ jn ∧ i = .int .i64 k ∧ JB 26 105 134 136 (w3.heap.size + 2) wr (w3.heap.size) A1 n1 c1 (partR f t R).ps A2 n2 c2 (partR f t R).cs A3 n3 c3 ((R.js.take k).filterMap (prtJ f t)) ∧ Below w3.heap.size W wr ∧ DK wr D)
          (fun i _ => jn - (intOf i).toNat)
        case atStart => exact ⟨0, none, 0, 0, Nat.zero_le _, rfl, hJ8, hb8, hk8⟩
        case round =>
          obtain ⟨k, A3, n3, c3, hk, rfl, hJ, hb, hdk⟩ := hrel
          have hsz := hb.size
          have hBw : Below w.heap.size w wr := hB4.trans (hb.mono (by omega))
          have hX := hX4.below hb (by omega)
          have hFk := hF4.below hb (by omega)
          have hTk := hT4.below hb (by omega)
          have x0 := hX.cell 2
          simp only [List.getElem?_toArray, List.getElem?_cons_zero, List.getElem?_cons_succ] at x0
          by_cases hlt : k < jn
          · have hkl : k < R.js.length := by rw [← HJ.out]; exact hlt
            obtain ⟨bb, off, hA, hbB, k0, k1, k2⟩ := JS.at_ (hR.out.j.grow hBw hBw.size) (k := k) hkl
            have hqb := (jbd hv'.out _ (List.getElem_mem hkl)).1
            have hqn := hv'.out.n1
            obtain ⟨L, hL⟩ : ∃ L, L = (R.js.take k).filterMap (prtJ f t) := ⟨_, rfl⟩
            rw [← hL] at hJ
            have hnl : n3 ≤ k := by
              have q1 := hJ.j.len
              have q2 := List.length_filterMap_le (prtJ f t) (R.js.take k)
              have q3 : (R.js.take k).length ≤ k := List.length_take_le ..
              rw [← hL] at q2
              omega
            have hnew : Hid ((R.js.take (k + 1)).filterMap (prtJ f t) = L ++ (prtJ f t R.js[k]).toList) := by
              show _ = _
              rw [List.take_succ_eq_append_getElem hkl, fm_snoc, ← hL]
            clear hL
            generalize R.js[k]'hkl = q at k0 k1 k2 hnew hqb
            obtain ⟨hq1, hq2⟩ := hqb
            have hwe : IntKind.i64.wrap (q.pos - f) = q.pos - f := IntWalk.i64_in _ (by omega)
            have bl := hJ.b.lt
            have hlA : ∀ a, A3 = some a → a.block < wr.heap.size := fun a ha => (hJ.j.lt ha).2
            have hlP : ∀ a, A1 = some a → a.block < wr.heap.size := fun a ha => (hJ.p.lt ha).2
            have hlC : ∀ a, A2 = some a → a.block < wr.heap.size := fun a ha => (hJ.c.lt ha).2
            have hi1 : (0 : Int) ≤ (k : Int) := by omega
            have hi2 : (k : Int) < (jn : Int) := by omega
            subst hA
            have f0 := hFk.cell 0
            have t0 := hTk.cell 0
            have fl := hFk.lt
            have tl := hTk.lt
            have dl := hdk.lt
            simp only [List.getElem?_toArray, List.getElem?_cons_zero] at f0 t0
            go_wp2_with fail
            refine wpCalls_wnamed (fun Wg hWg => ?_)
            have G9 : BK Wg wr.heap.size 136 #[.int .i64 q.pos, .int .i64 q.arms, .int .i64 q.way] := by rw [hWg]; exact BK.new wr _ _
            have hbg : Below wr.heap.size wr Wg := by rw [hWg]; exact (Below.refl _ wr).alloc (Nat.le_refl _) _
            have hJg := hJ.call hbg
            have hdg := hdk.below hbg hdk.lt
            have hFg := hFk.below hbg hFk.lt
            clear hWg k0 k1 k2 hJ bl x0 f0 t0
            refine (within_any _ _ _ _).mono ?_
            rintro e w' ⟨rfl, rfl⟩
            have f0 := hFg.cell 0
            have fl := hFg.lt
            simp only [List.getElem?_toArray, List.getElem?_cons_zero] at f0
            have g0 := G9.cell 0
            have g1 := G9.cell 1
            have g2 := G9.cell 2
            have gf := G9.frozen
            have gl := G9.lt
            simp only [List.getElem?_toArray, List.getElem?_cons_zero, List.getElem?_cons_succ] at g0 g1 g2
            cases hin : inR q.pos f t
            case true =>
              have hcase : Hid ((prtJ f t q).toList = [⟨q.pos - f, q.arms, q.way⟩]) := by show _ = _; rw [prtJ, if_pos hin]; rfl
              clear hin
              go_upto_region 27 with fail
              refine wp_wnamed (fun Wx hWx => ?_)
              have GX : BK Wx wr.heap.size 136 #[.int .i64 (q.pos - f), .int .i64 q.arms, .int .i64 q.way] := by rw [hWx]; exact G9.set_ 0 _
              have hbx : Below wr.heap.size wr Wx := by rw [hWx]; exact hbg.setCell (Nat.le_refl _) _
              have hJx : JB 26 105 134 136 (w3.heap.size + 2) Wx (w3.heap.size) A1 n1 c1 (partR f t R).ps A2 n2 c2 (partR f t R).cs A3 n3 c3 L := by
                rw [hWx]
                exact hJg.off (p := ⟨wr.heap.size, 0, none⟩) (show w3.heap.size ≠ wr.heap.size by omega) (fun a ha => Nat.ne_of_lt (hlP a ha)) (fun a ha => Nat.ne_of_lt (hlC a ha)) (fun a ha => Nat.ne_of_lt (hlA a ha)) _
              have hdx : DK Wx D := by rw [hWx]; exact hdg.far (p := ⟨wr.heap.size, 0, none⟩) (show D ≠ wr.heap.size by omega) _
              clear f0
              clear hWx g0 g1 g2 gf gl G9 hJg hbg
              have g0 := GX.cell 0
              have g1 := GX.cell 1
              have g2 := GX.cell 2
              have gl := GX.lt
              simp only [List.getElem?_toArray, List.getElem?_cons_zero, List.getElem?_cons_succ] at g0 g1 g2
              have b2 := hJx.b.cell 2
              have bl := hJx.b.lt
              have hN1 := BK.new Wx 136 #[.int .i64 (q.pos - f), .int .i64 q.arms, .int .i64 q.way]
              have hJa := hJx.alloc (.cells #[.int .i64 (q.pos - f), .int .i64 q.arms, .int .i64 q.way] 136)
              have HFZ : Hid (∀ w4 g c'', App1 jC 3 136 (w3.heap.size + 2) (Wx.alloc (.cells #[.int .i64 (q.pos - f), .int .i64 q.arms, .int .i64 q.way] 136)) A3 n3 c3 L ⟨q.pos - f, q.arms, q.way⟩ g c'' w4 → w4.heap[w3.heap.size]? = (Wx.alloc (.cells #[.int .i64 (q.pos - f), .int .i64 q.arms, .int .i64 q.way] 136)).heap[w3.heap.size]?) := by
                intro w4 g c'' hap
                exact hap.far _ hJa.b.lt (fun b hb => BK.ne_row (.inr ⟨_, hJa.b⟩) hJa.j (by decide) hb)
              have hzw := hbx.size
              simp only [List.getElem?_toArray, List.getElem?_cons_zero, List.getElem?_cons_succ] at b2
              go_wp2_with (at_builtin; refine wpList_app rfl _ _ 24 rfl (w3.heap.size + 2) 136 _ 3 24 Tryd.underlying24 infoJ rfl (by decide) jC A3 n3 c3 L rfl hJa.j ⟨q.pos - f, q.arms, q.way⟩ #[.int .i64 (q.pos - f), .int .i64 q.arms, .int .i64 q.way] rfl rfl 136 Wx.heap.size rfl hN1 (by simp [jC, Value.oneCell']) (by omega) (by omega) (by simp; omega) ?_; intro g' c'' w1 hap; have hw1 := HFZ.out _ _ _ hap; have hm1 := hJa.b.same hw1; have mf := hm1.frozen 2; have m2 := hm1.cell 2; have HAP := Lib.hid hap; clear hap)
              have hap := HAP.out
              have hdn : DK w1 D := (hap.far D (hdx.alloc _).lt ((hdx.alloc _).ne_row hJa.j)).trans (hdx.alloc _)
              have hJn := hJa.appJ (by decide) (by decide) (by decide) (by decide) (by decide) hap
              have hba := (Below.refl Wx.heap.size Wx).alloc (Nat.le_refl _) (.cells #[.int .i64 (q.pos - f), .int .i64 q.arms, .int .i64 q.way] 136)
              go_roundw
              case rel => exact ⟨k + 1, _, _, _, by omega, by go_num, by rw [hnew.out, hcase.out]; exact hJn, ((hb.trans (hbx.mono (by omega))).trans ((hba.mono (by omega)).trans (hap.bel.mono (by omega)))).setCell (by simp) _, hdn.far (show D ≠ w3.heap.size by omega) _⟩
              case measure => simp [intOf]; omega
            case false =>
              have hcase : Hid ((prtJ f t q).toList = []) := by show _ = _; rw [prtJ, if_neg (by rw [hin]; simp)]; rfl
              clear hin
              go_wp2_with fail
              go_roundw
              case rel => exact ⟨k + 1, A3, n3, c3, by omega, by go_num, by rw [hnew.out, hcase.out, List.append_nil]; exact hJg, hb.trans (hbg.mono (by omega)), hdg⟩
              case measure => simp [intOf]; omega
          · obtain rfl : k = jn := by omega
            have hall : Hid ((R.js.take k).filterMap (prtJ f t) = (partR f t R).js) := by show _ = _; rw [HJ.out, List.take_length]; rfl
            rw [hall.out] at hJ
            have hZ := hZ4.below hb (by omega)
            have zf := hZ.frozen
            have zl := hZ.lt
            have z0 := hZ.cell 0
            have z1 := hZ.cell 1
            have z2 := hZ.cell 2
            have b0 := hJ.b.cell 0
            have b1 := hJ.b.cell 1
            have b2 := hJ.b.cell 2
            simp only [List.getElem?_toArray, List.getElem?_cons_zero, List.getElem?_cons_succ] at b0 b1 b2 z0 z1 z2
            have hP := hJ.p
            have hC := hJ.c
            have hQ := hJ.j
            have fP : ∀ a, A1 = some a → a.block ≠ w.heap.size + 3 := fun a ha => by have := (hP.lt ha).1; omega
            have fC : ∀ a, A2 = some a → a.block ≠ w.heap.size + 3 := fun a ha => by have := (hC.lt ha).1; omega
            have fQ : ∀ a, A3 = some a → a.block ≠ w.heap.size + 3 := fun a ha => by have := (hQ.lt ha).1; omega
            obtain ⟨WF, hWF⟩ : ∃ WF, WF = ((wr.setCell ⟨w.heap.size + 3, 0, none⟩ (.slice A1 n1 c1)).setCell ⟨w.heap.size + 3, 1, none⟩ (.slice A2 n2 c2)).setCell ⟨w.heap.size + 3, 2, none⟩ (.slice A3 n3 c3) := ⟨_, rfl⟩
            have hZF : BK WF (w.heap.size + 3) 26 #[.slice A1 n1 c1, .slice A2 n2 c2, .slice A3 n3 c3] := by rw [hWF]; exact ((hZ.set_ 0 _).set_ 1 _).set_ 2 _
            have hDF : DK WF D := by rw [hWF]; exact ((hdk.far (p := ⟨w.heap.size + 3, 0, none⟩) (show D ≠ w.heap.size + 3 by omega) _).far (p := ⟨w.heap.size + 3, 1, none⟩) (show D ≠ w.heap.size + 3 by omega) _).far (p := ⟨w.heap.size + 3, 2, none⟩) (show D ≠ w.heap.size + 3 by omega) _
            have FF : (OW pC 5 105 w.heap.size WF A1 n1 c1 (partR f t R).ps ∧ OW cC 2 134 w.heap.size WF A2 n2 c2 (partR f t R).cs ∧ OW jC 3 136 w.heap.size WF A3 n3 c3 (partR f t R).js) ∧ Below w.heap.size w WF := by
              rw [hWF]
              exact ⟨⟨(((hP.setCell fP _).setCell fP _).setCell fP _).drop0 (by omega), (((hC.setCell fC _).setCell fC _).setCell fC _).drop0 (by omega), (((hQ.setCell fQ _).setCell fQ _).setCell fQ _).drop0 (by omega)⟩, ((hBw.setCell (by simp) _).setCell (by simp) _).setCell (by simp) _⟩
            have HFF := Lib.hid FF
            have HDF := Lib.hid hDF
            clear FF hP hC hQ fP fC fQ hJ hDF
            go_wp2_with fail
            rw [← hWF]
            refine ⟨by simp, .inl ⟨_, _, rfl, run_takeDeferred HDF.out, ?_⟩⟩
            obtain ⟨⟨o1, o2, o3⟩, ob⟩ := HFF.out
            have hDN := HDF.out
            have hZP : BK (WF.putObj D (.deferred none)) (w.heap.size + 3) 26 #[.slice A1 n1 c1, .slice A2 n2 c2, .slice A3 n3 c3] := hZF.same (World.putObj_heap_other (by omega))
            have z0 := hZP.cell 0
            have z1 := hZP.cell 1
            have z2 := hZP.cell 2
            simp only [List.getElem?_toArray, List.getElem?_cons_zero, List.getElem?_cons_succ] at z0 z1 z2
            refine ⟨.tuple #[.agg #[.slice A1 n1 c1, .slice A2 n2 c2, .slice A3 n3 c3], .int .i64 0], ?_, A1, n1, c1, A2, n2, c2, A3, n3, c3, rfl, ⟨o1.keep (fun g hg => World.putObj_heap_other (hDN.ne_row o1 g hg)), o2.keep (fun g hg => World.putObj_heap_other (hDN.ne_row o2 g hg)), o3.keep (fun g hg => World.putObj_heap_other (hDN.ne_row o3 g hg))⟩, ob.trans (belowK_b (w := w) (Nat.le_refl _) WF D _ _ (by omega) hDN rfl rfl)⟩
            simp [results, Tryd.results55, go_sem, z0, z1, z2]
theorem Part_in (f t : Int) (pa : Option Addr) (pn pc : Nat) (ca : Option Addr) (cn cc : Nat) (ja : Option Addr) (jn jc : Nat) (R : Road) (w : World)
    (h : RD w w.heap.size pa pn ca cn ja jn R) (hv : OK R) (hf : 0 ≤ f) (hft : f < t) (ht : t ≤ sumL R.ps) :
    Calls Tryd.prog 55 #[.agg #[.slice pa pn pc, .slice ca cn cc, .slice ja jn jc], .int .i64 f, .int .i64 t] w fun e w' => ∃ A1 n1 c1 A2 n2 c2 A3 n3 c3, e = .returned (.tuple #[.agg #[.slice A1 n1 c1, .slice A2 n2 c2, .slice A3 n3 c3], .int .i64 0]) ∧
      (OW pC 5 105 w.heap.size w' A1 n1 c1 (partR f t R).ps ∧ OW cC 2 134 w.heap.size w' A2 n2 c2 (partR f t R).cs ∧ OW jC 3 136 w.heap.size w' A3 n3 c3 (partR f t R).js) ∧ Below w.heap.size w w' :=
  callsIn_wide.1 (Part_w f t pa pn pc ca cn cc ja jn jc R w h hv hf hft ht)
end Go.Proofs.YtijcbfhlhgjedaaDoor
