/- Package score: the results of all cars, at a plan of one stage and plain cards. Printed by genscr.py. -/
import Derived.Test.YtafclpmnpamipaaGreatQScI
import Derived.Test.YtafclpmnpamipaaGreatQScG
import Derived.Test.YtafclpmnpamipaaGreatQScS
import Derived.Test.YtafclpmnpamipaaGreatQScT
import Derived.Test.YtafclpmnpamipaaGreatQScV
import Derived.Test.YtafclpmnpamipaaGreatQScW
namespace Go.Proofs.YtafclpmnpamipaaGreat
open Go.RowKit Go.Shelf Go.Sort Go.Proofs

theorem wp_anamed {P : Program} {c : Code} {Q : Exit → Act → World → Prop} {a : Act} {w : World} (h : ∀ a0, a0 = a → c.wp P Q a0 w) : c.wp P Q a w := h a rfl
theorem stable_sl {α : Type} (f : α → List Value) (sz : Nat) (A : Option Addr) (n : Nat) (xs : List α) : stable (fun W => SL f sz W W.heap.size A n xs) := fun _ _ h hb => h.grow hb hb.size
theorem stable_cl (b X : Nat) (v : Value) : stable (fun W => b ≤ X ∧ X < W.heap.size ∧ W.cell? ⟨X, 0, none⟩ = some v) := fun _ _ h hb => ⟨h.1, Nat.lt_of_lt_of_le h.2.1 hb.size, (bc hb h.2.1).trans h.2.2⟩
theorem rngContainsB (A : Option Addr) (n c k : Nat) (hk : k < n) (w : World) (h : SL iC 1 w w.heap.size A n (rng n)) (hn : n ≤ 200) :
    Calls Tryz.prog 42 #[.slice A n c, .int .i64 k] w fun e w' => e = .returned (.bool true) ∧ Below w.heap.size w w' :=
  (rngContains A n c k hk w h hn).mono fun _ _ ⟨a, b⟩ => ⟨a, b ▸ Below.refl _ _⟩
theorem scTookB {eb cn cc oc : Nat} {L : PlF} {ca oa : Option Addr} {xs : List CdV} (w : World) (h : EV w w.heap.size eb L ca cn cc oa oc xs) (k : Nat) (x : CdV) (hx : xs[k]? = some x) :
    Calls Tryz.prog 43 #[.pointer (some ⟨eb, 0, none⟩), .int .i64 k, .int .i64 0] w fun e w' => e = .returned (.int .i64 x.t) ∧ Below w.heap.size w w' :=
  (scTook w h k x hx).mono fun _ _ ⟨a, b⟩ => ⟨a, b ▸ Below.refl _ _⟩
theorem fill_same {n k : Nat} (f : Nat → Value) (z : Value) (h : f k = z) : fillA n f z k = fillA n f z (k + 1) := by
  unfold fillA
  congr 1
  refine List.map_congr_left fun j _ => ?_
  by_cases h1 : j < k
  · rw [if_pos h1, if_pos (by omega)]
  · rw [if_neg h1]
    by_cases h2 : j < k + 1
    · rw [if_pos h2, show j = k by omega, h]
    · rw [if_neg h2]
/-- A place in the results. -/
structure PlcR where (car total place points : Int)
def plcC (x : PlcR) : List Value := [.int .i64 x.car, .bool true, .int .i64 (-1), .int .i64 x.total, .int .i64 x.place, .int .i64 x.place, .int .i64 x.points]
def plcK (L : PlF) (ts : List Int) (n k : Nat) : PlcR := ⟨((ordL n ts).getD k 0 : Nat), ts.getD ((ordL n ts).getD k 0) 0, (k : Int) + 1, L.ps.getD k 0⟩
def plcL (L : PlF) (ts : List Int) (n : Nat) : List PlcR := (List.range n).map (plcK L ts n)
theorem plcC_len (x : PlcR) : (plcC x).length = 7 := rfl
theorem plcC_one (x : PlcR) : ∀ u ∈ plcC x, u.oneCell' = true := by simp [plcC, Value.oneCell']
theorem infoPL : (Tryz.prog.info? 65).map (fun i => (i.zero, i.size, i.bytes)) = some (some (.agg #[.int .i64 0, .bool false, .int .i64 0, .int .i64 0, .int .i64 0, .int .i64 0, .int .i64 0]), 7, 56) := by kernel_rfl
theorem SL.new1 {α : Type} (f : α → List Value) (sz : Nat) {W : World} (x : α) (t : TypeId) (cs : Array Value) (h : cs.toList = f x) : SL f sz (W.alloc (.cells cs t)) (W.alloc (.cells cs t)).heap.size (some ⟨W.heap.size, 0, none⟩) 1 [x] :=
  ⟨rfl, fun _ => ⟨W.heap.size, 0, rfl, by simp, fun i y hy j v hv => by
    have h0 : i = 0 := by
      have := (List.getElem?_eq_some_iff.1 hy).1
      simp at this
      exact this
    subst h0
    have hxy : x = y := by simpa using hy
    subst hxy
    have e0 : 0 + 0 * sz + j = j := by omega
    rw [e0, (BK.new W t cs).cell, ← Array.getElem?_toList, h]
    exact hv⟩⟩
theorem scAtB (A : Option Addr) (n c : Nat) (xs : List Int) (k : Nat) (pt : Int) (hpt : pt = xs.getD k 0) (w : World) (h : SL iC 1 w w.heap.size A n xs) :
    Calls Tryz.prog 55 #[.slice A n c, .int .i64 k] w fun e w' => e = .returned (.int .i64 pt) ∧ Below w.heap.size w w' :=
  (scAt A n c xs k w h).mono fun _ _ ⟨a, b⟩ => ⟨by rw [a, hpt], b ▸ Below.refl _ _⟩
theorem replicate_set (n i : Nat) (z : Value) : (Array.replicate n z).setIfInBounds i z = Array.replicate n z := by
  refine Array.ext (by simp) fun j h1 h2 => ?_
  rw [Array.getElem_setIfInBounds (by simpa using h1)]
  split <;> simp
theorem scOrder (fb : Nat) (W : World) :
    Calls Tryz.prog 46 #[.slice (some ⟨fb, 0, none⟩) 4 4] W fun e w' => e = .returned (.func (.func 103) #[] #[.pointer (some ⟨W.heap.size, 0, none⟩)]) ∧ w' = W.alloc (.cells #[.slice (some ⟨fb, 0, none⟩) 4 4] 180) := by
  go_enter Tryz.func46, Tryz.ntmps46
  go_wp2_with fail
  go_ret
  exact ⟨rfl, rfl⟩
set_option maxRecDepth 100000 in
set_option maxHeartbeats 8000000 in
theorem scResults (L : PlF) (ca : Option Addr) (cn cc : Nat) (xs : List CdV) (w : World) (hp : PD w w.heap.size L) (h : CDS w w.heap.size ca cn xs) (hn : 0 < cn) (hn12 : cn ≤ 12) :
    Calls Tryz.prog 13 #[plA L, .slice ca cn cc] w fun e w' => ∃ A c, e = .returned (.tuple #[.slice A cn c, .int .i64 0]) ∧ OW plcC 7 65 w.heap.size w' A cn c (plcL L (xs.map (·.t)) cn) ∧ Below w.heap.size w w' := by
  have hmo : Tryz.prog.follows .mixedOrders = true := by kernel_rfl
  obtain ⟨w0, hw0⟩ : ∃ w0, w0 = w.alloc (.cells #[.slice (some ⟨L.ib, 0, none⟩) 1 L.ic, .int .i64 1, .int .i64 0, .int .i64 0, .int .i64 L.ml, .int .i64 L.ll, .slice (some ⟨L.jb, 0, none⟩) 1 L.jc, .bool false, .int .i64 0, .int .i64 1, .int .i64 100, .int .i64 L.pow, .slice L.pa L.ps.length L.pc, .slice none 0 0] 42) := ⟨_, rfl⟩
  have hX0 : BK w0 w.heap.size 42 #[.slice (some ⟨L.ib, 0, none⟩) 1 L.ic, .int .i64 1, .int .i64 0, .int .i64 0, .int .i64 L.ml, .int .i64 L.ll, .slice (some ⟨L.jb, 0, none⟩) 1 L.jc, .bool false, .int .i64 0, .int .i64 1, .int .i64 100, .int .i64 L.pow, .slice L.pa L.ps.length L.pc, .slice none 0 0] := by rw [hw0]; exact BK.new w _ _
  have hB0 : Below w.heap.size w w0 := by rw [hw0]; exact (Below.refl _ w).alloc (Nat.le_refl _) _
  have hzx0 : w.heap.size < w0.heap.size := hX0.lt
  have HX0 := Lib.hid hX0
  have HB0 := Lib.hid hB0
  have HBE := Lib.hid (scBegin L ca cn cc xs w0 (hp.grow hB0 hB0.size) (h.grow hB0 hB0.size) (by omega))
  obtain ⟨x0, x1, x2, x3, x4, x5, x6, x7, x8, x9, x10, x11, x12, x13⟩ := bk14 hX0
  clear hp h hX0 hB0
  unfold plA at HBE
  unfold plA
  go_enter Tryz.func13, Tryz.ntmps13
  go_wp2_with fail
  rw [← hw0]
  clear hw0
  go_wp2_with fail
  refine HBE.out.mono ?_
  rintro e w1 ⟨eb, oa, oc, rfl, heb, hE1, hb1⟩
  clear HBE x0 x1 x2 x3 x4 x5 x6 x7 x8 x9 x10 x11 x12 x13
  have HE1 := Lib.hid hE1
  have HX1 := Lib.hid (HX0.out.below hb1 HX0.out.lt)
  have HB1 := Lib.hid (HB0.out.trans (hb1.mono HB0.out.size))
  clear hE1 hb1 HX0 HB0
  go_wp2_with fail
  obtain ⟨w2, hw2⟩ : ∃ w2, w2 = w1.alloc (.cells #[.pointer (some ⟨eb, 0, none⟩)] 111) := ⟨_, rfl⟩
  have hb2 : Below w1.heap.size w1 w2 := by rw [hw2]; exact (Below.refl _ w1).alloc (Nat.le_refl _) _
  have HQ2 : Hid (BK w2 w1.heap.size 111 #[.pointer (some ⟨eb, 0, none⟩)]) := by show BK _ _ _ _; rw [hw2]; exact BK.new w1 _ _
  have HE2 := Lib.hid (HE1.out.grow hb2 hb2.size)
  have HX2 := Lib.hid (HX1.out.below hb2 HX1.out.lt)
  have HB2 := Lib.hid (HB1.out.trans (hb2.mono HB1.out.size))
  rw [← hw2]
  clear hw2 hb2 HX1 HB1
  refine wp_anamed (fun a0 ha0 => ?_)
  have hz : 41 ≤ a0.tmps.size := by rw [ha0]; simp
  have h1 : a0.tmps[1]? = some (.slice ca cn cc) := by rw [ha0]; rfl
  refine wp_region_inv (fun Lx a' W => ∃ B1 B2 X1 X2, I5 a0 w2 (.slice ca cn cc) cn 3 28 Lx a' W B1 B2 X1 X2) hmo (by kernel_rfl) ?h0 ?hstep ?hend
  case h0 =>
    refine ⟨0, 0, 0, 0, ⟨rfl, rfl, fun _ _ => rfl, ?_, ?_, ?_, ?_, ?_, ?_, ?_, ?_, ?_, ?_, ?_, ?_, ?_, ?_, ?_, ?_, (Below.refl _ w2).drew⟩⟩
    all_goals (intro q; cases q)
  case hstep =>
    rintro i o Lx a' W ho hLi hdeps ⟨B1, B2, X1, X2, hI⟩
    have e1 : a'.eval (.tmp 1) = .slice ca cn cc := eval_tmp ((hI.o 1 (by decide)).trans h1)
    rcases i with _ | _ | _ | _ | _ | _ | _ | _ | _ | _ | i
    · obtain rfl := Option.some.inj ho
      exact ⟨rfl, _, _, by simp [execOp, e1], .inl ⟨_, rfl, _, _, _, _, hI.s0 hz⟩⟩
    · obtain rfl := Option.some.inj ho
      have e := (hI.r0 (hdeps ⟨0, .data⟩ (by simp) (by rfl)))
      exact ⟨rfl, _, _, by simp [e, go_sem], .inl ⟨_, rfl, _, _, _, _, hI.s1 hz⟩⟩
    · obtain rfl := Option.some.inj ho
      have e := eval_tmp (hI.r1 (hdeps ⟨1, .data⟩ (by simp) (by rfl)))
      have h8 : Lx 8 = false := by
        cases h : Lx 8 with
        | false => rfl
        | true => rw [(hI.c8 h).1] at hLi; cases hLi
      exact ⟨rfl, _, _, by simp [execOp, e, mkS_ints cn (by omega) W], .inl ⟨_, rfl, _, _, _, _, hI.s2 hz h8⟩⟩
    · obtain rfl := Option.some.inj ho
      exact ⟨rfl, _, _, by simp [execOp, e1], .inl ⟨_, rfl, _, _, _, _, hI.s3 hz⟩⟩
    · obtain rfl := Option.some.inj ho
      have e := (hI.r3 (hdeps ⟨3, .data⟩ (by simp) (by rfl)))
      exact ⟨rfl, _, _, by simp [e, go_sem], .inl ⟨_, rfl, _, _, _, _, hI.s4 hz⟩⟩
    · obtain rfl := Option.some.inj ho
      have e := eval_tmp (hI.r4 (hdeps ⟨4, .data⟩ (by simp) (by rfl)))
      have h8 : Lx 9 = false := by
        cases h : Lx 9 with
        | false => rfl
        | true => rw [(hI.c9 h).1] at hLi; cases hLi
      exact ⟨rfl, _, _, by simp [execOp, e, mkS_ints cn (by omega) W], .inl ⟨_, rfl, _, _, _, _, hI.s5 hz h8⟩⟩
    · obtain rfl := Option.some.inj ho
      have h8 : Lx 8 = false := by
        cases h : Lx 8 with
        | false => rfl
        | true => rw [(hI.c8 h).2] at hLi; cases hLi
      exact ⟨rfl, _, _, by go_simp, .inl ⟨_, rfl, _, _, _, _, hI.s6 hz h8⟩⟩
    · obtain rfl := Option.some.inj ho
      have h8 : Lx 9 = false := by
        cases h : Lx 9 with
        | false => rfl
        | true => rw [(hI.c9 h).2] at hLi; cases hLi
      exact ⟨rfl, _, _, by go_simp, .inl ⟨_, rfl, _, _, _, _, hI.s7 hz h8⟩⟩
    · obtain rfl := Option.some.inj ho
      have l6 := (hdeps ⟨6, .data⟩ (by simp) (by rfl))
      have l2 := (hdeps ⟨2, .data⟩ (by simp) (by rfl))
      have e := (hI.r6 l6).1
      have f := (hI.r2 l2).1
      have c := (hI.r6 l6).2.1.cell 0
      have g := (hI.r6 l6).2.1.frozen 0
      exact ⟨rfl, _, _, by simp [e, f, go_sem, c, g], .inr ⟨rfl, _, _, _, _, hI.s8 l6 l2⟩⟩
    · obtain rfl := Option.some.inj ho
      have l7 := (hdeps ⟨7, .data⟩ (by simp) (by rfl))
      have l5 := (hdeps ⟨5, .data⟩ (by simp) (by rfl))
      have e := (hI.r7 l7).1
      have f := (hI.r5 l5).1
      have c := (hI.r7 l7).2.1.cell 0
      have g := (hI.r7 l7).2.1.frozen 0
      exact ⟨rfl, _, _, by simp [e, f, go_sem, c, g], .inr ⟨rfl, _, _, _, _, hI.s9 l7 l5⟩⟩
    · cases ho
  case hend =>
  rintro Lx a' w3 hall ⟨TA, WA, tb, wb, hI⟩
  have hl : ∀ i, i < 10 → Lx i = true := fun i hi => hall i (by simpa using hi)
  have hT3 : BK w3 TA 3 (Array.replicate cn (.int .i64 0)) := (hI.r2 (hl 2 (by decide))).2.1
  have hW3 : BK w3 WA 3 (Array.replicate cn (.int .i64 0)) := (hI.r5 (hl 5 (by decide))).2.1
  have ht3 : BK w3 tb 28 #[.slice (some ⟨TA, 0, none⟩) cn cn] := by have q := (hI.r6 (hl 6 (by decide))).2.1; rw [hl 8 (by decide)] at q; exact q
  have hv3 : BK w3 wb 28 #[.slice (some ⟨WA, 0, none⟩) cn cn] := by have q := (hI.r7 (hl 7 (by decide))).2.1; rw [hl 9 (by decide)] at q; exact q
  have hg1 := (hI.r2 (hl 2 (by decide))).2.2
  have hg2 := (hI.r5 (hl 5 (by decide))).2.2
  have hg3 := (hI.r6 (hl 6 (by decide))).2.2
  have hg4 := (hI.r7 (hl 7 (by decide))).2.2
  have hne : (TA ≠ WA ∧ TA ≠ tb ∧ TA ≠ wb) ∧ (WA ≠ tb ∧ WA ≠ wb) ∧ tb ≠ wb := ⟨⟨hI.n25 (hl 2 (by decide)) (hl 5 (by decide)), hI.n26 (hl 2 (by decide)) (hl 6 (by decide)), hI.n27 (hl 2 (by decide)) (hl 7 (by decide))⟩, ⟨hI.n56 (hl 5 (by decide)) (hl 6 (by decide)), hI.n57 (hl 5 (by decide)) (hl 7 (by decide))⟩, hI.n67 (hl 6 (by decide)) (hl 7 (by decide))⟩
  have hb3 := hI.b
  rw [hI.frame hl hz, ha0]
  simp only [List.setIfInBounds_toArray, List.set_cons_succ, List.set_cons_zero]
  clear hI hl hall ha0 h1 hz
  have hmk := mkS_rows cn (by omega)
  go_wp2_with fail
  obtain ⟨w4, hw4⟩ : ∃ w4, w4 = (w3.alloc (.cells (Array.replicate cn (.slice none 0 0)) 28)).alloc (.cells #[.slice (some ⟨w3.heap.size, 0, none⟩) cn cn] 114) := ⟨_, rfl⟩
  have hb4 : Below w3.heap.size w3 w4 := by rw [hw4]; exact ((Below.refl _ w3).alloc (Nat.le_refl _) _).alloc (by simp) _
  have hS4 : BK w4 w3.heap.size 28 (Array.replicate cn (.slice none 0 0)) := by rw [hw4]; exact (BK.new w3 _ _).alloc _
  have hs4 : BK w4 (w3.heap.size + 1) 114 #[.slice (some ⟨w3.heap.size, 0, none⟩) cn cn] := by
    have := BK.new (w3.alloc (.cells (Array.replicate cn (.slice none 0 0)) 28)) 114 #[.slice (some ⟨w3.heap.size, 0, none⟩) cn cn]
    rw [World.size_alloc] at this
    rw [hw4]; exact this
  have hz4 : w4.heap.size = w3.heap.size + 2 := by rw [hw4]; simp
  rw [← hw4]
  clear hw4 hmk
  have hb34 := hb3.trans (hb4.mono hb3.size)
  have hsz1 := HE1.out.lt
  have hzq := HQ2.out.lt
  have hzx := HX2.out.lt
  have hx1 : w.heap.size < w1.heap.size := Nat.lt_of_le_of_lt (Nat.le_trans (Nat.le_of_lt hzx0) heb) hsz1
  have hLS : LS (⟨TA, WA, w3.heap.size, tb, wb, w3.heap.size + 1, w1.heap.size, w.heap.size, eb, w2.heap.size, w4.heap.size⟩ : LP) w L ca cn cc oa oc xs (xs.map (·.t)) w4 0 0 0 none 0 0 [] := {
    T := by rw [fill_none]; exact hT3.below hb4 hT3.lt
    V := by rw [fill_none]; exact hW3.below hb4 hW3.lt
    S := by rw [fill_none]; exact hS4
    t := ht3.below hb4 ht3.lt
    v := hv3.below hb4 hv3.lt
    s := hs4
    q := HQ2.out.below hb34 hzq
    x := HX2.out.below hb34 hzx
    e := HE2.out.grow hb34 (Nat.le_refl _)
    o := OW.nil_
    g := fun j p hp => by simp at hp
    b := HB2.out.trans (hb34.mono HB2.out.size)
    z := Nat.le_refl _
    y := HB2.out.size
    N := {
      ds := by
        have l1 := hT3.lt
        have l2 := hW3.lt
        have l3 := ht3.lt
        have l4 := hv3.lt
        obtain ⟨⟨n1, n2, n3⟩, ⟨n4, n5⟩, n6⟩ := hne
        simp only [List.nodup_cons, List.mem_cons, List.not_mem_nil, or_false, not_or, List.nodup_nil, not_false_eq_true, and_true]
        refine ⟨⟨n1, ?_, n2, n3, ?_⟩, ⟨?_, n4, n5, ?_⟩, ⟨?_, ?_, ?_⟩, ⟨n6, ?_⟩, ?_⟩ <;> omega
      lo := by
        have l1 := hT3.lt
        have l2 := hW3.lt
        have l3 := ht3.lt
        have l4 := hv3.lt
        have l5 := hb3.size
        intro b hb
        simp only [List.mem_cons, List.not_mem_nil, or_false] at hb
        rcases hb with rfl | rfl | rfl | rfl | rfl | rfl <;> (constructor <;> dsimp only <;> omega)
      xb := hzq
      pb := hzx } }
  have HL4 := Lib.hid hLS
  have HPT : Hid (∀ (k : Nat) (x : CdV), xs[k]? = some x → 1 ≤ x.t) := fun k x hx => (HE1.out.c.k x (List.mem_of_getElem? hx)).t.1
  have HXL : Hid (cn = xs.length) := HE1.out.len
  clear hLS hT3 hW3 ht3 hv3 hS4 hs4 hg1 hg2 hg3 hg4 hb3 hb4 hb34 HQ2 HE2 HX2 HB2 HE1 hzq hzx hsz1
  go_loopw [8, 9, 46] (fun cv ov iv wr => ∃ (k : Nat) (A : Option Addr) (c : Nat) (sg : List (Nat × Nat)), k ≤ cn ∧ iv = .int .i64 k ∧ cv = .slice A k c ∧ ov = .slice none 0 0 ∧ sg.length = k ∧ LS (⟨TA, WA, w3.heap.size, tb, wb, w3.heap.size + 1, w1.heap.size, w.heap.size, eb, w2.heap.size, w4.heap.size⟩ : LP) w L ca cn cc oa oc xs (xs.map (·.t)) wr k k k A k c sg) (fun _ _ iv _ => cn - (intOf iv).toNat)
  case atStart => exact ⟨0, none, 0, [], Nat.zero_le _, rfl, rfl, rfl, rfl, HL4.out⟩
  case round =>
    obtain ⟨k, A, c, sg, hk, rfl, rfl, rfl, hsg, hS⟩ := hrel
    have HS := Lib.hid hS
    by_cases hlt : k < cn
    case pos =>
      have hkl : k < xs.length := by rw [← HXL.out]; exact hlt
      obtain ⟨x, hx⟩ : ∃ x, xs[k]? = some x := ⟨_, List.getElem?_eq_getElem hkl⟩
      have HTK : Hid ((xs.map (·.t)).getD k 0 = x.t) := by show _ = _; rw [List.getD_eq_getElem?_getD, List.getElem?_map, hx]; rfl
      have HPOS : Hid (∀ j, j < sg.length → 1 ≤ (xs.map (·.t)).getD j 0) := fun j hj => by
        obtain ⟨y, hy⟩ : ∃ y, xs[j]? = some y := ⟨_, List.getElem?_eq_getElem (by omega)⟩
        rw [List.getD_eq_getElem?_getD, List.getElem?_map, hy]
        exact HPT.out j y hy
      have hk1 : (0 : Int) ≤ (k : Int) := by omega
      have hk2 : (k : Int) < (cn : Int) := by omega
      have t0 : wr.cell? ⟨tb, 0, none⟩ = some (.slice (some ⟨TA, 0, none⟩) cn cn) := hS.t.cell 0
      have q0 : wr.cell? ⟨w1.heap.size, 0, none⟩ = some (.pointer (some ⟨eb, 0, none⟩)) := hS.q.cell 0
      have hzw : w2.heap.size ≤ wr.heap.size := by have := hS.z; have := hS.N.a; dsimp only at *; omega
      have HEG := Lib.hid (fun d os => hS.e.grow ((below_regrown wr d os).mono hzw) (Nat.le_trans hzw (below_regrown wr d os).size))
      clear hS hkl
      go_wp2_with fail
      have t0 := fun d os => cell_regrown t0 d os
      have q0 := fun d os => cell_regrown q0 d os
      refine wp_region_ch 5 [4] hmo (by kernel_rfl) ?_
      simp only [List.take_succ_cons, List.take_zero, List.drop_succ_cons, List.drop_zero]
      repeat (with_reducible refine wpC_q (by decide) (by decide) (fun K hK => ?_); go_simp; (try rw [if_neg (by simp [undef])]); refine hK _ ?_; clear hK K)
      with_reducible refine wpC_cg (ι := Unit) 38 #[.pointer (some ⟨eb, 0, none⟩), .int .i64 k] (fun _ => .int .i64 x.t) (fun _ _ => True) (by decide) (by decide) (by go_simp) (fun w => by go_simp) stable_true (fun _ => stable_true) (fun W hW _ => ?_) (fun i0 hs0 => ?_)
      · obtain ⟨pp, rfl⟩ := hW
        refine (scTotal _ (HEG.out _ _) k x hx (by omega)).mono ?_
        rintro e w' ⟨rfl, hbl⟩
        exact ⟨(), rfl, trivial, hbl⟩
      repeat (with_reducible refine wpC_q (by decide) (by decide) (fun K hK => ?_); go_simp; (try rw [if_neg (by simp [undef])]); refine hK _ ?_; clear hK K)
      refine wpC_nil ?_
      intro w5 hb5 _
      clear t0 q0 HEG hs0
      have HS5 := Lib.hid (HS.out.call hb5)
      have hz5 := HS5.out.T.lt
      have c5 : w5.cell? ⟨TA, k, none⟩ = some (.int .i64 0) := (HS5.out.T.cell k).trans (by rw [fill_at _ _ _ hlt, if_neg (Nat.lt_irrefl _)])
      have f5 : w5.frozen? ⟨TA, k, none⟩ = false := HS5.out.T.frozen k
      clear hb5 HS
      go_upto_region 11 with fail
      obtain ⟨w6, hw6⟩ : ∃ w6, w6 = w5.setCell ⟨TA, k, none⟩ (.int .i64 x.t) := ⟨_, rfl⟩
      have HS6 : Hid (LS (⟨TA, WA, w3.heap.size, tb, wb, w3.heap.size + 1, w1.heap.size, w.heap.size, eb, w2.heap.size, w4.heap.size⟩ : LP) w L ca cn cc oa oc xs (xs.map (·.t)) w6 (k + 1) k k A k c sg) := by
        show LS _ _ _ _ _ _ _ _ _ _ _ _ _ _ _ _ _ _
        have h := HS5.out.setT
        unfold tV at h
        rw [HTK.out] at h
        rw [hw6]
        exact h
      rw [← hw6]
      clear hw6 c5 f5 HS5 hz5
      have q0 : w6.cell? ⟨w1.heap.size, 0, none⟩ = some (.pointer (some ⟨eb, 0, none⟩)) := HS6.out.q.cell 0
      have hEO := HS6.out.e.out hlt
      obtain ⟨ob, oo, hOA, _, oc0⟩ := hEO
      have oe : w6.cell? ⟨eb, 15, none⟩ = some (.slice oa cn oc) := HS6.out.e.b.cell 15
      rw [hOA] at oe
      have HO6 := Lib.hid HS6.out.o
      have hzO := HS6.out.z
      go_wp2_with (first
        | (at_builtin; refine wpList_app1 rfl _ _ 28 rfl w4.heap.size 3 _ 1 8 Tryz.underlying28 infoEI rfl (by decide) iC _ A k c (rng k) rfl HO6.out (k : Int) _ rfl rfl 3 _ rfl (by first | rfl | simp) (by simp [iC, Value.oneCell']) (by omega) (by omega) (by dsimp only at hzO; omega) ?_; intro g7 c7 w7 hown7 hbl7 hfar7 hlt7; have HS7 := Lib.hid (HS6.out.app HPOS.out (by omega) (by rw [rng_succ]; exact hown7) hbl7 hfar7); have x0 : w7.cell? ⟨w.heap.size, 0, none⟩ = some (.slice (some ⟨L.ib, 0, none⟩) 1 L.ic) := HS7.out.x.cell 0; clear hown7 hbl7 hfar7 hlt7 HO6 q0 oc0 oe HS6 hzO)
        | fail)
      refine wp_loop_rounds 2 ?_
      rw [rounds_succ]
      have q7 : w7.cell? ⟨w1.heap.size, 0, none⟩ = some (.pointer (some ⟨eb, 0, none⟩)) := HS7.out.q.cell 0
      have hz7 := HS7.out.z
      have hw27 : w2.heap.size ≤ w7.heap.size := by have := HS7.out.N.a; dsimp only at *; omega
      have HE7 := Lib.hid (HS7.out.e.grow (Below.refl _ _) hw27)
      go_wp2_with (go_at_call 39; refine (scStage w7 HE7.out).mono ?_; rintro e w' ⟨rfl, rfl⟩)
      have HEG := Lib.hid (fun d os => HE7.out.grow (below_regrown w7 d os) (below_regrown w7 d os).size)
      have s0 : w7.cell? ⟨w3.heap.size + 1, 0, none⟩ = some (.slice (some ⟨w3.heap.size, 0, none⟩) cn cn) := HS7.out.s.cell 0
      have sk : w7.cell? ⟨w3.heap.size, k, none⟩ = some (.slice none 0 0) := (HS7.out.S.cell k).trans (by rw [fill_at _ _ _ hlt, if_neg (Nat.lt_irrefl _)])
      have s0 := fun d os => cell_regrown s0 d os
      have sk := fun d os => cell_regrown sk d os
      have q7 := fun d os => cell_regrown q7 d os
      clear x0 hz7
      refine wp_region_ch 12 [9, 10, 11] hmo (by kernel_rfl) ?_
      simp only [List.take_succ_cons, List.take_zero, List.drop_succ_cons, List.drop_zero]
      repeat (with_reducible refine wpC_q (by decide) (by decide) (fun K hK => ?_); go_simp; (try rw [if_neg (by simp [undef])]); refine hK _ ?_; clear hK K)
      with_reducible refine wpC_cg (ι := Unit) 40 #[.pointer (some ⟨eb, 0, none⟩), .int .i64 k, .int .i64 0] (fun _ => .int .i64 x.t) (fun _ _ => True) (by decide) (by decide) (by go_simp) (fun w => by go_simp) stable_true (fun _ => stable_true) (fun W hW _ => ?_) (fun i0 hs0 => ?_)
      · obtain ⟨pp, rfl⟩ := hW
        refine (scTime _ (HEG.out _ _) k x hx (by omega)).mono ?_
        rintro e w' ⟨rfl, hbl⟩
        exact ⟨(), rfl, trivial, hbl⟩
      repeat (with_reducible refine wpC_q (by decide) (by decide) (fun K hK => ?_); go_simp; (try rw [if_neg (by simp [undef])]); refine hK _ ?_; clear hK K)
      with_reducible refine wpC_vg (ι := Nat) (fun X => .slice (some ⟨X, 0, none⟩) 1 1) (fun X W => w7.heap.size ≤ X ∧ X < W.heap.size ∧ W.cell? ⟨X, 0, none⟩ = some (.int .i64 x.t)) (by decide) (by decide) (by go_simp) hs0 (fun X => stable_cl _ X _) (fun W hW _ => ?_) (fun X1 hs1 => ?_)
      · obtain ⟨pp, rfl⟩ := hW
        refine ⟨_, (grow (redrawn w7 pp.d) pp.os).alloc (.cells #[.int .i64 x.t] 3), ?_, ⟨(below_regrown w7 pp.d pp.os).size, by rw [World.size_alloc]; exact Nat.lt_succ_self _, (BK.new _ _ _).cell 0⟩, (Below.refl _ _).alloc (Nat.le_refl _) _⟩
        go_simp
      with_reducible refine wpC_vg (ι := Nat × Nat) (fun q => .slice (some ⟨q.1, 0, none⟩) 1 q.2) (fun (q : Nat × Nat) W => w7.heap.size ≤ q.1 ∧ q.1 < W.heap.size ∧ W.cell? ⟨q.1, 0, none⟩ = some (.int .i64 x.t)) (by decide) (by decide) (by go_simp) hs1 (fun q => stable_cl _ q.1 _) (fun W hW hΦ => ?_) (fun q1 hs2 => ?_)
      · have h1 := run_app1 (P := Tryz.prog) (W := W) (base := w7.heap.size) 28 28 (.int .i64 0) 8 Tryz.underlying28 infoEI rfl (by decide) (OW.nil_ (f := iC)) x.t X1 1 (fun j u hj => by
          have h0 : j = 0 := by
            have := (List.getElem?_eq_some_iff.1 hj).1
            simp [iC] at this
            exact this
          subst h0
          rw [hΦ.2.2.2]
          simpa [iC] using hj) rfl (by simp [iC, Value.oneCell']) (by omega) (by decide) (by have := hΦ.2; omega)
        refine Exists.elim h1 fun g h1 => Exists.elim h1 fun c9 h1 => Exists.elim h1 fun W9 h1 => ⟨(g, c9), W9, ?_, ?_, ?_⟩
        · have hr1 := h1.1
          clear HEG
          simp [execOp, resolve, invoke, builtin, Act.eval, Act.put, hr1, Result.andThen]
        · have hO9 := h1.2.1
          obtain ⟨b9, e9, l9, l8, _, hc9⟩ := hO9.at_ iC_len _ rfl
          obtain rfl : g = b9 := by injection e9
          exact ⟨l8, l9, by have := hc9 0 x.t rfl 0 _ rfl; simpa using this⟩
        · exact ⟨h1.2.2.1.os, h1.2.2.1.tape, h1.2.2.1.output, h1.2.2.1.size, fun q hq => h1.2.2.1.block q hq (by intro e; cases e)⟩
      refine wpC_nil ?_
      intro w8 hb8 hΦ8
      clear s0 sk q7 HEG hs0 hs1 hs2
      have hq8 := hΦ8.2
      clear hΦ8
      have HS8 := Lib.hid ((HS7.out.call hb8).more hsg.symm q1 (by have := HS7.out.z; dsimp only at *; omega) hq8.2.1 (by rw [hsg]; unfold tV; rw [HTK.out]; exact hq8.2.2))
      have ck : w8.cell? ⟨w3.heap.size, k, none⟩ = some (.slice none 0 0) := (HS8.out.S.cell k).trans (by rw [fill_at _ _ _ hlt, if_neg (Nat.lt_irrefl _)])
      have fk : w8.frozen? ⟨w3.heap.size, k, none⟩ = false := HS8.out.S.frozen k
      clear hb8 HE7 HS7 hq8
      go_upto_region 19 with fail
      obtain ⟨w9, hw9⟩ : ∃ w9, w9 = w8.setCell ⟨w3.heap.size, k, none⟩ (.slice (some ⟨q1.1, 0, none⟩) 1 q1.2) := ⟨_, rfl⟩
      have HS9 : Hid (LS (⟨TA, WA, w3.heap.size, tb, wb, w3.heap.size + 1, w1.heap.size, w.heap.size, eb, w2.heap.size, w4.heap.size⟩ : LP) w L ca cn cc oa oc xs (xs.map (·.t)) w9 (k + 1) k (k + 1) (some ⟨g7, 0, none⟩) (k + 1) c7 (sg ++ [q1])) := by
        show LS _ _ _ _ _ _ _ _ _ _ _ _ _ _ _ _ _ _
        have h := HS8.out.setS
        have e : sV (sg ++ [q1]) k = .slice (some ⟨q1.1, 0, none⟩) 1 q1.2 := by
          unfold sV
          rw [List.getD_eq_getElem?_getD, List.getElem?_append_right (by omega), hsg, Nat.sub_self]
          rfl
        rw [e] at h
        rw [hw9]
        exact h
      rw [← hw9]
      clear hw9 ck fk HS8
      have q9 : w9.cell? ⟨w1.heap.size, 0, none⟩ = some (.pointer (some ⟨eb, 0, none⟩)) := HS9.out.q.cell 0
      have hz9 : w2.heap.size ≤ w9.heap.size := by have := HS9.out.z; have := HS9.out.N.a; dsimp only at *; omega
      have HR9 := Lib.hid (scReal w9 (HS9.out.e.grow (Below.refl _ _) hz9) (-1) (.inl rfl) (by omega))
      go_wp2_with fail
      refine HR9.out.mono ?_
      rintro e w10 ⟨A3, c3, rfl, hO3, hb10⟩
      have HS10 := Lib.hid (HS9.out.call hb10)
      have HO3 := Lib.hid (hO3.sl iC_len)
      have hz10 : w2.heap.size ≤ w10.heap.size := Nat.le_trans hz9 hb10.size
      have q10 : w10.cell? ⟨w1.heap.size, 0, none⟩ = some (.pointer (some ⟨eb, 0, none⟩)) := HS10.out.q.cell 0
      have HEG := Lib.hid (fun d os => HS10.out.e.grow ((below_regrown w10 d os).mono hz10) (Nat.le_trans hz10 (below_regrown w10 d os).size))
      have HG3 := Lib.hid (fun d os => HO3.out.grow (below_regrown w10 d os) (below_regrown w10 d os).size)
      obtain ⟨mn, hmn⟩ : ∃ m, m = (srtL (xs.map (·.t))).getD 0 0 := ⟨_, rfl⟩
      have HMN : Hid ((srtL (xs.map (·.t)))[0]? = some mn) := by
        show _ = _
        have : 0 < (srtL (xs.map (·.t))).length := by rw [srtL_len, List.length_map, ← HXL.out]; exact hn
        rw [hmn, List.getD_eq_getElem?_getD, List.getElem?_eq_getElem this]
        rfl
      have HMN2 : Hid (mn = (srtL (xs.map (·.t))).getD 0 0) := hmn
      clear hO3 hb10 HS9 HR9 q9 hmn
      go_wp2_with fail
      have q10 := fun d os => cell_regrown q10 d os
      refine wp_region_ch 14 [2, 3, 7, 11, 12, 13] hmo (by kernel_rfl) ?_
      simp only [List.take_succ_cons, List.take_zero, List.drop_succ_cons, List.drop_zero]
      repeat (with_reducible refine wpC_q (by decide) (by decide) (fun K hK => ?_); go_simp; (try rw [if_neg (by simp [undef])]); refine hK _ ?_; clear hK K)
      with_reducible refine wpC_cg (ι := Unit) 42 #[.slice A3 cn c3, .int .i64 k] (fun _ => .bool true) (fun _ _ => True) (by decide) (by decide) (by go_simp) (fun w => by go_simp) stable_true (fun _ => stable_true) (fun W hW _ => ?_) (fun i0 hs0 => ?_)
      · obtain ⟨pp, rfl⟩ := hW
        refine (rngContainsB A3 cn c3 k hlt _ (HG3.out _ _) (by omega)).mono ?_
        rintro e w' ⟨rfl, hbl⟩
        exact ⟨(), rfl, trivial, hbl⟩
      repeat (with_reducible refine wpC_q (by decide) (by decide) (fun K hK => ?_); go_simp; (try rw [if_neg (by simp [undef])]); refine hK _ ?_; clear hK K)
      with_reducible refine wpC_vg (ι := Unit) (fun _ => .bool true) (fun _ _ => True) (by decide) (by decide) (by go_simp) hs0 (fun _ => stable_true) (fun W _ _ => ⟨(), W, by go_simp, trivial, Below.refl _ _⟩) (fun i1 hs1 => ?_)
      repeat (with_reducible refine wpC_q (by decide) (by decide) (fun K hK => ?_); go_simp; (try rw [if_neg (by simp [undef])]); refine hK _ ?_; clear hK K)
      with_reducible refine wpC_cg (ι := Unit) 43 #[.pointer (some ⟨eb, 0, none⟩), .int .i64 k, .int .i64 0] (fun _ => .int .i64 x.t) (fun _ _ => True) (by decide) (by decide) (by go_simp) (fun w => by go_simp) hs1 (fun _ => stable_true) (fun W hW _ => ?_) (fun i2 hs2 => ?_)
      · obtain ⟨pp, rfl⟩ := hW
        refine (scTookB _ (HEG.out _ _) k x hx).mono ?_
        rintro e w' ⟨rfl, hbl⟩
        exact ⟨(), rfl, trivial, hbl⟩
      repeat (with_reducible refine wpC_q (by decide) (by decide) (fun K hK => ?_); go_simp; (try rw [if_neg (by simp [undef])]); refine hK _ ?_; clear hK K)
      with_reducible refine wpC_cg (ι := Nat × Nat) 44 #[.pointer (some ⟨eb, 0, none⟩), .slice A3 cn c3, .int .i64 0] (fun q => .slice (some ⟨q.1, 0, none⟩) cn q.2) (fun q W => OW iC 1 3 w10.heap.size W (some ⟨q.1, 0, none⟩) cn q.2 (srtL (xs.map (·.t)))) (by decide) (by decide) (by go_simp) (fun w => by go_simp) hs2 (fun q => stable_ow _ _ _ _ _ _ _ _) (fun W hW _ => ?_) (fun q3 hs3 => ?_)
      · obtain ⟨pp, rfl⟩ := hW
        refine (scSorted _ (HEG.out _ _) A3 c3 (HG3.out _ _) (by omega) hn).mono ?_
        rintro e w' ⟨g9, c9, rfl, hO9, hbl⟩
        exact ⟨(g9, c9), rfl, hO9.drop0 (below_regrown w10 pp.d pp.os).size, hbl⟩
      repeat (with_reducible refine wpC_q (by decide) (by decide) (fun K hK => ?_); go_simp; (try rw [if_neg (by simp [undef])]); refine hK _ ?_; clear hK K)
      with_reducible refine wpC_vg (ι := Unit) (fun _ => .pointer (some ⟨q3.1, 0, none⟩)) (fun _ _ => True) (by decide) (by decide) (by go_simp) hs3 (fun _ => stable_true) (fun W _ _ => ⟨(), W, ?_, trivial, Below.refl _ _⟩) (fun i4 hs4 => ?_)
      · clear HEG HG3
        go_simp
      with_reducible refine wpC_vg (ι := Unit) (fun _ => .int .i64 mn) (fun _ _ => True) (by decide) (by decide) (by go_simp) hs4 (fun _ => stable_true) (fun W _ hΦ => ⟨(), W, ?_, trivial, Below.refl _ _⟩) (fun i5 hs5 => ?_)
      · have hO9 := hΦ.1.2
        obtain ⟨b9, e9, _, _, _, hc9⟩ := hO9.at_ iC_len _ rfl
        obtain rfl : q3.1 = b9 := by injection e9
        have c9 : W.cell? ⟨q3.1, 0, none⟩ = some (.int .i64 mn) := by have h9 := hc9 0 mn HMN.out 0 _ rfl; simpa using h9
        clear HEG HG3 hΦ hO9 hc9 e9
        go_simp
      refine wpC_nil ?_
      intro w11 hb11 _
      clear q10 HEG HG3 hs0 hs1 hs2 hs3 hs4 hs5
      have HS11 := Lib.hid (HS10.out.call hb11)
      have hv0 : w11.cell? ⟨wb, 0, none⟩ = some (.slice (some ⟨WA, 0, none⟩) cn cn) := HS11.out.v.cell 0
      have hvk : w11.cell? ⟨WA, k, none⟩ = some (.int .i64 0) := (HS11.out.V.cell k).trans (by rw [fill_at _ _ _ hlt, if_neg (Nat.lt_irrefl _)])
      have hvf : w11.frozen? ⟨WA, k, none⟩ = false := HS11.out.V.frozen k
      clear hb11 HS10 hz10 HO3
      by_cases hmx : x.t = mn
      · have hd : (x.t == mn) = true := by simpa using hmx
        have hw1 : IntKind.i64.wrap 1 = 1 := by decide
        have HW : Hid (wV (xs.map (·.t)) k = .int .i64 1) := by
          show _ = _
          unfold wV wnF
          rw [HTK.out, if_pos (hmx.trans HMN2.out)]
        clear hmx HMN HMN2
        go_wp2_with fail
        rw [rounds_succ]
        obtain ⟨w12, hw12⟩ : ∃ w12, w12 = w11.setCell ⟨WA, k, none⟩ (.int .i64 1) := ⟨_, rfl⟩
        have HS12 : Hid (LS (⟨TA, WA, w3.heap.size, tb, wb, w3.heap.size + 1, w1.heap.size, w.heap.size, eb, w2.heap.size, w4.heap.size⟩ : LP) w L ca cn cc oa oc xs (xs.map (·.t)) w12 (k + 1) (k + 1) (k + 1) (some ⟨g7, 0, none⟩) (k + 1) c7 (sg ++ [q1])) := by
          show LS _ _ _ _ _ _ _ _ _ _ _ _ _ _ _ _ _ _
          have h := HS11.out.setV
          rw [HW.out] at h
          rw [hw12]
          exact h
        rw [← hw12]
        clear hw12 hvk hvf hv0 HS11
        go_wp2_with fail
        go_roundw
        case rel => exact ⟨k + 1, some ⟨g7, 0, none⟩, c7, sg ++ [q1], by omega, by go_num, rfl, rfl, by rw [List.length_append, hsg]; rfl, HS12.out⟩
        case measure => simp [intOf]; omega
      · have hd : (x.t == mn) = false := by simpa using hmx
        have HS12 : Hid (LS (⟨TA, WA, w3.heap.size, tb, wb, w3.heap.size + 1, w1.heap.size, w.heap.size, eb, w2.heap.size, w4.heap.size⟩ : LP) w L ca cn cc oa oc xs (xs.map (·.t)) w11 (k + 1) (k + 1) (k + 1) (some ⟨g7, 0, none⟩) (k + 1) c7 (sg ++ [q1])) := by
          show LS _ _ _ _ _ _ _ _ _ _ _ _ _ _ _ _ _ _
          have h := HS11.out
          have e : wV (xs.map (·.t)) k = .int .i64 0 := by
            unfold wV wnF
            rw [HTK.out, if_neg (fun q => hmx (q.trans HMN2.out.symm))]
          exact { h with V := by rw [← fill_same _ _ e]; exact h.V }
        clear hmx HMN HMN2 hvk hvf hv0 HS11
        go_wp2_with fail
        rw [rounds_succ]
        go_wp2_with fail
        go_roundw
        case rel => exact ⟨k + 1, some ⟨g7, 0, none⟩, c7, sg ++ [q1], by omega, by go_num, rfl, rfl, by rw [List.length_append, hsg]; rfl, HS12.out⟩
        case measure => simp [intOf]; omega
    case neg =>
    have hkc : cn = k := by omega
    subst hkc
    clear hlt hk
    cases A with
    | none => have := HS.out.o.none_.1; omega
    | some gA =>
    obtain ⟨bA, hbA, _, _, _, _⟩ := HS.out.o.at_ iC_len gA rfl
    subst hbA
    go_wp2_with fail
    obtain ⟨v0, hv0⟩ : ∃ v0, v0 = wr.alloc (.cells #[.func (.func 47) #[] #[.pointer (some ⟨tb, 0, none⟩)], .func (.func 49) #[] #[.pointer (some ⟨wb, 0, none⟩)], .func (.func 50) #[] #[.pointer (some ⟨w3.heap.size + 1, 0, none⟩)], .func (.func 52) #[] #[]] 118) := ⟨_, rfl⟩
    have hbv0 : Below wr.heap.size wr v0 := by rw [hv0]; exact (Below.refl _ wr).alloc (Nat.le_refl _) _
    have hF0 : BK v0 wr.heap.size 118 #[.func (.func 47) #[] #[.pointer (some ⟨tb, 0, none⟩)], .func (.func 49) #[] #[.pointer (some ⟨wb, 0, none⟩)], .func (.func 50) #[] #[.pointer (some ⟨w3.heap.size + 1, 0, none⟩)], .func (.func 52) #[] #[]] := by rw [hv0]; exact BK.new wr _ _
    rw [← hv0]
    clear hv0
    refine (scOrder wr.heap.size v0).mono ?_
    rintro e v1 ⟨rfl, hv1⟩
    have hb1 : Below v0.heap.size v0 v1 := by rw [hv1]; exact (Below.refl _ v0).alloc (Nat.le_refl _) _
    have hO1 : BK v1 v0.heap.size 180 #[.slice (some ⟨wr.heap.size, 0, none⟩) 4 4] := by rw [hv1]; exact BK.new v0 _ _
    have hF1 := hF0.below hb1 hF0.lt
    have hbw1 := hbv0.trans (hb1.mono hbv0.size)
    have HS1 := Lib.hid (HS.out.call hbw1)
    have hbAlt := (HS.out.o.lt rfl).2
    simp only at hbAlt
    have HPOS : Hid (∀ j, j < sg.length → 1 ≤ (xs.map (·.t)).getD j 0) := fun j hj => by
      obtain ⟨y, hy⟩ : ∃ y, xs[j]? = some y := ⟨_, List.getElem?_eq_getElem (by have := HXL.out; omega)⟩
      rw [List.getD_eq_getElem?_getD, List.getElem?_map, hy]
      exact HPT.out j y hy
    have HRK := Lib.hid (HS1.out.rk HPOS.out hsg (by rw [List.length_map]; exact HXL.out.symm) rfl (CN.of_bk hO1 (by have := hbv0.size; omega)) (CN.of_bk hF1 (by omega)))
    clear hv1 hF0 hF1 hO1 hbv0 hb1 HS
    go_wp2_with fail
    refine (sortCars w4.heap.size bA c cn hn hn12 _ _ _ _ _ _ _ _ _ _ _ v1 HS1.out.o HRK.out).mono ?_
    rintro e v2 ⟨rfl, hO2, hg2⟩
    have hbo : w4.heap.size ≤ bA := (HS1.out.o.lt rfl).1
    have hww : w2.heap.size ≤ w4.heap.size := by have := HS1.out.N.a; dsimp only at *; omega
    have hb2 : Below w4.heap.size v1 v2 := ⟨hg2.os, hg2.tape, hg2.output, hg2.size, fun q hq => hg2.block q (by have := HS1.out.z; dsimp only at *; omega) (fun e => by injection e with e; omega)⟩
    have HT2 : Hid (BK v2 TA 3 (fillA cn (tV (xs.map (·.t))) (.int .i64 0) cn)) := (hg2.block _ HS1.out.T.lt (fun e => by injection e with e; exact HS1.out.o_ne HS1.out.N.a.2 _ rfl e.symm)).trans HS1.out.T
    have HTB2 : Hid (BK v2 tb 28 #[.slice (some ⟨TA, 0, none⟩) cn cn]) := (hg2.block _ HS1.out.t.lt (fun e => by injection e with e; exact HS1.out.o_ne (b := tb) (HS1.out.N.lo _ (by simp)).2 _ rfl e.symm)).trans HS1.out.t
    have HX2 : Hid (BK v2 w.heap.size 42 #[.slice (some ⟨L.ib, 0, none⟩) 1 L.ic, .int .i64 1, .int .i64 0, .int .i64 0, .int .i64 L.ml, .int .i64 L.ll, .slice (some ⟨L.jb, 0, none⟩) 1 L.jc, .bool false, .int .i64 0, .int .i64 1, .int .i64 100, .int .i64 L.pow, .slice L.pa L.ps.length L.pc, .slice none 0 0]) := HS1.out.x.below hb2 (by have := HS1.out.N.pb; dsimp only at *; omega)
    have HQ2 : Hid (BK v2 w1.heap.size 111 #[.pointer (some ⟨eb, 0, none⟩)]) := HS1.out.q.below hb2 (by have := HS1.out.N.xb; dsimp only at *; omega)
    have HE2 := Lib.hid (HS1.out.e.grow (hb2.mono hww) (Nat.le_refl _))
    have HB2 := Lib.hid (HS1.out.b.trans (hb2.mono (Nat.le_trans HS1.out.y hww)))
    have HO2 := Lib.hid hO2
    have hzv : w4.heap.size ≤ v2.heap.size := Nat.le_trans HS1.out.z hb2.size
    have HNE : Hid ((w.heap.size ≤ w2.heap.size ∧ w2.heap.size ≤ w4.heap.size) ∧ (TA < w4.heap.size ∧ tb < w4.heap.size ∧ w.heap.size < w4.heap.size ∧ w1.heap.size < w4.heap.size)) := by
      have n1 := HS1.out.N.a
      have n2 := HS1.out.N.lo tb (by simp)
      have n3 := HS1.out.N.pb
      have n4 := HS1.out.N.xb
      have n5 := HS1.out.y
      dsimp only at n1 n2 n3 n4 n5
      show (_ ∧ _) ∧ _
      omega
    clear HS1 HRK hO2 hg2 hb2 HPOS
    have hmk := mkS_ints cn (by omega)
    obtain ⟨x0, x1, x2, x3, x4, x5, x6, x7, x8, x9, x10, x11, x12, x13⟩ := bk14 HX2.out
    have hxz := HX2.out.lt
    go_upto_if 134 with fail
    obtain ⟨v3, hv3⟩ : ∃ v3, v3 = v2.alloc (.cells (Array.replicate cn (.int .i64 0)) 3) := ⟨_, rfl⟩
    have hb3 : Below v2.heap.size v2 v3 := by rw [hv3]; exact (Below.refl _ v2).alloc (Nat.le_refl _) _
    have hX3 : BK v3 v2.heap.size 3 (Array.replicate cn (.int .i64 0)) := by rw [hv3]; exact BK.new v2 _ _
    rw [← hv3]
    clear hv3
    go_cut [16] from 27 (fun s16 wx => ∃ X, s16 = .slice (some ⟨X, 0, none⟩) cn cn ∧ v2.heap.size ≤ X ∧ BK wx X 3 (Array.replicate cn (.int .i64 0)) ∧ Below v2.heap.size v2 wx)
    case first =>
      rcases HE2.out.p.pow with hpe | hpe
      · have hpd : decide (0 ≤ L.pow) = false := by simp; omega
        go_wp2_with fail
        go_meet
        case rel => exact ⟨v2.heap.size, rfl, Nat.le_refl _, hX3, hb3⟩
      · have hpd : decide (0 ≤ L.pow) = true := by simp; omega
        have hQ3 := HQ2.out.below hb3 HQ2.out.lt
        have hP3 := HX2.out.below hb3 HX2.out.lt
        have q0 : v3.cell? ⟨w1.heap.size, 0, none⟩ = some (.pointer (some ⟨eb, 0, none⟩)) := hQ3.cell 0
        have y11 : v3.cell? ⟨w.heap.size, 11, none⟩ = some (.int .i64 0) := by have := hP3.cell 11; rw [hpe] at this; exact this
        have hzn : w2.heap.size ≤ v2.heap.size := Nat.le_trans HNE.out.1.2 hzv
        have hE3 := HE2.out.grow (hb3.mono hzn) (Nat.le_refl _)
        have HRL := Lib.hid (scReal v3 (hE3.grow (Below.refl _ _) (Nat.le_trans hzn hb3.size)) (-1) (.inl rfl) (by omega))
        have HQ3 := Lib.hid hQ3
        have HP3 := Lib.hid hP3
        have HE3 := Lib.hid hE3
        have HX3 := Lib.hid hX3
        have HB3 := Lib.hid hb3
        have HPE := Lib.hid hpe
        clear hQ3 hP3 hE3 hX3 hb3 hpe hmk HT2 HTB2 HO2 HB2 x0 x1 x2 x3 x4 x5 x6 x7 x8 x9 x10 x11 x12 x13
        go_wp2_with fail
        rotate_left
        · exfalso
          have := HPE.out
          omega
        refine HRL.out.mono ?_
        rintro e v4 ⟨A5, c5, rfl, hO5, hb5⟩
        cases A5 with
        | none => have := hO5.none_.1; omega
        | some g5 =>
        obtain ⟨b5, hg5, _, _, _, _⟩ := hO5.at_ iC_len g5 rfl
        subst hg5
        have hlo := hO5.lt rfl
        simp only at hlo
        have hz3 := HB3.out.size
        have hlq := HQ3.out.lt
        have hlp := HP3.out.lt
        have HST := Lib.hid (stabCars v3.heap.size b5 c5 cn hn hn12 w1.heap.size w.heap.size eb cc oc w2.heap.size L ca oa xs v4 HPE.out hO5 ⟨HQ3.out.below hb5 hlq, HP3.out.below hb5 hlp, HE3.out.grow (hb5.mono (by omega)) (Nat.le_refl _), by omega, by omega, by omega, by have := hb5.size; omega⟩)
        have HX5 := Lib.hid (HX3.out.below hb5 HX3.out.lt)
        have HP5 := Lib.hid (HP3.out.below hb5 hlp)
        have HB5 := Lib.hid (HB3.out.trans (hb5.mono hz3))
        have hzx5 := HX3.out.lt
        clear hO5 hb5 q0 y11 HRL HX3 HQ3 HE3
        go_wp2_with fail
        refine HST.out.mono ?_
        rintro e v5 ⟨rfl, l, hper, hO6, hg6⟩
        have HX6 : Hid (BK v5 v2.heap.size 3 (Array.replicate cn (.int .i64 0))) := (hg6.block _ HX5.out.lt (fun e => by injection e with e; omega)).trans HX5.out
        have HP6 : Hid (BK v5 w.heap.size 42 #[.slice (some ⟨L.ib, 0, none⟩) 1 L.ic, .int .i64 1, .int .i64 0, .int .i64 0, .int .i64 L.ml, .int .i64 L.ll, .slice (some ⟨L.jb, 0, none⟩) 1 L.jc, .bool false, .int .i64 0, .int .i64 1, .int .i64 100, .int .i64 L.pow, .slice L.pa L.ps.length L.pc, .slice none 0 0]) := (hg6.block _ HP5.out.lt (fun e => by injection e with e; omega)).trans HP5.out
        have hb6 : Below v2.heap.size v4 v5 := ⟨hg6.os, hg6.tape, hg6.output, hg6.size, fun q hq => hg6.block q (by have := HB5.out.size; omega) (fun e => by injection e with e; omega)⟩
        have HB6 := Lib.hid (HB5.out.trans hb6)
        have hll : l.length = cn := by have := hper.length_eq; simpa using this
        have HPER : Hid (∀ x ∈ l, x < cn) := fun x hx => List.mem_range.1 (hper.mem_iff.1 hx)
        have hzp := HP6.out.lt
        have hwx : w.heap.size < v2.heap.size := by have := HNE.out; omega
        clear HST HX5 HP5 HB5 hb6 hper
        go_wp2_with fail
        go_loopw [145] (fun iv wr => ∃ k : Nat, k ≤ cn ∧ iv = .int .i64 k ∧ BK wr v2.heap.size 3 (Array.replicate cn (.int .i64 0)) ∧ OW iC 1 3 v3.heap.size wr (some ⟨b5, 0, none⟩) cn c5 (l.map fun (i : Nat) => (i : Int)) ∧ BK wr w.heap.size 42 #[.slice (some ⟨L.ib, 0, none⟩) 1 L.ic, .int .i64 1, .int .i64 0, .int .i64 0, .int .i64 L.ml, .int .i64 L.ll, .slice (some ⟨L.jb, 0, none⟩) 1 L.jc, .bool false, .int .i64 0, .int .i64 1, .int .i64 100, .int .i64 L.pow, .slice L.pa L.ps.length L.pc, .slice none 0 0] ∧ Below v2.heap.size v2 wr) (fun iv _ => cn - (intOf iv).toNat)
        case atStart => exact ⟨0, Nat.zero_le _, rfl, HX6.out, hO6, HP6.out, HB6.out⟩
        case round =>
          obtain ⟨k, hk, rfl, hX, hO, hP, hbr⟩ := hrel
          by_cases hlt : k < cn
          · have hkl : k < l.length := by omega
            obtain ⟨cr, hcr⟩ : ∃ c, l[k]? = some c := ⟨_, List.getElem?_eq_getElem hkl⟩
            have hcn : cr < cn := HPER.out cr (List.mem_of_getElem? hcr)
            obtain ⟨b9, e9, l9, _, _, hc9⟩ := hO.at_ iC_len _ rfl
            obtain rfl : b5 = b9 := by injection e9
            have r0 : wr.cell? ⟨b5, k, none⟩ = some (.int .i64 (cr : Int)) := by
              have h9 := hc9 k (cr : Int) (by rw [List.getElem?_map, hcr]; rfl) 0 _ rfl
              rw [show 0 + k * 1 + 0 = k by omega] at h9
              exact h9
            have p13 : wr.cell? ⟨w.heap.size, 13, none⟩ = some (.slice none 0 0) := hP.cell 13
            have d0 : wr.cell? ⟨v2.heap.size, cr, none⟩ = some (.int .i64 0) := (hX.cell cr).trans (by rw [Array.getElem?_replicate, if_pos hcn])
            have d1 : wr.frozen? ⟨v2.heap.size, cr, none⟩ = false := hX.frozen cr
            have hk1 : (0 : Int) ≤ (k : Int) := by omega
            have hk2 : (k : Int) < (cn : Int) := by omega
            have hc1 : (0 : Int) ≤ (cr : Int) := by omega
            have hc2 : (cr : Int) < (cn : Int) := by omega
            have HAT := Lib.hid (scAt none 0 0 [] k wr SL.nil_)
            have HXr := Lib.hid hX
            have HOr := Lib.hid hO
            have HPr := Lib.hid hP
            have HBr := Lib.hid hbr
            clear hX hO hP hbr hc9 hcr hkl e9
            go_wp2_with (go_at_call 55; refine HAT.out.mono ?_; rintro e w' ⟨rfl, rfl⟩)
            go_roundw
            case rel =>
              refine ⟨k + 1, by omega, by go_num, ?_, HOr.out.setCell (fun g hg => by have := (HOr.out.lt hg).1; show _ ≠ v2.heap.size; omega) _, HPr.out.far (p := ⟨v2.heap.size, cr, none⟩) (by show w.heap.size ≠ v2.heap.size; omega) _, HBr.out.setCell (p := ⟨v2.heap.size, cr, none⟩) (Nat.le_refl _) _⟩
              have q := HXr.out.set_ cr (.int .i64 0)
              rw [replicate_set] at q
              exact q
            case measure => simp [intOf]; omega
          · have hkc : cn = k := by omega
            subst hkc
            go_wp2_with fail
            go_meet
            case rel => exact ⟨v2.heap.size, rfl, Nat.le_refl _, hX, hbr⟩
    case rest =>
    obtain ⟨X, rfl, hXl, hXb, hbX⟩ := hcut
    have HT3 := Lib.hid (HT2.out.below hbX HT2.out.lt)
    have HTB3 := Lib.hid (HTB2.out.below hbX HTB2.out.lt)
    have HX3 := Lib.hid (HX2.out.below hbX HX2.out.lt)
    have HE3 := Lib.hid (HE2.out.grow (hbX.mono (Nat.le_trans HNE.out.1.2 hzv)) (Nat.le_refl _))
    have HO3 := Lib.hid (HO2.out.call hbX)
    have HB3 := Lib.hid (HB2.out.trans (hbX.mono HB2.out.size))
    have HXB := Lib.hid hXb
    have hzc : w4.heap.size ≤ wc.heap.size := Nat.le_trans hzv hbX.size
    clear HT2 HTB2 HX2 HE2 HO2 HB2 HQ2 hb3 hX3 hmk x0 x1 x2 x3 x4 x5 x6 x7 x8 x9 x10 x11 x12 x13
    obtain ⟨x0, x1, x2, x3, x4, x5, x6, x7, x8, x9, x10, x11, x12, x13⟩ := bk14 HX3.out
    have hmk1 : ∀ w, (Instr.makeSlice 28 (.int .i64 1) (.int .i64 1)).run Tryz.prog w = .ok (.slice (some ⟨w.heap.size, 0, none⟩) 1 1) (w.alloc (.cells #[.int .i64 0] 3)) := fun w => by kernel_rfl
    go_wp2_with fail
    obtain ⟨wd, hwd⟩ : ∃ wd, wd = wc.alloc (.cells #[.int .i64 0] 3) := ⟨_, rfl⟩
    have hbd : Below wc.heap.size wc wd := by rw [hwd]; exact (Below.refl _ wc).alloc (Nat.le_refl _) _
    have hCd : BK wd wc.heap.size 3 #[.int .i64 0] := by rw [hwd]; exact BK.new wc _ _
    rw [← hwd]
    clear hwd hmk1
    have hzd := hCd.lt
    go_loopw [20, 164] (fun pv kv wr => ∃ (k : Nat) (A : Option Addr) (c : Nat), k ≤ cn ∧ kv = .int .i64 k ∧ pv = .slice A k c ∧ OW plcC 7 65 wd.heap.size wr A k c ((plcL L (xs.map (·.t)) cn).take k) ∧ BK wr wc.heap.size 3 #[.int .i64 k] ∧ Below wc.heap.size wc wr ∧ wd.heap.size ≤ wr.heap.size) (fun _ kv _ => cn - (intOf kv).toNat)
    case atStart => exact ⟨0, none, 0, Nat.zero_le _, rfl, rfl, OW.nil_, hCd, hbd, Nat.le_refl _⟩
    case round =>
      obtain ⟨k, A, c5, hk, rfl, rfl, hO, hC, hbr, hzr⟩ := hrel
      by_cases hlt : k < cn
      · obtain ⟨cr, hcr⟩ : ∃ c : Nat, c = (ordL cn (xs.map (·.t))).getD k 0 := ⟨_, rfl⟩
        have hkl : k < (ordL cn (xs.map (·.t))).length := by rw [ordL_len hn]; exact hlt
        have hcn : cr < cn := by
          rw [hcr, List.getD_eq_getElem?_getD, List.getElem?_eq_getElem hkl]
          exact ordL_lt hn _ _ (List.getElem_mem hkl)
        obtain ⟨pt, hpt⟩ : ∃ p, p = L.ps.getD k 0 := ⟨_, rfl⟩
        obtain ⟨tt, htt⟩ : ∃ t, t = (xs.map (·.t)).getD cr 0 := ⟨_, rfl⟩
        obtain ⟨plc, hplc⟩ : ∃ p, p = plcK L (xs.map (·.t)) cn k := ⟨_, rfl⟩
        have HPTS : Hid (pt = L.ps.getD k 0) := hpt
        have HPLC : Hid (plc = ⟨(cr : Int), tt, (k : Int) + 1, pt⟩) := by show _ = _; rw [hplc, htt, hcr, hpt]; rfl
        have HTT : Hid (tt = (xs.map (·.t)).getD cr 0) := htt
        have HTAK : Hid ((plcL L (xs.map (·.t)) cn).take (k + 1) = (plcL L (xs.map (·.t)) cn).take k ++ [plc]) := by
          show _ = _
          rw [List.take_add_one, hplc]
          unfold plcL
          rw [List.getElem?_map, List.getElem?_range hlt]
          rfl
        have hpb : 0 ≤ pt ∧ pt ≤ 1000 := by
          rw [hpt]
          by_cases hp : k < L.ps.length
          · rw [List.getD_eq_getElem?_getD, List.getElem?_eq_getElem hp]
            exact HE3.out.p.pb _ (List.getElem_mem hp)
          · rw [List.getD_eq_getElem?_getD, List.getElem?_eq_none (by omega)]
            exact ⟨by decide, by decide⟩
        have hwp : IntKind.i64.wrap pt = pt := IntWalk.i64_in _ (by omega)
        have hwk : IntKind.i64.wrap ((k : Int) + 1) = (k : Int) + 1 := IntWalk.i64_in _ (by omega)
        have hk1 : (0 : Int) ≤ (k : Int) := by omega
        have hk2 : (k : Int) < (cn : Int) := by omega
        have hc1 : (0 : Int) ≤ (cr : Int) := by omega
        have hc2 : (cr : Int) < (cn : Int) := by omega
        have hA0 : wr.cell? ⟨bA, k, none⟩ = some (.int .i64 (cr : Int)) := by
          obtain ⟨b9, e9, l9, _, _, hc9⟩ := HO3.out.at_ iC_len _ rfl
          obtain rfl : bA = b9 := by injection e9
          have h9 := hc9 k (cr : Int) (by rw [List.getElem?_map, List.getElem?_eq_getElem hkl, hcr, List.getD_eq_getElem?_getD, List.getElem?_eq_getElem hkl]; rfl) 0 _ rfl
          rw [show 0 + k * 1 + 0 = k by omega] at h9
          exact (bc hbr l9).trans h9
        have hzw : w2.heap.size ≤ wr.heap.size := by have := HNE.out; have := hbr.size; omega
        obtain ⟨b, off, hca, hbB, c0, _, _, _⟩ := (HE3.out.c.grow (hbr.mono (Nat.le_trans HNE.out.1.2 hzc)) hzw).at_ (k := cr) (by rw [← HXL.out]; exact hcn)
        have d0 : wr.cell? ⟨wc.heap.size, 0, none⟩ = some (.int .i64 (k : Int)) := hC.cell 0
        have d1 : wr.frozen? ⟨wc.heap.size, 0, none⟩ = false := hC.frozen 0
        have hzC := hC.lt
        have HO := Lib.hid hO
        have HC := Lib.hid hC
        have HBR := Lib.hid hbr
        clear hplc hpt htt hcr hkl hO hC hbr x0 x1 x2 x3 x4 x5 x6 x7 x8 x9 x10 x11 x12 x13
        subst hca
        go_upto_region 41 with fail
        obtain ⟨w6, hw6⟩ : ∃ w6, w6 = wr.setCell ⟨wc.heap.size, 0, none⟩ (.int .i64 ((k : Int) + 1)) := ⟨_, rfl⟩
        have hC6 : BK w6 wc.heap.size 3 #[.int .i64 ((k : Int) + 1)] := by rw [hw6]; exact HC.out.set_ 0 _
        have hb6 : Below wc.heap.size wc w6 := by rw [hw6]; exact HBR.out.setCell (p := ⟨wc.heap.size, 0, none⟩) (Nat.le_refl _) _
        have hO6 : OW plcC 7 65 wd.heap.size w6 A k c5 ((plcL L (xs.map (·.t)) cn).take k) := by
          rw [hw6]
          exact HO.out.setCell (fun g hg => by have := (HO.out.lt hg).1; show _ ≠ wc.heap.size; omega) _
        have hz6 : wd.heap.size ≤ w6.heap.size := by rw [hw6]; simpa using hzr
        rw [← hw6]
        clear hw6 hA0 c0 d0 d1
        have hX6 := HX3.out.below hb6 HX3.out.lt
        have t0 : w6.cell? ⟨tb, 0, none⟩ = some (.slice (some ⟨TA, 0, none⟩) cn cn) := (HTB3.out.below hb6 HTB3.out.lt).cell 0
        have tk : w6.cell? ⟨TA, cr, none⟩ = some (.int .i64 tt) := by
          have q := (HT3.out.below hb6 HT3.out.lt).cell cr
          rw [fill_at _ _ _ hcn, if_pos hcn] at q
          unfold tV at q
          rw [← HTT.out] at q
          exact q
        have d0 : w6.cell? ⟨wc.heap.size, 0, none⟩ = some (.int .i64 ((k : Int) + 1)) := hC6.cell 0
        have x12 : w6.cell? ⟨w.heap.size, 12, none⟩ = some (.slice L.pa L.ps.length L.pc) := hX6.cell 12
        have e0 : w6.cell? ⟨X, cr, none⟩ = some (.int .i64 0) := ((HXB.out.below hb6 HXB.out.lt).cell cr).trans (by rw [Array.getElem?_replicate, if_pos hcn])
        have hzw6 : w2.heap.size ≤ w6.heap.size := by have := HNE.out; omega
        have HPG := Lib.hid (fun d os => ((HE3.out.p.p.grow (hb6.mono (Nat.le_trans HNE.out.1.2 hzc)) hzw6)).grow (below_regrown w6 d os) (below_regrown w6 d os).size)
        have t0 := fun d os => cell_regrown t0 d os
        have tk := fun d os => cell_regrown tk d os
        have d0 := fun d os => cell_regrown d0 d os
        have x12 := fun d os => cell_regrown x12 d os
        have e0 := fun d os => cell_regrown e0 d os
        have HO6 := Lib.hid hO6
        have HC6 := Lib.hid hC6
        have HB6 := Lib.hid hb6
        clear hX6 hO6 hC6 hb6 HO HC HBR
        refine wp_region_ch 24 [16, 21, 22, 23] hmo (by kernel_rfl) ?_
        simp only [List.take_succ_cons, List.take_zero, List.drop_succ_cons, List.drop_zero]
        repeat (with_reducible refine wpC_q (by decide) (by decide) (fun K hK => ?_); go_simp; (try rw [if_neg (by simp [undef])]); refine hK _ ?_; clear hK K)
        with_reducible refine wpC_cg (ι := Unit) 55 #[.slice L.pa L.ps.length L.pc, .int .i64 k] (fun _ => .int .i64 pt) (fun _ _ => True) (by decide) (by decide) (by go_simp) (fun w => by go_simp) stable_true (fun _ => stable_true) (fun W hW _ => ?_) (fun i0 hs0 => ?_)
        · obtain ⟨pp, rfl⟩ := hW
          refine (scAtB L.pa L.ps.length L.pc L.ps k pt HPTS.out _ (HPG.out _ _)).mono ?_
          rintro e w' ⟨rfl, hbl⟩
          exact ⟨(), rfl, trivial, hbl⟩
        repeat (with_reducible refine wpC_q (by decide) (by decide) (fun K hK => ?_); go_simp; (try rw [if_neg (by simp [undef])]); refine hK _ ?_; clear hK K)
        with_reducible refine wpC_vg (ι := Unit) (fun _ => .int .i64 pt) (fun _ _ => True) (by decide) (by decide) (by go_simp) hs0 (fun _ => stable_true) (fun W _ _ => ⟨(), W, by go_simp, trivial, Below.refl _ _⟩) (fun i1 hs1 => ?_)
        repeat (with_reducible refine wpC_q (by decide) (by decide) (fun K hK => ?_); go_simp; (try rw [if_neg (by simp [undef])]); refine hK _ ?_; clear hK K)
        with_reducible refine wpC_vg (ι := Unit) (fun _ => .agg #[.int .i64 cr, .bool true, .int .i64 (-1), .int .i64 tt, .int .i64 ((k : Int) + 1), .int .i64 ((k : Int) + 1), .int .i64 pt]) (fun _ _ => True) (by decide) (by decide) (by go_simp) hs1 (fun _ => stable_true) (fun W _ _ => ⟨(), W, by go_simp, trivial, Below.refl _ _⟩) (fun i2 hs2 => ?_)
        repeat (with_reducible refine wpC_q (by decide) (by decide) (fun K hK => ?_); go_simp; (try rw [if_neg (by simp [undef])]); refine hK _ ?_; clear hK K)
        with_reducible refine wpC_vg (ι := Nat) (fun X2 => .slice (some ⟨X2, 0, none⟩) 1 1) (fun X2 W => SL plcC 7 W W.heap.size (some ⟨X2, 0, none⟩) 1 [plc]) (by decide) (by decide) (by go_simp) hs2 (fun X2 => stable_sl _ _ _ _ _) (fun W hW _ => ?_) (fun X2 hs3 => ?_)
        · refine ⟨W.heap.size, W.alloc (.cells #[.int .i64 cr, .bool true, .int .i64 (-1), .int .i64 tt, .int .i64 ((k : Int) + 1), .int .i64 ((k : Int) + 1), .int .i64 pt] 65), ?_, ?_, (Below.refl _ _).alloc (Nat.le_refl _) _⟩
          · clear HPG HPLC
            go_simp
          · exact SL.new1 plcC 7 (W := W) plc _ _ (by rw [HPLC.out]; rfl)
        refine wpC_nil ?_
        intro w7 hb7 hΦ7
        clear t0 tk d0 x12 e0 HPG hs0 hs1 hs2 hs3
        have HSX := Lib.hid hΦ7.2
        have HO7 := Lib.hid (HO6.out.call hb7)
        have hz7 := hb7.size
        have hC7 := HC6.out.below hb7 HC6.out.lt
        have hC7z := hC7.lt
        have HC7 := Lib.hid hC7
        have HB7 := Lib.hid (HB6.out.trans (hb7.mono HB6.out.size))
        clear hΦ7 hb7 HO6 HC6 HB6 hC7
        go_wp2_with (first
          | (at_builtin; refine wpList_appS rfl _ _ 61 rfl wd.heap.size 65 _ 7 56 Tryz.underlying61 infoPL rfl (by decide) plcC A k c5 _ rfl HO7.out w7.heap.size (some ⟨X2, 0, none⟩) 1 1 [plc] rfl HSX.out plcC_len plcC_one (by omega) (by omega) (by omega) ?_; intro A8 c8 w8 hap; have HAP := Lib.hid hap; clear hap)
          | fail)
        go_roundw
        case rel =>
          refine ⟨k + 1, A8, c8, by omega, by go_num, rfl, by rw [HTAK.out]; exact HAP.out.own, ?_, HB7.out.trans (HAP.out.bel.mono (by omega)), by have := HAP.out.size; omega⟩
          exact (HAP.out.far _ hC7z (fun b hb => by have := (HO7.out.lt hb).1; omega)).trans (by rw [show (((k + 1 : Nat) : Int)) = (k : Int) + 1 by omega]; exact HC7.out)
        case measure => simp [intOf]; omega
      · have hkc : cn = k := by omega
        subst hkc
        go_wp2_with fail
        refine wp_loop_rounds 1 ?_
        rw [rounds_succ]
        go_wp2_with fail
        go_ret2
        have hall : (plcL L (xs.map (·.t)) cn).take cn = plcL L (xs.map (·.t)) cn := List.take_of_length_le (by simp [plcL])
        rw [hall] at hO
        exact ⟨A, c5, rfl, hO.drop0 (by have := HNE.out; omega), HB3.out.trans (hbr.mono HB3.out.size)⟩
end Go.Proofs.YtafclpmnpamipaaGreat
