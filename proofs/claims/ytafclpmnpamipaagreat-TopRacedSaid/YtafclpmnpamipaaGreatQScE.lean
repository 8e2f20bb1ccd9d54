/- Package score: begin, at a plan of one stage and plain cards: nobody is out. Printed by genscef.py. -/
import Derived.Test.YtafclpmnpamipaaGreatQScD
import Derived.Test.YtafclpmnpamipaaGreatQReg10
namespace Go.Proofs.YtafclpmnpamipaaGreat
open Go.RowKit Go.Shelf Go.Sort Go.Proofs

/-- Cards that lie in a slice, each as it lies. -/
structure CDS (w : World) (B : Nat) (ca : Option Addr) (cn : Nat) (xs : List CdV) : Prop where
  s : SL cdC 3 w B ca cn xs
  k : ∀ x ∈ xs, CD w B x
theorem CDS.grow {w w' : World} {B B' cn : Nat} {ca : Option Addr} {xs : List CdV} (h : CDS w B ca cn xs) (hb : Below B w w') (hB : B ≤ B') : CDS w' B' ca cn xs := ⟨h.s.grow hb hB, fun x hx => (h.k x hx).grow hb hB⟩
theorem CDS.at_ {w : World} {B cn : Nat} {ca : Option Addr} {xs : List CdV} (h : CDS w B ca cn xs) {k : Nat} (hk : k < xs.length) : ∃ b off, ca = some ⟨b, off, none⟩ ∧ b < B ∧ w.cell? ⟨b, off + k * 3, none⟩ = some (.int .i64 0) ∧
    w.cell? ⟨b, off + k * 3 + 1, none⟩ = some (.slice (some ⟨xs[k].sb, 0, none⟩) 1 xs[k].sc) ∧ w.cell? ⟨b, off + k * 3 + 2, none⟩ = some (.slice (some ⟨xs[k].lb, 0, none⟩) 1 xs[k].lc) ∧ CD w B xs[k] := by
  obtain ⟨b, off, e, hb, hc⟩ := h.s.at_ hk
  exact ⟨b, off, e, hb, hc 0 _ rfl, hc 1 _ rfl, hc 2 _ rfl, h.k _ (List.getElem_mem hk)⟩
set_option maxRecDepth 100000 in
set_option maxHeartbeats 8000000 in
theorem beg1_any (L : PlF) (x : CdV) (pb : Nat) (w : World) (hX : BK w pb 42 #[.slice (some ⟨L.ib, 0, none⟩) 1 L.ic, .int .i64 1, .int .i64 0, .int .i64 0, .int .i64 L.ml, .int .i64 L.ll, .slice (some ⟨L.jb, 0, none⟩) 1 L.jc, .bool false, .int .i64 0, .int .i64 1, .int .i64 100, .int .i64 L.pow, .slice L.pa L.ps.length L.pc, .slice none 0 0]) (hp : PD w w.heap.size L) (h : CD w w.heap.size x) :
    Calls Tryz.prog 88 #[.agg #[.int .i64 0, .slice (some ⟨x.sb, 0, none⟩) 1 x.sc, .slice (some ⟨x.lb, 0, none⟩) 1 x.lc], .pointer (some ⟨pb, 0, none⟩)] w fun e w' => e = .returned (.bool false) ∧ Below w.heap.size w w' := by
  obtain ⟨x0, x1, x2, x3, x4, x5, x6, x7, x8, x9, x10, x11, x12, x13⟩ := bk14 hX
  have hpb := hX.lt
  have hb1 : Below w.heap.size w (w.alloc (.cells #[.int .i64 0, .slice (some ⟨x.sb, 0, none⟩) 1 x.sc, .slice (some ⟨x.lb, 0, none⟩) 1 x.lc] 58)) := (Below.refl _ w).alloc (Nat.le_refl _) _
  have HC := Lib.hid (scCard L x _ (hp.grow hb1 hb1.size) (h.grow hb1 hb1.size))
  have HB := Lib.hid hb1
  clear hX hp h hb1
  unfold plA at HC
  go_enter Tryz.func88, Tryz.ntmps88
  go_wp2_with fail
  refine HC.out.mono ?_
  rintro e w' ⟨rfl, hb2⟩
  go_wp2_with fail
  go_ret
  exact ⟨rfl, HB.out.trans (hb2.mono HB.out.size)⟩
set_option maxRecDepth 100000 in
set_option maxHeartbeats 8000000 in
theorem begI_any (L : PlF) (pb : Nat) (ca : Option Addr) (cn cc : Nat) (xs : List CdV) (w : World) (hX : BK w pb 42 #[.slice (some ⟨L.ib, 0, none⟩) 1 L.ic, .int .i64 1, .int .i64 0, .int .i64 0, .int .i64 L.ml, .int .i64 L.ll, .slice (some ⟨L.jb, 0, none⟩) 1 L.jc, .bool false, .int .i64 0, .int .i64 1, .int .i64 100, .int .i64 L.pow, .slice L.pa L.ps.length L.pc, .slice none 0 0]) (hp : PD w w.heap.size L) (h : CDS w w.heap.size ca cn xs) (hn : cn ≤ 200) :
    Calls Tryz.prog 133 #[.slice ca cn cc, .func (.func 88) #[] #[.pointer (some ⟨pb, 0, none⟩)]] w fun e w' => e = .returned (.int .i64 (-1)) ∧ Below w.heap.size w w' := by
  have HK := Lib.hid h
  have HL := Lib.hid h.s.1
  have HX := Lib.hid hX
  have HP := Lib.hid hp
  clear h hX hp
  go_enter Tryz.func133, Tryz.ntmps133
  go_wp2_with fail
  go_loopw [8] (fun i wr => ∃ k : Nat, k ≤ cn ∧ i = .int .i64 k ∧ Below w.heap.size w wr) (fun i _ => cn - (intOf i).toNat)
  case atStart => exact ⟨0, Nat.zero_le _, rfl, Below.refl _ _⟩
  case round =>
    obtain ⟨k, hk, rfl, hbr⟩ := hrel
    by_cases hlt : k < cn
    · have hkl : k < xs.length := by rw [← HL.out]; exact hlt
      obtain ⟨b, off, hA, hbB, c0, c1, c2, hcd⟩ := (HK.out.grow hbr hbr.size).at_ (k := k) hkl
      generalize xs[k]'hkl = x at c1 c2 hcd
      have hk1 : (0 : Int) ≤ (k : Int) := by omega
      have hk2 : (k : Int) < (cn : Int) := by omega
      have HF := Lib.hid (beg1_any L x pb _ (HX.out.below hbr HX.out.lt) (HP.out.grow hbr hbr.size) hcd)
      clear hkl hcd
      subst hA
      go_wp2_with (go_at_call 88; refine HF.out.mono ?_; rintro e w' ⟨rfl, hb2⟩)
      go_roundw
      case rel => exact ⟨k + 1, by omega, by go_num, hbr.trans (hb2.mono hbr.size)⟩
      case measure => simp [intOf]; omega
    · obtain rfl : k = cn := by omega
      go_wp2_with fail
      go_ret
      exact ⟨rfl, hbr⟩
set_option maxRecDepth 100000 in
set_option maxHeartbeats 8000000 in
theorem begC_any (L : PlF) (pb : Nat) (ca : Option Addr) (cn cc : Nat) (xs : List CdV) (w : World) (hX : BK w pb 42 #[.slice (some ⟨L.ib, 0, none⟩) 1 L.ic, .int .i64 1, .int .i64 0, .int .i64 0, .int .i64 L.ml, .int .i64 L.ll, .slice (some ⟨L.jb, 0, none⟩) 1 L.jc, .bool false, .int .i64 0, .int .i64 1, .int .i64 100, .int .i64 L.pow, .slice L.pa L.ps.length L.pc, .slice none 0 0]) (hp : PD w w.heap.size L) (h : CDS w w.heap.size ca cn xs) (hn : cn ≤ 200) :
    Calls Tryz.prog 87 #[.slice ca cn cc, .func (.func 88) #[] #[.pointer (some ⟨pb, 0, none⟩)]] w fun e w' => e = .returned (.bool false) ∧ Below w.heap.size w w' := by
  have HF := Lib.hid (begI_any L pb ca cn cc xs w hX hp h hn)
  clear hX hp h
  go_enter Tryz.func87, Tryz.ntmps87
  go_wp2_with (go_at_call 133; refine HF.out.mono ?_; rintro e w' ⟨rfl, hb2⟩)
  go_ret
  exact ⟨rfl, hb2⟩
theorem infoEI : (Tryz.prog.info? 3).map (fun i => (i.zero, i.size, i.bytes)) = some (some (.int .i64 0), 1, 8) := by kernel_rfl
theorem bk16 {w : World} {b : Nat} {L : PlF} {ca oa : Option Addr} {cn cc on oc : Nat} {t : TypeId} (h : BK w b t #[.slice (some ⟨L.ib, 0, none⟩) 1 L.ic, .int .i64 1, .int .i64 0, .int .i64 0, .int .i64 L.ml, .int .i64 L.ll, .slice (some ⟨L.jb, 0, none⟩) 1 L.jc, .bool false, .int .i64 0, .int .i64 1, .int .i64 100, .int .i64 L.pow, .slice L.pa L.ps.length L.pc, .slice none 0 0, .slice ca cn cc, .slice oa on oc]) : w.cell? ⟨b, 0, none⟩ = some (.slice (some ⟨L.ib, 0, none⟩) 1 L.ic) ∧ w.cell? ⟨b, 1, none⟩ = some (.int .i64 1) ∧ w.cell? ⟨b, 2, none⟩ = some (.int .i64 0) ∧ w.cell? ⟨b, 3, none⟩ = some (.int .i64 0) ∧ w.cell? ⟨b, 4, none⟩ = some (.int .i64 L.ml) ∧ w.cell? ⟨b, 5, none⟩ = some (.int .i64 L.ll) ∧ w.cell? ⟨b, 6, none⟩ = some (.slice (some ⟨L.jb, 0, none⟩) 1 L.jc) ∧ w.cell? ⟨b, 7, none⟩ = some (.bool false) ∧ w.cell? ⟨b, 8, none⟩ = some (.int .i64 0) ∧ w.cell? ⟨b, 9, none⟩ = some (.int .i64 1) ∧ w.cell? ⟨b, 10, none⟩ = some (.int .i64 100) ∧ w.cell? ⟨b, 11, none⟩ = some (.int .i64 L.pow) ∧ w.cell? ⟨b, 12, none⟩ = some (.slice L.pa L.ps.length L.pc) ∧ w.cell? ⟨b, 13, none⟩ = some (.slice none 0 0) ∧ w.cell? ⟨b, 14, none⟩ = some (.slice ca cn cc) ∧ w.cell? ⟨b, 15, none⟩ = some (.slice oa on oc) :=
  ⟨h.cell 0, h.cell 1, h.cell 2, h.cell 3, h.cell 4, h.cell 5, h.cell 6, h.cell 7, h.cell 8, h.cell 9, h.cell 10, h.cell 11, h.cell 12, h.cell 13, h.cell 14, h.cell 15⟩
/-- What begin leaves: the event behind the pointer to block eb. -/
structure EV (w : World) (B eb : Nat) (L : PlF) (ca : Option Addr) (cn cc : Nat) (oa : Option Addr) (oc : Nat) (xs : List CdV) : Prop where
  b : BK w eb 117 #[.slice (some ⟨L.ib, 0, none⟩) 1 L.ic, .int .i64 1, .int .i64 0, .int .i64 0, .int .i64 L.ml, .int .i64 L.ll, .slice (some ⟨L.jb, 0, none⟩) 1 L.jc, .bool false, .int .i64 0, .int .i64 1, .int .i64 100, .int .i64 L.pow, .slice L.pa L.ps.length L.pc, .slice none 0 0, .slice ca cn cc, .slice oa cn oc]
  lt : eb < B
  p : PD w B L
  c : CDS w B ca cn xs
  o : SL iC 1 w B oa cn (List.replicate cn (-1))
theorem EV.grow {w w' : World} {B B' eb : Nat} {L : PlF} {ca : Option Addr} {cn cc : Nat} {oa : Option Addr} {oc : Nat} {xs : List CdV} (h : EV w B eb L ca cn cc oa oc xs) (hb : Below B w w') (hB : B ≤ B') : EV w' B' eb L ca cn cc oa oc xs :=
  ⟨h.b.below hb h.lt, Nat.lt_of_lt_of_le h.lt hB, h.p.grow hb hB, h.c.grow hb hB, h.o.grow hb hB⟩
set_option maxRecDepth 100000 in
set_option maxHeartbeats 8000000 in
theorem scBegin (L : PlF) (ca : Option Addr) (cn cc : Nat) (xs : List CdV) (w : World) (hp : PD w w.heap.size L) (h : CDS w w.heap.size ca cn xs) (hn : cn ≤ 200) :
    Calls Tryz.prog 37 #[plA L, .slice ca cn cc] w fun e w' => ∃ eb oa oc, e = .returned (.tuple #[.pointer (some ⟨eb, 0, none⟩), .bool true]) ∧ w.heap.size ≤ eb ∧ EV w' w'.heap.size eb L ca cn cc oa oc xs ∧ Below w.heap.size w w' := by
  have hmo : Tryz.prog.follows .mixedOrders = true := by kernel_rfl
  obtain ⟨w0, hw0⟩ : ∃ w0, w0 = w.alloc (.cells #[.slice (some ⟨L.ib, 0, none⟩) 1 L.ic, .int .i64 1, .int .i64 0, .int .i64 0, .int .i64 L.ml, .int .i64 L.ll, .slice (some ⟨L.jb, 0, none⟩) 1 L.jc, .bool false, .int .i64 0, .int .i64 1, .int .i64 100, .int .i64 L.pow, .slice L.pa L.ps.length L.pc, .slice none 0 0] 42) := ⟨_, rfl⟩
  have hX0 : BK w0 w.heap.size 42 #[.slice (some ⟨L.ib, 0, none⟩) 1 L.ic, .int .i64 1, .int .i64 0, .int .i64 0, .int .i64 L.ml, .int .i64 L.ll, .slice (some ⟨L.jb, 0, none⟩) 1 L.jc, .bool false, .int .i64 0, .int .i64 1, .int .i64 100, .int .i64 L.pow, .slice L.pa L.ps.length L.pc, .slice none 0 0] := by rw [hw0]; exact BK.new w _ _
  have hB0 : Below w.heap.size w w0 := by rw [hw0]; exact (Below.refl _ w).alloc (Nat.le_refl _) _
  have HP0 := Lib.hid (hp.grow hB0 hB0.size)
  have HC0 := Lib.hid (h.grow hB0 hB0.size)
  have HX0 := Lib.hid hX0
  have HB0 := Lib.hid hB0
  have HCL := Lib.hid h.s.1
  obtain ⟨x0, x1, x2, x3, x4, x5, x6, x7, x8, x9, x10, x11, x12, x13⟩ := bk14 hX0
  clear hp h hX0 hB0
  have HCK := Lib.hid (scCheck L w0 HP0.out)
  unfold plA at HCK
  unfold plA
  go_enter Tryz.func37, Tryz.ntmps37
  go_wp2_with fail
  rw [← hw0]
  clear hw0
  go_wp2_with fail
  refine HCK.out.mono ?_
  rintro e w1 ⟨rfl, hb1⟩
  have HX1 := Lib.hid (HX0.out.below hb1 HX0.out.lt)
  have HP1 := Lib.hid (HP0.out.grow hb1 hb1.size)
  have HC1 := Lib.hid (HC0.out.grow hb1 hb1.size)
  have HB1 := Lib.hid (HB0.out.trans (hb1.mono HB0.out.size))
  clear hb1 HB0 HX0 HP0 HC0
  clear HCK x0 x1 x2 x3 x4 x5 x6 x7 x8 x9 x10 x11 x12 x13
  go_wp2_with fail
  refine (begC_any L w.heap.size ca cn cc xs w1 HX1.out HP1.out HC1.out hn).mono ?_
  rintro e w2 ⟨rfl, hb2⟩
  have HX2 := Lib.hid (HX1.out.below hb2 HX1.out.lt)
  have HP2 := Lib.hid (HP1.out.grow hb2 hb2.size)
  have HC2 := Lib.hid (HC1.out.grow hb2 hb2.size)
  have HB2 := Lib.hid (HB1.out.trans (hb2.mono HB1.out.size))
  clear hb2 HB1 HX1 HP1 HC1
  obtain ⟨x0, x1, x2, x3, x4, x5, x6, x7, x8, x9, x10, x11, x12, x13⟩ := bk14 HX2.out
  go_wp2_with fail
  obtain ⟨w3, hw3⟩ : ∃ w3, w3 = w2.alloc (.cells #[.slice (some ⟨L.ib, 0, none⟩) 1 L.ic, .int .i64 1, .int .i64 0, .int .i64 0, .int .i64 L.ml, .int .i64 L.ll, .slice (some ⟨L.jb, 0, none⟩) 1 L.jc, .bool false, .int .i64 0, .int .i64 1, .int .i64 100, .int .i64 L.pow, .slice L.pa L.ps.length L.pc, .slice none 0 0, .slice ca cn cc, .slice none 0 0] 117) := ⟨_, rfl⟩
  have hb3 : Below w2.heap.size w2 w3 := by rw [hw3]; exact (Below.refl _ w2).alloc (Nat.le_refl _) _
  have hE3 : BK w3 w2.heap.size 117 #[.slice (some ⟨L.ib, 0, none⟩) 1 L.ic, .int .i64 1, .int .i64 0, .int .i64 0, .int .i64 L.ml, .int .i64 L.ll, .slice (some ⟨L.jb, 0, none⟩) 1 L.jc, .bool false, .int .i64 0, .int .i64 1, .int .i64 100, .int .i64 L.pow, .slice L.pa L.ps.length L.pc, .slice none 0 0, .slice ca cn cc, .slice none 0 0] := by rw [hw3]; exact BK.new w2 _ _
  rw [← hw3]
  clear hw3 x0 x1 x2 x3 x4 x5 x6 x7 x8 x9 x10 x11 x12 x13
  have hz3 := hE3.lt
  have hzx := HX2.out.lt
  go_loopw [28] (fun i wr => ∃ (k : Nat) (A : Option Addr) (c : Nat), k ≤ cn ∧ i = .int .i64 k ∧ BK wr w2.heap.size 117 #[.slice (some ⟨L.ib, 0, none⟩) 1 L.ic, .int .i64 1, .int .i64 0, .int .i64 0, .int .i64 L.ml, .int .i64 L.ll, .slice (some ⟨L.jb, 0, none⟩) 1 L.jc, .bool false, .int .i64 0, .int .i64 1, .int .i64 100, .int .i64 L.pow, .slice L.pa L.ps.length L.pc, .slice none 0 0, .slice ca cn cc, .slice A k c] ∧ OW iC 1 3 w3.heap.size wr A k c (List.replicate k (-1)) ∧ Below w2.heap.size w2 wr ∧ w3.heap.size ≤ wr.heap.size) (fun i _ => cn - (intOf i).toNat)
  case atStart => exact ⟨0, none, 0, Nat.zero_le _, rfl, hE3, OW.nil_, hb3, Nat.le_refl _⟩
  case round =>
    obtain ⟨k, A, c, hk, rfl, hE, hO, hbr, hzr⟩ := hrel
    by_cases hlt : k < cn
    · have hkl : k < xs.length := by rw [← HCL.out]; exact hlt
      obtain ⟨b, off, hA, hbB, c0, c1, c2, hcd⟩ := (HC2.out.grow hbr (Nat.le_refl _)).at_ (k := k) hkl
      generalize xs[k]'hkl = x at c1 c2 hcd
      have hk1 : (0 : Int) ≤ (k : Int) := by omega
      have hk2 : (k : Int) < (cn : Int) := by omega
      have HE := Lib.hid hE
      have HO := Lib.hid hO
      have HD := Lib.hid hcd
      have HBR := Lib.hid hbr
      clear hkl hcd hE hO hbr
      subst hA
      go_wp2_with fail
      obtain ⟨w4, hw4⟩ : ∃ w4, w4 = wr.alloc (.cells #[.int .i64 0, .slice (some ⟨x.sb, 0, none⟩) 1 x.sc, .slice (some ⟨x.lb, 0, none⟩) 1 x.lc] 58) := ⟨_, rfl⟩
      have hb4 : Below wr.heap.size wr w4 := by rw [hw4]; exact (Below.refl _ wr).alloc (Nat.le_refl _) _
      have hY4 : BK w4 wr.heap.size 58 #[.int .i64 0, .slice (some ⟨x.sb, 0, none⟩) 1 x.sc, .slice (some ⟨x.lb, 0, none⟩) 1 x.lc] := by rw [hw4]; exact BK.new wr _ _
      rw [← hw4]
      clear hw4 c0 c1 c2
      have hO4 : OW iC 1 3 w3.heap.size w4 A k c (List.replicate k (-1)) := HO.out.call hb4
      have hE4 := HE.out.below hb4 HE.out.lt
      have hbr4 := HBR.out.trans (hb4.mono HBR.out.size)
      have hX4 := HX2.out.below hbr4 HX2.out.lt
      have hAlt : ∀ q, A.map (·.block) = some q → w3.heap.size ≤ q ∧ q < wr.heap.size := by
        intro q hq
        cases A with
        | none => cases hq
        | some g =>
          have := HO.out.lt rfl
          have e : g.block = q := by simpa using hq
          omega
      have hzY := hY4.lt
      have hzE := hE4.lt
      have hzX := hX4.lt
      have fE : ∀ W', w4.grownBy W' (A.map (·.block)) → BK W' w2.heap.size 117 #[.slice (some ⟨L.ib, 0, none⟩) 1 L.ic, .int .i64 1, .int .i64 0, .int .i64 0, .int .i64 L.ml, .int .i64 L.ll, .slice (some ⟨L.jb, 0, none⟩) 1 L.jc, .bool false, .int .i64 0, .int .i64 1, .int .i64 100, .int .i64 L.pow, .slice L.pa L.ps.length L.pc, .slice none 0 0, .slice (some ⟨b, off, none⟩) cn cc, .slice A k c] := fun W' h => (h.block _ hzE (fun e => by have := hAlt _ e.symm; omega)).trans hE4
      have fX : ∀ W', w4.grownBy W' (A.map (·.block)) → BK W' w.heap.size 42 #[.slice (some ⟨L.ib, 0, none⟩) 1 L.ic, .int .i64 1, .int .i64 0, .int .i64 0, .int .i64 L.ml, .int .i64 L.ll, .slice (some ⟨L.jb, 0, none⟩) 1 L.jc, .bool false, .int .i64 0, .int .i64 1, .int .i64 100, .int .i64 L.pow, .slice L.pa L.ps.length L.pc, .slice none 0 0] := fun W' h => (h.block _ hzX (fun e => by have := hAlt _ e.symm; omega)).trans hX4
      have fY : ∀ W', w4.grownBy W' (A.map (·.block)) → BK W' wr.heap.size 58 #[.int .i64 0, .slice (some ⟨x.sb, 0, none⟩) 1 x.sc, .slice (some ⟨x.lb, 0, none⟩) 1 x.lc] := fun W' h => (h.block _ hzY (fun e => by have := hAlt _ e.symm; omega)).trans hY4
      have fB : ∀ W', w4.grownBy W' (A.map (·.block)) → Below w2.heap.size w4 W' := fun W' h => ⟨h.os, h.tape, h.output, h.size, fun q hq => h.block q (by omega) (fun e => by have := hAlt _ e.symm; omega)⟩
      have FE := Lib.hid fE
      have FX := Lib.hid fX
      have FY := Lib.hid fY
      have FB := Lib.hid fB
      have HO4 := Lib.hid hO4
      have HW4 := Lib.hid hbr4
      clear fE fX fY fB hO4 hE4 hX4
      have hz4 : w3.heap.size ≤ w4.heap.size := by omega
      refine wp_region_chF (fun W' => w4.grownBy W' (A.map (·.block))) 10 [7, 8, 9] (fun W' => OW iC 1 3 w3.heap.size W' A k c (List.replicate k (-1))) ⟨rfl, rfl, rfl, Nat.le_refl _, fun _ _ _ => rfl⟩ HO4.out.drew hmo (by kernel_rfl) ?_
      simp only [List.take_succ_cons, List.take_zero, List.drop_succ_cons, List.drop_zero]
      iterate 3 (refine wpCF_r (.pointer (some ⟨w2.heap.size, 0, none⟩)) (by decide) (by decide) rfl (fun W' _ => by go_simp) ?_)
      refine wpCF_r (.pointer (some ⟨w2.heap.size, 15, none⟩)) (by decide) (by decide) rfl (fun W' _ => by go_simp) ?_
      refine wpCF_r (.slice A k c) (by decide) (by decide) rfl (fun W' hW' => ?_) ?_
      · have c := (FE.out W' hW').cell 15
        simp only [List.getElem?_toArray, List.getElem?_cons_zero, List.getElem?_cons_succ] at c
        clear FE FX FY FB HO4 HW4
        go_simp
      with_reducible refine wpCF_r (.agg #[.slice (some ⟨L.ib, 0, none⟩) 1 L.ic, .int .i64 1, .int .i64 0, .int .i64 0, .int .i64 L.ml, .int .i64 L.ll, .slice (some ⟨L.jb, 0, none⟩) 1 L.jc, .bool false, .int .i64 0, .int .i64 1, .int .i64 100, .int .i64 L.pow, .slice L.pa L.ps.length L.pc, .slice none 0 0]) (by decide) (by decide) (by rfl) (fun W' hW' => ?_) ?_
      · have h := FX.out W' hW'
        have x0 := h.cell 0
        have x1 := h.cell 1
        have x2 := h.cell 2
        have x3 := h.cell 3
        have x4 := h.cell 4
        have x5 := h.cell 5
        have x6 := h.cell 6
        have x7 := h.cell 7
        have x8 := h.cell 8
        have x9 := h.cell 9
        have x10 := h.cell 10
        have x11 := h.cell 11
        have x12 := h.cell 12
        have x13 := h.cell 13
        simp only [List.getElem?_toArray, List.getElem?_cons_zero, List.getElem?_cons_succ] at x0 x1 x2 x3 x4 x5 x6 x7 x8 x9 x10 x11 x12 x13
        clear FE FX FY FB HO4 HW4 hAlt hW' hzY hzE hzX hz4 h
        go_simp
      with_reducible refine wpCF_r (.agg #[.int .i64 0, .slice (some ⟨x.sb, 0, none⟩) 1 x.sc, .slice (some ⟨x.lb, 0, none⟩) 1 x.lc]) (by decide) (by decide) (by rfl) (fun W' hW' => ?_) ?_
      · have h := FY.out W' hW'
        have y0 := h.cell 0
        have y1 := h.cell 1
        have y2 := h.cell 2
        simp only [List.getElem?_toArray, List.getElem?_cons_zero, List.getElem?_cons_succ] at y0 y1 y2
        clear FE FX FY FB HO4 HW4 hAlt hW' hzY hzE hzX hz4 h
        go_simp
      have HPW := Lib.hid (fun W' hW' => HP2.out.grow (HW4.out.trans (FB.out W' hW')) (Nat.le_trans (Nat.le_trans (Nat.le_of_lt hz3) hz4) (World.grownBy.size hW')))
      have HDW := Lib.hid (fun W' hW' => HD.out.grow ((hb4.mono HBR.out.size).trans (FB.out W' hW')) (Nat.le_trans (Nat.le_trans (Nat.le_of_lt hz3) hz4) (World.grownBy.size hW')))
      with_reducible refine wpCF_c (ι := Unit) 90 #[.agg #[.slice (some ⟨L.ib, 0, none⟩) 1 L.ic, .int .i64 1, .int .i64 0, .int .i64 0, .int .i64 L.ml, .int .i64 L.ll, .slice (some ⟨L.jb, 0, none⟩) 1 L.jc, .bool false, .int .i64 0, .int .i64 1, .int .i64 100, .int .i64 L.pow, .slice L.pa L.ps.length L.pc, .slice none 0 0], .agg #[.int .i64 0, .slice (some ⟨x.sb, 0, none⟩) 1 x.sc, .slice (some ⟨x.lb, 0, none⟩) 1 x.lc]] (fun _ => .int .i64 (-1)) (fun _ W' => OW iC 1 3 w3.heap.size W' A k c (List.replicate k (-1))) (by decide) (by decide) (by rfl) (fun W' => by go_simp) (fun W' hW' hΦ => ?_) (fun _ => ?_)
      · refine (scOut L x W' (HPW.out W' hW') (HDW.out W' hW')).mono ?_
        rintro e w' ⟨rfl, hb⟩
        exact ⟨(), rfl, hΦ.call hb, hW'.trans ⟨hb.os, hb.tape, hb.output, hb.size, fun q hq _ => hb.block q hq⟩⟩
      with_reducible refine wpCF_v (ι := Nat) (fun X => .slice (some ⟨X, 0, none⟩) 1 1) (fun X W' => W'.cell? ⟨X, 0, none⟩ = some (.int .i64 (-1)) ∧ OW iC 1 3 w3.heap.size W' A k c (List.replicate k (-1))) (by decide) (by decide) (by rfl) (fun W' hW' hΦ => ⟨W'.heap.size, W'.alloc (.cells #[.int .i64 (-1)] 3), ?_, ⟨by simp, hΦ.alloc _⟩, hW'.trans ⟨rfl, rfl, rfl, by simp, fun q hq _ => Below.heap_alloc _ _ _ hq⟩⟩) (fun X => ?_)
      · clear FE FX FY FB HO4 HW4 hAlt hW' hzY hzE hzX hz4 HPW HDW hΦ
        go_simp
      with_reducible refine wpCF_v (ι := Nat × Nat) (fun q => .slice (some ⟨q.1, 0, none⟩) (k + 1) q.2) (fun q W' => OW iC 1 3 w3.heap.size W' (some ⟨q.1, 0, none⟩) (k + 1) q.2 (List.replicate k (-1) ++ [-1])) (by decide) (by decide) (by rfl) (fun W' hW' hΦ => ?_) (fun q => ?_)
      · have h1 := run_app1 (P := Tryz.prog) (W := W') 28 28 (.int .i64 0) 8 Tryz.underlying28 infoEI rfl (by decide) hΦ.2 (-1) X 1 (fun j u hj => by
          have h0 : j = 0 := by
            have := (List.getElem?_eq_some_iff.1 hj).1
            simp [iC] at this
            exact this
          subst h0
          rw [hΦ.1]
          simpa [iC] using hj) rfl (by simp [iC, Value.oneCell']) (by omega) (by decide) (Nat.le_trans hz4 hW'.size)
        refine Exists.elim h1 fun g h1 => Exists.elim h1 fun c' h1 => Exists.elim h1 fun W'' h1 => ⟨(g, c'), W'', ?_, h1.2.1, hW'.trans h1.2.2.1⟩
        have hr1 := h1.1
        clear FE FX FY FB HO4 HW4 hAlt hW' hzY hzE hzX hz4 HPW HDW hΦ h1
        simp [execOp, resolve, invoke, builtin, Act.eval, Act.put, hr1, Result.andThen]
      with_reducible refine wpCF_nil ?_
      intro w5 hC5 hO5
      have hE5 := FE.out w5 hC5
      have hB5 := FB.out w5 hC5
      have f15 := hE5.frozen 15
      have c15 := hE5.cell 15
      simp only [List.getElem?_toArray, List.getElem?_cons_zero, List.getElem?_cons_succ] at c15
      have hE6 := hE5.set_ 15 (.slice (some ⟨q.1, 0, none⟩) (k + 1) q.2)
      have hzs := hE5.lt
      have hz5 : w3.heap.size ≤ w5.heap.size := Nat.le_trans hz4 hC5.size
      have hO6 : OW iC 1 3 w3.heap.size (w5.setCell ⟨w2.heap.size, 15, none⟩ (.slice (some ⟨q.1, 0, none⟩) (k + 1) q.2)) (some ⟨q.1, 0, none⟩) (k + 1) q.2 (List.replicate (k + 1) (-1)) := by
        rw [List.replicate_succ']
        exact hO5.setCell (fun g hg => by have := (hO5.lt hg).1; show _ ≠ w2.heap.size; omega) _
      have hB6 := (HW4.out.trans hB5).setCell (p := ⟨w2.heap.size, 15, none⟩) (Nat.le_refl _) (.slice (some ⟨q.1, 0, none⟩) (k + 1) q.2)
      clear FE FX FY FB HO4 HW4 hAlt hC5 hO5 HPW HDW hE5 hB5
      go_wp2_with fail
      go_roundw
      case rel => exact ⟨k + 1, some ⟨q.1, 0, none⟩, q.2, by omega, by go_num, hE6, hO6, hB6, by simpa using hz5⟩
      case measure => simp [intOf]; omega
    · obtain rfl : k = cn := by omega
      go_wp2_with fail
      go_ret2
      refine ⟨w2.heap.size, A, c, rfl, Nat.le_of_lt hzx, ⟨hE, by omega, HP2.out.grow hbr hbr.size, HC2.out.grow hbr hbr.size, hO.sl iC_len⟩, HB2.out.trans (hbr.mono HB2.out.size)⟩
end Go.Proofs.YtafclpmnpamipaaGreat
