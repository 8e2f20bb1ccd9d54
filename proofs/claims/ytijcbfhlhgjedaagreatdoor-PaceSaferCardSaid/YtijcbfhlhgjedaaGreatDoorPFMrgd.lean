/- road.merged at crests and junctions. -/
import Derived.Test.YtijcbfhlhgjedaaGreatDoorPCBBase
import Derived.Test.YtijcbfhlhgjedaaGreatDoorPCBRoad
import Derived.Test.YtijcbfhlhgjedaaGreatDoorPCBLeaf
import Derived.Test.YtijcbfhlhgjedaaGreatDoorPCBCheck
import Derived.Test.YtijcbfhlhgjedaaGreatDoorPCBValid
import Derived.Test.YtijcbfhlhgjedaaGreatDoorPCBFind
import Derived.Test.YtijcbfhlhgjedaaGreatDoorPCBReg
import Derived.Test.YtijcbfhlhgjedaaGreatDoorPCBGrouped
import Derived.Test.YtijcbfhlhgjedaaGreatDoorPCBPG
import Derived.Test.YtijcbfhlhgjedaaGreatDoorPCBStr
import Derived.Test.YtijcbfhlhgjedaaGreatDoorPCBCmp
import Derived.Test.YtijcbfhlhgjedaaGreatDoorPCBOpen
import Derived.Test.YtijcbfhlhgjedaaGreatDoorPCBReg7
import Derived.Test.YtijcbfhlhgjedaaGreatDoorPCPRow
import Derived.Test.YtijcbfhlhgjedaaGreatDoorPCMtr
import Derived.Test.YtijcbfhlhgjedaaGreatDoorPCReg8
import Derived.Test.YtijcbfhlhgjedaaGreatDoorPCSpCk
import Derived.Test.YtijcbfhlhgjedaaGreatDoorPCPlanM
import Derived.Test.YtijcbfhlhgjedaaGreatDoorPCLast
import Derived.Test.YtijcbfhlhgjedaaGreatDoorPCBeg
import Derived.Test.YtijcbfhlhgjedaaGreatDoorPCRoom
import Derived.Test.YtijcbfhlhgjedaaGreatDoorPCCallsB
import Derived.Test.YtijcbfhlhgjedaaGreatDoorPCPlan
import Derived.Test.YtijcbfhlhgjedaaGreatDoorPCBetw
import Derived.Test.YtijcbfhlhgjedaaGreatDoorPCKn03P
import Derived.Test.YtijcbfhlhgjedaaGreatDoorPCRef3
import Derived.Test.YtijcbfhlhgjedaaGreatDoorPFStab
import Derived.Test.YtijcbfhlhgjedaaGreatDoorPFRev
import Derived.Test.YtijcbfhlhgjedaaGreatDoorPFReg
namespace Go.Proofs.YtijcbfhlhgjedaaGreatDoor
open Go.RowKit Go.Shelf Go.Sort Go.Proofs
theorem calls_wn {P : Program} {f : FuncId} {args : Array Value} {w : World} {Φ : Ending → World → Prop} (h : ∀ W, W = w → Calls P f args W Φ) : Calls P f args w Φ := h w rfl
theorem storeC (v0 v1 : Int) (d x : Tmp) (a : Act) (w : World) (b : Nat) (h1 : a.eval (.tmp d) = .pointer (some ⟨b, 0, none⟩)) (h2 : a.eval (.tmp x) = .agg #[.int .i64 v0, .int .i64 v1]) (h3 : BK w b 76 #[.int .i64 0, .int .i64 0]) (o : Oper) (ho : o.op = .store 76 (.tmp d) (.tmp x)) :
    ∃ w', (execOp a.eval o).run Tryz.prog w = .ok .skip w' ∧ BK w' b 76 #[.int .i64 v0, .int .i64 v1] ∧ Below b w w' ∧ w'.heap.size = w.heap.size ∧ ∀ k, k ≠ b → w'.heap[k]? = w.heap[k]? := by
  have c0 := h3.cell 0
  have c1 := h3.cell 1
  have f := h3.frozen
  have hl := h3.lt
  simp only [List.getElem?_toArray, List.getElem?_cons_zero, List.getElem?_cons_succ] at c0 c1
  refine ⟨((w.setCell ⟨b, 0, none⟩ (.int .i64 v0)).setCell ⟨b, 1, none⟩ (.int .i64 v1)), ?_, ((h3.set_ 0 _).set_ 1 _), ((Below.refl b w).setCell (Nat.le_refl _) _).setCell (Nat.le_refl _) _, by simp, fun k hk => ?_⟩
  · unfold execOp
    rw [ho]
    simp only [h1, h2]
    go_simp
  · rw [Below.heap_setCell _ _ _ _ hk, Below.heap_setCell _ _ _ _ hk]
theorem setElC {base b n c i : Nat} {A B : List Crest} {u v : Crest} {w : World} (h : OW cC 2 76 base w (some ⟨b, 0, none⟩) n c (A ++ u :: B)) (hi : A.length = i) :
    OW cC 2 76 base ((w.setCell ⟨b, i * 2 + 0, none⟩ (.int .i64 v.pos)).setCell ⟨b, i * 2 + 1, none⟩ (.int .i64 v.siz)) (some ⟨b, 0, none⟩) n c (A ++ v :: B) := by
  have gi := getElem?_mid A u B hi
  have hil : i < (A ++ u :: B).length := (List.getElem?_eq_some_iff.1 gi).1
  have hres : (A ++ u :: B).set i v = A ++ v :: B := set_mid A u v B hi
  rw [← hres]
  generalize A ++ u :: B = xs at h gi hil ⊢
  clear hres hi
  have s0 := OW.setF h cC_len i 0 (x := u) (y := { u with pos := v.pos }) (v := .int .i64 v.pos) gi (by omega) rfl
  have e0 : (xs.set i { u with pos := v.pos })[i]? = some { u with pos := v.pos } := by simp [hil]
  have s1 := OW.setF s0 cC_len i 1 (x := { u with pos := v.pos }) (y := { u with pos := v.pos, siz := v.siz }) (v := .int .i64 v.siz) e0 (by omega) rfl
  rw [List.set_set] at s1
  exact s1
theorem storeJ (v0 v1 v2 : Int) (d x : Tmp) (a : Act) (w : World) (b : Nat) (h1 : a.eval (.tmp d) = .pointer (some ⟨b, 0, none⟩)) (h2 : a.eval (.tmp x) = .agg #[.int .i64 v0, .int .i64 v1, .int .i64 v2]) (h3 : BK w b 78 #[.int .i64 0, .int .i64 0, .int .i64 0]) (o : Oper) (ho : o.op = .store 78 (.tmp d) (.tmp x)) :
    ∃ w', (execOp a.eval o).run Tryz.prog w = .ok .skip w' ∧ BK w' b 78 #[.int .i64 v0, .int .i64 v1, .int .i64 v2] ∧ Below b w w' ∧ w'.heap.size = w.heap.size ∧ ∀ k, k ≠ b → w'.heap[k]? = w.heap[k]? := by
  have c0 := h3.cell 0
  have c1 := h3.cell 1
  have c2 := h3.cell 2
  have f := h3.frozen
  have hl := h3.lt
  simp only [List.getElem?_toArray, List.getElem?_cons_zero, List.getElem?_cons_succ] at c0 c1 c2
  refine ⟨(((w.setCell ⟨b, 0, none⟩ (.int .i64 v0)).setCell ⟨b, 1, none⟩ (.int .i64 v1)).setCell ⟨b, 2, none⟩ (.int .i64 v2)), ?_, (((h3.set_ 0 _).set_ 1 _).set_ 2 _), (((Below.refl b w).setCell (Nat.le_refl _) _).setCell (Nat.le_refl _) _).setCell (Nat.le_refl _) _, by simp, fun k hk => ?_⟩
  · unfold execOp
    rw [ho]
    simp only [h1, h2]
    go_simp
  · rw [Below.heap_setCell _ _ _ _ hk, Below.heap_setCell _ _ _ _ hk, Below.heap_setCell _ _ _ _ hk]
theorem setElJ {base b n c i : Nat} {A B : List Junc} {u v : Junc} {w : World} (h : OW jC 3 78 base w (some ⟨b, 0, none⟩) n c (A ++ u :: B)) (hi : A.length = i) :
    OW jC 3 78 base (((w.setCell ⟨b, i * 3 + 0, none⟩ (.int .i64 v.pos)).setCell ⟨b, i * 3 + 1, none⟩ (.int .i64 v.arms)).setCell ⟨b, i * 3 + 2, none⟩ (.int .i64 v.way)) (some ⟨b, 0, none⟩) n c (A ++ v :: B) := by
  have gi := getElem?_mid A u B hi
  have hil : i < (A ++ u :: B).length := (List.getElem?_eq_some_iff.1 gi).1
  have hres : (A ++ u :: B).set i v = A ++ v :: B := set_mid A u v B hi
  rw [← hres]
  generalize A ++ u :: B = xs at h gi hil ⊢
  clear hres hi
  have s0 := OW.setF h jC_len i 0 (x := u) (y := { u with pos := v.pos }) (v := .int .i64 v.pos) gi (by omega) rfl
  have e0 : (xs.set i { u with pos := v.pos })[i]? = some { u with pos := v.pos } := by simp [hil]
  have s1 := OW.setF s0 jC_len i 1 (x := { u with pos := v.pos }) (y := { u with pos := v.pos, arms := v.arms }) (v := .int .i64 v.arms) e0 (by omega) rfl
  rw [List.set_set] at s1
  have e1 : (xs.set i { u with pos := v.pos, arms := v.arms })[i]? = some { u with pos := v.pos, arms := v.arms } := by simp [hil]
  have s2 := OW.setF s1 jC_len i 2 (x := { u with pos := v.pos, arms := v.arms }) (y := { u with pos := v.pos, arms := v.arms, way := v.way }) (v := .int .i64 v.way) e1 (by omega) rfl
  rw [List.set_set] at s2
  exact s2
set_option maxRecDepth 100000 in
set_option maxHeartbeats 8000000 in
theorem MrgdC_0 (A1 : Option Addr) (n1 c1 : Nat) (xs : List Crest) (A2 : Option Addr) (n2 c2 : Nat) (ys : List Crest) (S RES : List Crest) (G : Bool) (w : World) (h1 : SL cC 2 w w.heap.size A1 n1 xs) (h2 : SL cC 2 w w.heap.size A2 n2 ys) (hn1 : n1 ≤ 2000) (hn2 : n2 ≤ 2000)
    (hS : ssort (fun x : Crest => x.pos) (xs ++ ys) = S) (hRES : mgd (fun x : Crest => x.pos) bothC S = RES) (hG : mgood (fun x : Crest => x.pos) bothC okC S = G) :
    Calls Tryz.prog 30 #[.slice A1 n1 c1, .slice A2 n2 c2, .func (.func 31) #[] #[], .func (.func 33) #[] #[]] w fun e w' =>
      ((G = true → ∃ A n c, e = .returned (.tuple #[.slice A n c, .bool true]) ∧ OW cC 2 76 w.heap.size w' A n c RES) ∧
       (G = false → e = .returned (.tuple #[.slice none 0 0, .bool false]))) ∧ Below w.heap.size w w' := by
  have HSS := Lib.hid hS
  have HR := Lib.hid hRES
  have HGG := Lib.hid hG
  clear hS hRES hG
  have hmo : Tryz.prog.follows .mixedOrders = true := by kernel_rfl
  obtain ⟨w0, hw0⟩ : ∃ w0, w0 = w.alloc (.cells #[.slice A1 n1 c1, .slice A2 n2 c2] 23) := ⟨_, rfl⟩
  have hB0 : Below w.heap.size w w0 := by rw [hw0]; exact (Below.refl _ _).alloc (Nat.le_refl _) _
  have hX0 : BK w0 w.heap.size 23 #[.slice A1 n1 c1, .slice A2 n2 c2] := by rw [hw0]; exact BK.new _ _ _
  have H1 := Lib.hid (h1.grow hB0 hB0.size)
  have H2 := Lib.hid (h2.grow hB0 hB0.size)
  clear h1 h2
  go_enter Tryz.func30, Tryz.ntmps30
  go_wp2_with fail
  rw [← hw0]
  clear hw0
  have x0 := hX0.cell 0
  have x1 := hX0.cell 1
  simp only [List.getElem?_toArray, List.getElem?_cons_zero, List.getElem?_cons_succ] at x0 x1
  refine (ConcatC_any w.heap.size 0 2 A1 n1 c1 xs A2 n2 c2 ys _ hX0.lt x0 x1 H1.out H2.out (by omega) (by omega)).mono ?_
  rintro e w1 ⟨A, c, rfl, hO1, hb1⟩
  have hO1' := hO1.drop0 hB0.size
  have hB1 := hB0.trans (hb1.mono hB0.size)
  have HO1 := Lib.hid hO1'
  clear hO1 hO1' hb1 x0 x1 H1 H2 hX0 hB0
  go_wp2_with fail
  refine (SortC_ow w.heap.size A (n1 + n2) c (xs ++ ys) _ HO1.out (by omega)).mono ?_
  rintro e w2 ⟨⟨v, rfl⟩, hO2, hg2⟩
  rw [HSS.out] at hO2
  have hlen : n1 + n2 = S.length := hO2.2
  have hB2 : Below w.heap.size w w2 := by
    rcases A with _ | ad
    · have h0 := hO2.none_
      have hz : w1.grownBy w2 none := hg2
      exact hB1.trans ⟨hz.os, hz.tape, hz.output, hz.size, fun i hi => hz.block i (by have := hB1.size; omega) (by intro e; cases e)⟩
    · exact hB1.trans (only_below hg2 hB1.size (HO1.out.lt rfl).1)
  clear HO1 hg2 hB1 HSS
  have HLN := Lib.hid hlen
  obtain ⟨N, hN⟩ : ∃ N, N = n1 + n2 := ⟨_, rfl⟩
  rw [← hN] at hO2 ⊢
  have hN4 : N ≤ 4000 := by omega
  clear hlen
  rcases S with _ | ⟨x0, r0⟩
  · have hN0 : N = 0 := by have := HLN.out; simp at this; omega
    have hr0 : RES = [] := HR.out.symm
    have hg0 : G = true := HGG.out.symm
    subst hN0
    subst hr0
    have HGT := Lib.hid hg0
    clear hN hg0
    have HO := Lib.hid hO2
    have HB := Lib.hid hB2
    clear hO2 hB2
    go_wp2_with fail
    go_loopw [10, 11] (fun sv iv wq => sv = .slice A 0 c ∧ iv = .int .i64 1 ∧ wq = w2) (fun _ _ _ => 0)
    case atStart => exact ⟨rfl, rfl, rfl⟩
    case round =>
      obtain ⟨rfl, rfl, rfl⟩ := hrel
      go_wp2_with fail
      go_ret2
      exact ⟨⟨fun _ => ⟨A, 0, c, rfl, HO.out⟩, fun hh => by rw [HGT.out] at hh; cases hh⟩, HB.out⟩
  · rcases A with _ | ad
    · have := (hO2.none_).2.2; cases this
    obtain ⟨b, hb, hbl0, hbb, hfz0, _⟩ := hO2.at_ cC_len _ rfl
    subst hb
    have HO := Lib.hid hO2
    have HB := Lib.hid hB2
    have hNS : N = r0.length + 1 := by have := HLN.out; simp at this; omega
    clear hO2 hB2 hfz0 hN
    have HRES0 := Lib.hid HR.out.symm
    have HG0 := Lib.hid HGG.out.symm
    clear hNS HR HGG
    go_wp2_with fail
    go_loopw [10, 11] (fun sv iv wq => ∃ (m i : Nat) (P : List Crest) (x : Crest) (R : List Crest), sv = .slice (some ⟨b, 0, none⟩) m c ∧ iv = .int .i64 i ∧ Hid (P.length + 1 = i) ∧ Hid (P ++ ded (fun x : Crest => x.pos) bothC x R = RES) ∧ Hid (good (fun x : Crest => x.pos) bothC okC x R = G) ∧ m ≤ N ∧ OW cC 2 76 w.heap.size wq (some ⟨b, 0, none⟩) m c (P ++ x :: R) ∧ Below w.heap.size w wq)
      (fun sv iv _ => (match sv with | .slice _ m _ => m | _ => 0) - (intOf iv).toNat)
    case atStart => exact ⟨N, 1, [], x0, r0, rfl, rfl, Lib.hid rfl, Lib.hid HRES0.out.symm, Lib.hid HG0.out.symm, Nat.le_refl _, HO.out, HB.out⟩
    case round =>
      obtain ⟨m, i, P, x, R, rfl, rfl, HI, HRES, HG, hmN, hO, hb⟩ := hrel
      have hml : m = P.length + 1 + R.length := by rw [hO.2]; simp; omega
      have HML := Lib.hid hml
      clear hml
      rcases R with _ | ⟨y, R⟩
      · have hmi : m = i := by have h1 := HML.out; have h2 := HI.out; simp at h1; omega
        subst hmi
        have hfin : P ++ [x] = RES := by have := HRES.out; simpa [ded] using this
        have hgt : G = true := by have := HG.out; simpa [good] using this.symm
        rw [hfin] at hO
        have HGT := Lib.hid hgt
        have HOF := Lib.hid hO
        have HBF := Lib.hid hb
        clear hfin hO hb hgt
        go_wp2_with fail
        go_ret2
        exact ⟨⟨fun _ => ⟨_, m, c, rfl, HOF.out⟩, fun hh => by rw [HGT.out] at hh; cases hh⟩, HBF.out⟩
      · have him : i < m := by have h1 := HML.out; have h2 := HI.out; simp at h1; omega
        obtain ⟨i0, hi0⟩ : ∃ i0, i0 = P.length := ⟨_, rfl⟩
        have hi01 : i = i0 + 1 := by have := HI.out; omega
        have HI0 := Lib.hid hi0.symm
        have hwm : IntKind.i64.wrap ((i : Int) - 1) = (i0 : Int) := by rw [show (i : Int) - 1 = (i0 : Int) by omega]; exact IntWalk.i64_in _ (by omega)
        have hlt0 : i0 < i := by omega
        obtain ⟨i1, hi1⟩ : ∃ i1, i1 = i + 1 := ⟨_, rfl⟩
        have hwp : IntKind.i64.wrap ((i : Int) + 1) = (i1 : Int) := by rw [show (i : Int) + 1 = (i1 : Int) by omega]; exact IntWalk.i64_in _ (by omega)
        have HI1 := Lib.hid hi1
        have HI01 := Lib.hid hi01
        have e1 : P ++ x :: y :: R = P ++ x :: ([] ++ y :: R) := rfl
        have gi := getElem?_mid P x (y :: R) HI0.out
        have gj := get_second P x [] y R (j := i) (by have := HI.out; simp; omega)
        rw [← e1] at gj
        obtain ⟨b', hb', hbl, _, hfz, hrow⟩ := hO.at_ cC_len _ rfl
        cases hb'
        have x0' := hrow (i0) x gi 0 _ rfl
        have x1' := hrow (i0) x gi 1 _ rfl
        have hax : ∀ q, 0 + (i0) * 2 + q = (i0) * 2 + q := fun q => by omega
        rw [hax] at x0' x1'
        rw [Nat.add_zero] at x0'
        have x0 := fun d os => cell_regrown x0' d os
        have x1 := fun d os => cell_regrown x1' d os
        clear hax
        have y0' := hrow (i) y gj 0 _ rfl
        have y1' := hrow (i) y gj 1 _ rfl
        have hay : ∀ q, 0 + (i) * 2 + q = (i) * 2 + q := fun q => by omega
        rw [hay] at y0' y1'
        rw [Nat.add_zero] at y0'
        have y0 := fun d os => cell_regrown y0' d os
        have y1 := fun d os => cell_regrown y1' d os
        clear hay
        have hj1 : (0 : Int) ≤ (i : Int) := by omega
        have hj2 : (i : Int) < (m : Int) := by omega
        have hj3 : (0 : Int) ≤ (i0 : Int) := by omega
        have hj4 : (i0 : Int) < (m : Int) := by omega
        have GI := Lib.hid gi
        have GJ := Lib.hid gj
        clear hrow hi0 hi01 hi1 e1 gi gj
        go_wp2_with fail
        refine wp_region_ch 11 [10] hmo (by kernel_rfl) ?_
        simp only [List.take_succ_cons, List.take_zero, List.drop_succ_cons, List.drop_zero]
        repeat (refine wpC_q (by decide) (by decide) (fun K hK => ?_); go_simp; refine hK _ ?_; clear hK K)
        refine wpC_cg (ι := Unit) 31 #[.agg #[.int .i64 x.pos, .int .i64 x.siz], .agg #[.int .i64 y.pos, .int .i64 y.siz]] (fun _ => .int .i64 (cmpI x.pos y.pos)) (fun _ _ => True) (by decide) (by decide) (by go_simp) (fun w => by go_simp) stable_true (fun _ => stable_true) (fun W hW _ => ?_) (fun ix1 hs1 => ?_)
        · refine (cmpC_any x y W).mono ?_
          rintro ev w' ⟨rfl, hbl⟩
          exact ⟨(), rfl, trivial, hbl⟩
        repeat (refine wpC_q (by decide) (by decide) (fun K hK => ?_); go_simp; refine hK _ ?_; clear hK K)
        refine wpC_nil ?_
        intro w3 hbc _
        clear hs1
        have hO3 := hO.call hbc
        have hb3 := hb.trans (hbc.mono hb.size)
        clear hO hb hfz x0 x0' x1 x1' y0 y0' y1 y1'
        by_cases hxy : x.pos = y.pos
        · have d1 : (cmpI x.pos y.pos != 0) = false := by rw [cmpI_eq]; simpa using hxy
          have HXY := Lib.hid hxy
          clear hxy
          obtain ⟨K, hK⟩ : ∃ K, K = okC x y := ⟨_, rfl⟩
          have HK := Lib.hid hK
          clear hK
          have gi := GI.out
          have gj := GJ.out
          obtain ⟨b', hb', hbl, _, hfz, hrow⟩ := hO3.at_ cC_len _ rfl
          cases hb'
          have x0' := hrow (i0) x gi 0 _ rfl
          have x1' := hrow (i0) x gi 1 _ rfl
          have hax : ∀ q, 0 + (i0) * 2 + q = (i0) * 2 + q := fun q => by omega
          rw [hax] at x0' x1'
          rw [Nat.add_zero] at x0'
          have x0 := fun d os => cell_regrown x0' d os
          have x1 := fun d os => cell_regrown x1' d os
          clear hax
          have y0' := hrow (i) y gj 0 _ rfl
          have y1' := hrow (i) y gj 1 _ rfl
          have hay : ∀ q, 0 + (i) * 2 + q = (i) * 2 + q := fun q => by omega
          rw [hay] at y0' y1'
          rw [Nat.add_zero] at y0'
          have y0 := fun d os => cell_regrown y0' d os
          have y1 := fun d os => cell_regrown y1' d os
          clear hay
          clear hrow gi gj
          go_wp2_with fail
          refine wp_region_one 16 14 15 [10] 76 #[.int .i64 0, .int .i64 0] #[.int .i64 (bothC x y).pos, .int .i64 (bothC x y).siz] 12 51 (.agg #[.int .i64 (bothC x y).pos, .int .i64 (bothC x y).siz]) _ _ hmo (by decide) rfl rfl rfl (fun a w => rfl) rfl rfl rfl (by kernel_rfl) (by kernel_rfl) (fun a w b h1 h2 h3 => storeC (bothC x y).pos (bothC x y).siz 12 51 a w b h1 h2 h3 _ rfl) (by kernel_rfl) ?_
          simp only [List.take_succ_cons, List.take_zero, List.drop_succ_cons, List.drop_zero]
          repeat (refine wpCG_q (by decide) (by decide) (fun K hK => ?_); go_simp; refine hK _ ?_; clear hK K)
          refine wpCG_c (ι := Unit) 33 #[.agg #[.int .i64 x.pos, .int .i64 x.siz], .agg #[.int .i64 y.pos, .int .i64 y.siz]] (fun _ => .tuple #[.agg #[.int .i64 (bothC x y).pos, .int .i64 (bothC x y).siz], .bool K]) (by decide) (by decide) rfl (fun w => by go_simp) (fun _ _ h _ => h) (fun _ _ h _ => h) (fun W hW _ => ?_) (fun i2 => ?_)
          · refine (bothC_any x y W).mono ?_
            rintro e w' ⟨rfl, hbl⟩
            exact ⟨(), by rw [HK.out], hbl⟩
          repeat (refine wpCG_q (by decide) (by decide) (fun K hK => ?_); go_simp; refine hK _ ?_; clear hK K)
          refine wpCG_a (by decide) (fun h => by cases h) ?_
          refine wpCG_a (by decide) (fun _ => ⟨rfl, by simp⟩) ?_
          refine wpCG_nil ?_
          intro tb Wd hk4 _ htb hTB
          have hO4 := hO3.call hk4
          have hb4 := hb3.trans (hk4.mono hb3.size)
          clear hO3 hb3 hfz x0 x0' x1 x1' y0 y0' y1 y1'
          cases K
          · have hgf : G = false := by
              have := HG.out
              rw [good, if_pos HXY.out, ← HK.out] at this
              exact this.symm
            have HGF := Lib.hid hgf
            clear hgf
            go_wp2_with fail
            go_ret2
            exact ⟨⟨fun hh => (by rw [HGF.out] at hh; cases hh), fun _ => rfl⟩, hb4⟩
          · obtain ⟨b', hb', hbl2, _, hfz, hrow⟩ := hO4.at_ cC_len _ rfl
            cases hb'
            have gi := GI.out
            have htb2 : w3.heap.size ≤ tb := htb
            have hbt : b < tb := by omega
            have x0 := hrow (i0) x gi 0 _ rfl
            have x1 := hrow (i0) x gi 1 _ rfl
            have hax : ∀ q, 0 + (i0) * 2 + q = (i0) * 2 + q := fun q => by omega
            rw [hax] at x0 x1
            rw [Nat.add_zero] at x0
            clear hax
            have t0 := hTB.cell 0
            have t1 := hTB.cell 1
            simp only [List.getElem?_toArray, List.getElem?_cons_zero, List.getElem?_cons_succ] at t0 t1
            have htf := hTB.frozen
            have htl := hTB.lt
            clear hrow gi
            go_wp2_with fail
            refine calls_wn (fun We hWe => ?_)
            have hO5 : OW cC 2 76 w.heap.size We (some ⟨b, 0, none⟩) m c (P ++ bothC x y :: y :: R) := by rw [hWe]; exact setElC (v := bothC x y) hO4 HI0.out
            have hb5 : Below w.heap.size w We := by rw [hWe]; exact ((hb4).setCell hbb _).setCell hbb _
            have hdel := DelC_any w.heap.size b m c i (P ++ [bothC x y]) R y We (by rw [List.append_assoc]; exact hO5) (by have := HI.out; simp; omega) (by omega)
            rw [← HI1.out] at hdel
            clear hWe hfz htf htl hTB hO4 hO5
            refine hdel.mono ?_
            rintro e Wf ⟨rfl, hO6, hg6⟩
            have hb6 := hb5.trans (only_below hg6 hb5.size hbb)
            go_wp2_with fail
            go_roundw
            case rel =>
              refine ⟨m - 1, i, P, bothC x y, R, rfl, rfl, HI, ?_, ?_, by omega, by rw [List.append_assoc] at hO6; exact hO6, hb6⟩
              · show _ = _
                have := HRES.out
                rw [ded, if_pos HXY.out] at this
                exact this
              · show _ = _
                have := HG.out
                rw [good, if_pos HXY.out, ← HK.out, Bool.true_and] at this
                exact this
            case measure => simp [intOf]; omega
        · have d1 : (cmpI x.pos y.pos != 0) = true := by rw [cmpI_eq]; simpa using hxy
          have HXY := Lib.hid hxy
          clear hxy
          go_wp2_with fail
          go_roundw
          case rel =>
            refine ⟨m, i1, P ++ [x], y, R, rfl, rfl, ?_, ?_, ?_, hmN, ?_, hb3⟩
            · have h1 := HI.out; have h2 := HI1.out; show _ = _; simp; omega
            · show _ = _
              have := HRES.out
              rw [ded, if_neg HXY.out] at this
              rw [← this]; simp
            · show _ = _
              have := HG.out
              rw [good, if_neg HXY.out] at this
              exact this
            · have e2 : P ++ [x] ++ y :: R = P ++ x :: y :: R := by simp
              rw [e2]; exact hO3
          case measure => have := HI1.out; simp [intOf]; omega
set_option maxRecDepth 100000 in
set_option maxHeartbeats 8000000 in
theorem MrgdJ_0 (A1 : Option Addr) (n1 c1 : Nat) (xs : List Junc) (A2 : Option Addr) (n2 c2 : Nat) (ys : List Junc) (S RES : List Junc) (G : Bool) (w : World) (h1 : SL jC 3 w w.heap.size A1 n1 xs) (h2 : SL jC 3 w w.heap.size A2 n2 ys) (hn1 : n1 ≤ 2000) (hn2 : n2 ≤ 2000)
    (hS : ssort (fun x : Junc => x.pos) (xs ++ ys) = S) (hRES : mgd (fun x : Junc => x.pos) bothJ S = RES) (hG : mgood (fun x : Junc => x.pos) bothJ okJ S = G) :
    Calls Tryz.prog 34 #[.slice A1 n1 c1, .slice A2 n2 c2, .func (.func 35) #[] #[], .func (.func 36) #[] #[]] w fun e w' =>
      ((G = true → ∃ A n c, e = .returned (.tuple #[.slice A n c, .bool true]) ∧ OW jC 3 78 w.heap.size w' A n c RES) ∧
       (G = false → e = .returned (.tuple #[.slice none 0 0, .bool false]))) ∧ Below w.heap.size w w' := by
  have HSS := Lib.hid hS
  have HR := Lib.hid hRES
  have HGG := Lib.hid hG
  clear hS hRES hG
  have hmo : Tryz.prog.follows .mixedOrders = true := by kernel_rfl
  obtain ⟨w0, hw0⟩ : ∃ w0, w0 = w.alloc (.cells #[.slice A1 n1 c1, .slice A2 n2 c2] 24) := ⟨_, rfl⟩
  have hB0 : Below w.heap.size w w0 := by rw [hw0]; exact (Below.refl _ _).alloc (Nat.le_refl _) _
  have hX0 : BK w0 w.heap.size 24 #[.slice A1 n1 c1, .slice A2 n2 c2] := by rw [hw0]; exact BK.new _ _ _
  have H1 := Lib.hid (h1.grow hB0 hB0.size)
  have H2 := Lib.hid (h2.grow hB0 hB0.size)
  clear h1 h2
  go_enter Tryz.func34, Tryz.ntmps34
  go_wp2_with fail
  rw [← hw0]
  clear hw0
  have x0 := hX0.cell 0
  have x1 := hX0.cell 1
  simp only [List.getElem?_toArray, List.getElem?_cons_zero, List.getElem?_cons_succ] at x0 x1
  refine (ConcatJ_any w.heap.size 0 2 A1 n1 c1 xs A2 n2 c2 ys _ hX0.lt x0 x1 H1.out H2.out (by omega) (by omega)).mono ?_
  rintro e w1 ⟨A, c, rfl, hO1, hb1⟩
  have hO1' := hO1.drop0 hB0.size
  have hB1 := hB0.trans (hb1.mono hB0.size)
  have HO1 := Lib.hid hO1'
  clear hO1 hO1' hb1 x0 x1 H1 H2 hX0 hB0
  go_wp2_with fail
  refine (SortJ_ow w.heap.size A (n1 + n2) c (xs ++ ys) _ HO1.out (by omega)).mono ?_
  rintro e w2 ⟨⟨v, rfl⟩, hO2, hg2⟩
  rw [HSS.out] at hO2
  have hlen : n1 + n2 = S.length := hO2.2
  have hB2 : Below w.heap.size w w2 := by
    rcases A with _ | ad
    · have h0 := hO2.none_
      have hz : w1.grownBy w2 none := hg2
      exact hB1.trans ⟨hz.os, hz.tape, hz.output, hz.size, fun i hi => hz.block i (by have := hB1.size; omega) (by intro e; cases e)⟩
    · exact hB1.trans (only_below hg2 hB1.size (HO1.out.lt rfl).1)
  clear HO1 hg2 hB1 HSS
  have HLN := Lib.hid hlen
  obtain ⟨N, hN⟩ : ∃ N, N = n1 + n2 := ⟨_, rfl⟩
  rw [← hN] at hO2 ⊢
  have hN4 : N ≤ 4000 := by omega
  clear hlen
  rcases S with _ | ⟨x0, r0⟩
  · have hN0 : N = 0 := by have := HLN.out; simp at this; omega
    have hr0 : RES = [] := HR.out.symm
    have hg0 : G = true := HGG.out.symm
    subst hN0
    subst hr0
    have HGT := Lib.hid hg0
    clear hN hg0
    have HO := Lib.hid hO2
    have HB := Lib.hid hB2
    clear hO2 hB2
    go_wp2_with fail
    go_loopw [10, 11] (fun sv iv wq => sv = .slice A 0 c ∧ iv = .int .i64 1 ∧ wq = w2) (fun _ _ _ => 0)
    case atStart => exact ⟨rfl, rfl, rfl⟩
    case round =>
      obtain ⟨rfl, rfl, rfl⟩ := hrel
      go_wp2_with fail
      go_ret2
      exact ⟨⟨fun _ => ⟨A, 0, c, rfl, HO.out⟩, fun hh => by rw [HGT.out] at hh; cases hh⟩, HB.out⟩
  · rcases A with _ | ad
    · have := (hO2.none_).2.2; cases this
    obtain ⟨b, hb, hbl0, hbb, hfz0, _⟩ := hO2.at_ jC_len _ rfl
    subst hb
    have HO := Lib.hid hO2
    have HB := Lib.hid hB2
    have hNS : N = r0.length + 1 := by have := HLN.out; simp at this; omega
    clear hO2 hB2 hfz0 hN
    have HRES0 := Lib.hid HR.out.symm
    have HG0 := Lib.hid HGG.out.symm
    clear hNS HR HGG
    go_wp2_with fail
    go_loopw [10, 11] (fun sv iv wq => ∃ (m i : Nat) (P : List Junc) (x : Junc) (R : List Junc), sv = .slice (some ⟨b, 0, none⟩) m c ∧ iv = .int .i64 i ∧ Hid (P.length + 1 = i) ∧ Hid (P ++ ded (fun x : Junc => x.pos) bothJ x R = RES) ∧ Hid (good (fun x : Junc => x.pos) bothJ okJ x R = G) ∧ m ≤ N ∧ OW jC 3 78 w.heap.size wq (some ⟨b, 0, none⟩) m c (P ++ x :: R) ∧ Below w.heap.size w wq)
      (fun sv iv _ => (match sv with | .slice _ m _ => m | _ => 0) - (intOf iv).toNat)
    case atStart => exact ⟨N, 1, [], x0, r0, rfl, rfl, Lib.hid rfl, Lib.hid HRES0.out.symm, Lib.hid HG0.out.symm, Nat.le_refl _, HO.out, HB.out⟩
    case round =>
      obtain ⟨m, i, P, x, R, rfl, rfl, HI, HRES, HG, hmN, hO, hb⟩ := hrel
      have hml : m = P.length + 1 + R.length := by rw [hO.2]; simp; omega
      have HML := Lib.hid hml
      clear hml
      rcases R with _ | ⟨y, R⟩
      · have hmi : m = i := by have h1 := HML.out; have h2 := HI.out; simp at h1; omega
        subst hmi
        have hfin : P ++ [x] = RES := by have := HRES.out; simpa [ded] using this
        have hgt : G = true := by have := HG.out; simpa [good] using this.symm
        rw [hfin] at hO
        have HGT := Lib.hid hgt
        have HOF := Lib.hid hO
        have HBF := Lib.hid hb
        clear hfin hO hb hgt
        go_wp2_with fail
        go_ret2
        exact ⟨⟨fun _ => ⟨_, m, c, rfl, HOF.out⟩, fun hh => by rw [HGT.out] at hh; cases hh⟩, HBF.out⟩
      · have him : i < m := by have h1 := HML.out; have h2 := HI.out; simp at h1; omega
        obtain ⟨i0, hi0⟩ : ∃ i0, i0 = P.length := ⟨_, rfl⟩
        have hi01 : i = i0 + 1 := by have := HI.out; omega
        have HI0 := Lib.hid hi0.symm
        have hwm : IntKind.i64.wrap ((i : Int) - 1) = (i0 : Int) := by rw [show (i : Int) - 1 = (i0 : Int) by omega]; exact IntWalk.i64_in _ (by omega)
        have hlt0 : i0 < i := by omega
        obtain ⟨i1, hi1⟩ : ∃ i1, i1 = i + 1 := ⟨_, rfl⟩
        have hwp : IntKind.i64.wrap ((i : Int) + 1) = (i1 : Int) := by rw [show (i : Int) + 1 = (i1 : Int) by omega]; exact IntWalk.i64_in _ (by omega)
        have HI1 := Lib.hid hi1
        have HI01 := Lib.hid hi01
        have e1 : P ++ x :: y :: R = P ++ x :: ([] ++ y :: R) := rfl
        have gi := getElem?_mid P x (y :: R) HI0.out
        have gj := get_second P x [] y R (j := i) (by have := HI.out; simp; omega)
        rw [← e1] at gj
        obtain ⟨b', hb', hbl, _, hfz, hrow⟩ := hO.at_ jC_len _ rfl
        cases hb'
        have x0' := hrow (i0) x gi 0 _ rfl
        have x1' := hrow (i0) x gi 1 _ rfl
        have x2' := hrow (i0) x gi 2 _ rfl
        have hax : ∀ q, 0 + (i0) * 3 + q = (i0) * 3 + q := fun q => by omega
        rw [hax] at x0' x1' x2'
        rw [Nat.add_zero] at x0'
        have x0 := fun d os => cell_regrown x0' d os
        have x1 := fun d os => cell_regrown x1' d os
        have x2 := fun d os => cell_regrown x2' d os
        clear hax
        have y0' := hrow (i) y gj 0 _ rfl
        have y1' := hrow (i) y gj 1 _ rfl
        have y2' := hrow (i) y gj 2 _ rfl
        have hay : ∀ q, 0 + (i) * 3 + q = (i) * 3 + q := fun q => by omega
        rw [hay] at y0' y1' y2'
        rw [Nat.add_zero] at y0'
        have y0 := fun d os => cell_regrown y0' d os
        have y1 := fun d os => cell_regrown y1' d os
        have y2 := fun d os => cell_regrown y2' d os
        clear hay
        have hj1 : (0 : Int) ≤ (i : Int) := by omega
        have hj2 : (i : Int) < (m : Int) := by omega
        have hj3 : (0 : Int) ≤ (i0 : Int) := by omega
        have hj4 : (i0 : Int) < (m : Int) := by omega
        have GI := Lib.hid gi
        have GJ := Lib.hid gj
        clear hrow hi0 hi01 hi1 e1 gi gj
        go_wp2_with fail
        refine wp_region_ch 11 [10] hmo (by kernel_rfl) ?_
        simp only [List.take_succ_cons, List.take_zero, List.drop_succ_cons, List.drop_zero]
        repeat (refine wpC_q (by decide) (by decide) (fun K hK => ?_); go_simp; refine hK _ ?_; clear hK K)
        refine wpC_cg (ι := Unit) 35 #[.agg #[.int .i64 x.pos, .int .i64 x.arms, .int .i64 x.way], .agg #[.int .i64 y.pos, .int .i64 y.arms, .int .i64 y.way]] (fun _ => .int .i64 (cmpI x.pos y.pos)) (fun _ _ => True) (by decide) (by decide) (by go_simp) (fun w => by go_simp) stable_true (fun _ => stable_true) (fun W hW _ => ?_) (fun ix1 hs1 => ?_)
        · refine (cmpJ_any x y W).mono ?_
          rintro ev w' ⟨rfl, hbl⟩
          exact ⟨(), rfl, trivial, hbl⟩
        repeat (refine wpC_q (by decide) (by decide) (fun K hK => ?_); go_simp; refine hK _ ?_; clear hK K)
        refine wpC_nil ?_
        intro w3 hbc _
        clear hs1
        have hO3 := hO.call hbc
        have hb3 := hb.trans (hbc.mono hb.size)
        clear hO hb hfz x0 x0' x1 x1' x2 x2' y0 y0' y1 y1' y2 y2'
        by_cases hxy : x.pos = y.pos
        · have d1 : (cmpI x.pos y.pos != 0) = false := by rw [cmpI_eq]; simpa using hxy
          have HXY := Lib.hid hxy
          clear hxy
          obtain ⟨K, hK⟩ : ∃ K, K = okJ x y := ⟨_, rfl⟩
          have HK := Lib.hid hK
          clear hK
          have gi := GI.out
          have gj := GJ.out
          obtain ⟨b', hb', hbl, _, hfz, hrow⟩ := hO3.at_ jC_len _ rfl
          cases hb'
          have x0' := hrow (i0) x gi 0 _ rfl
          have x1' := hrow (i0) x gi 1 _ rfl
          have x2' := hrow (i0) x gi 2 _ rfl
          have hax : ∀ q, 0 + (i0) * 3 + q = (i0) * 3 + q := fun q => by omega
          rw [hax] at x0' x1' x2'
          rw [Nat.add_zero] at x0'
          have x0 := fun d os => cell_regrown x0' d os
          have x1 := fun d os => cell_regrown x1' d os
          have x2 := fun d os => cell_regrown x2' d os
          clear hax
          have y0' := hrow (i) y gj 0 _ rfl
          have y1' := hrow (i) y gj 1 _ rfl
          have y2' := hrow (i) y gj 2 _ rfl
          have hay : ∀ q, 0 + (i) * 3 + q = (i) * 3 + q := fun q => by omega
          rw [hay] at y0' y1' y2'
          rw [Nat.add_zero] at y0'
          have y0 := fun d os => cell_regrown y0' d os
          have y1 := fun d os => cell_regrown y1' d os
          have y2 := fun d os => cell_regrown y2' d os
          clear hay
          clear hrow gi gj
          go_wp2_with fail
          refine wp_region_one 16 14 15 [10] 78 #[.int .i64 0, .int .i64 0, .int .i64 0] #[.int .i64 (bothJ x y).pos, .int .i64 (bothJ x y).arms, .int .i64 (bothJ x y).way] 12 51 (.agg #[.int .i64 (bothJ x y).pos, .int .i64 (bothJ x y).arms, .int .i64 (bothJ x y).way]) _ _ hmo (by decide) rfl rfl rfl (fun a w => rfl) rfl rfl rfl (by kernel_rfl) (by kernel_rfl) (fun a w b h1 h2 h3 => storeJ (bothJ x y).pos (bothJ x y).arms (bothJ x y).way 12 51 a w b h1 h2 h3 _ rfl) (by kernel_rfl) ?_
          simp only [List.take_succ_cons, List.take_zero, List.drop_succ_cons, List.drop_zero]
          repeat (refine wpCG_q (by decide) (by decide) (fun K hK => ?_); go_simp; refine hK _ ?_; clear hK K)
          refine wpCG_c (ι := Unit) 36 #[.agg #[.int .i64 x.pos, .int .i64 x.arms, .int .i64 x.way], .agg #[.int .i64 y.pos, .int .i64 y.arms, .int .i64 y.way]] (fun _ => .tuple #[.agg #[.int .i64 (bothJ x y).pos, .int .i64 (bothJ x y).arms, .int .i64 (bothJ x y).way], .bool K]) (by decide) (by decide) rfl (fun w => by go_simp) (fun _ _ h _ => h) (fun _ _ h _ => h) (fun W hW _ => ?_) (fun i2 => ?_)
          · refine (bothJ_any x y W).mono ?_
            rintro e w' ⟨rfl, hbl⟩
            exact ⟨(), by rw [HK.out], hbl⟩
          repeat (refine wpCG_q (by decide) (by decide) (fun K hK => ?_); go_simp; refine hK _ ?_; clear hK K)
          refine wpCG_a (by decide) (fun h => by cases h) ?_
          refine wpCG_a (by decide) (fun _ => ⟨rfl, by simp⟩) ?_
          refine wpCG_nil ?_
          intro tb Wd hk4 _ htb hTB
          have hO4 := hO3.call hk4
          have hb4 := hb3.trans (hk4.mono hb3.size)
          clear hO3 hb3 hfz x0 x0' x1 x1' x2 x2' y0 y0' y1 y1' y2 y2'
          cases K
          · have hgf : G = false := by
              have := HG.out
              rw [good, if_pos HXY.out, ← HK.out] at this
              exact this.symm
            have HGF := Lib.hid hgf
            clear hgf
            go_wp2_with fail
            go_ret2
            exact ⟨⟨fun hh => (by rw [HGF.out] at hh; cases hh), fun _ => rfl⟩, hb4⟩
          · obtain ⟨b', hb', hbl2, _, hfz, hrow⟩ := hO4.at_ jC_len _ rfl
            cases hb'
            have gi := GI.out
            have htb2 : w3.heap.size ≤ tb := htb
            have hbt : b < tb := by omega
            have x0 := hrow (i0) x gi 0 _ rfl
            have x1 := hrow (i0) x gi 1 _ rfl
            have x2 := hrow (i0) x gi 2 _ rfl
            have hax : ∀ q, 0 + (i0) * 3 + q = (i0) * 3 + q := fun q => by omega
            rw [hax] at x0 x1 x2
            rw [Nat.add_zero] at x0
            clear hax
            have t0 := hTB.cell 0
            have t1 := hTB.cell 1
            have t2 := hTB.cell 2
            simp only [List.getElem?_toArray, List.getElem?_cons_zero, List.getElem?_cons_succ] at t0 t1 t2
            have htf := hTB.frozen
            have htl := hTB.lt
            clear hrow gi
            go_wp2_with fail
            refine calls_wn (fun We hWe => ?_)
            have hO5 : OW jC 3 78 w.heap.size We (some ⟨b, 0, none⟩) m c (P ++ bothJ x y :: y :: R) := by rw [hWe]; exact setElJ (v := bothJ x y) hO4 HI0.out
            have hb5 : Below w.heap.size w We := by rw [hWe]; exact (((hb4).setCell hbb _).setCell hbb _).setCell hbb _
            have hdel := DelJ_any w.heap.size b m c i (P ++ [bothJ x y]) R y We (by rw [List.append_assoc]; exact hO5) (by have := HI.out; simp; omega) (by omega)
            rw [← HI1.out] at hdel
            clear hWe hfz htf htl hTB hO4 hO5
            refine hdel.mono ?_
            rintro e Wf ⟨rfl, hO6, hg6⟩
            have hb6 := hb5.trans (only_below hg6 hb5.size hbb)
            go_wp2_with fail
            go_roundw
            case rel =>
              refine ⟨m - 1, i, P, bothJ x y, R, rfl, rfl, HI, ?_, ?_, by omega, by rw [List.append_assoc] at hO6; exact hO6, hb6⟩
              · show _ = _
                have := HRES.out
                rw [ded, if_pos HXY.out] at this
                exact this
              · show _ = _
                have := HG.out
                rw [good, if_pos HXY.out, ← HK.out, Bool.true_and] at this
                exact this
            case measure => simp [intOf]; omega
        · have d1 : (cmpI x.pos y.pos != 0) = true := by rw [cmpI_eq]; simpa using hxy
          have HXY := Lib.hid hxy
          clear hxy
          go_wp2_with fail
          go_roundw
          case rel =>
            refine ⟨m, i1, P ++ [x], y, R, rfl, rfl, ?_, ?_, ?_, hmN, ?_, hb3⟩
            · have h1 := HI.out; have h2 := HI1.out; show _ = _; simp; omega
            · show _ = _
              have := HRES.out
              rw [ded, if_neg HXY.out] at this
              rw [← this]; simp
            · show _ = _
              have := HG.out
              rw [good, if_neg HXY.out] at this
              exact this
            · have e2 : P ++ [x] ++ y :: R = P ++ x :: y :: R := by simp
              rw [e2]; exact hO3
          case measure => have := HI1.out; simp [intOf]; omega
end Go.Proofs.YtijcbfhlhgjedaaGreatDoor
