/- The greatest value of a choice of calls, walked: a map of the least times, call by call. -/
import Derived.Test.YtijcbfhlhgjedaaDoorPValP
namespace Go.Proofs.YtijcbfhlhgjedaaDoor
open Go.RowKit Go.Shelf Go.Sort Go.Proofs

open Go.Maps
/-- Where the rest of a slice lies. -/
def tailA (ka : Option Addr) (kc f : Nat) : Option Addr := if kc = f then ka else ka.map fun x => x.add (f * 5)
theorem bk_grown {w w' : World} {b : Nat} {t : TypeId} {cs : Array Value} {row : Option Nat} (h : BK w b t cs) (hg : w.grownBy w' row) (hne : some b ≠ row) : BK w' b t cs := (hg.block b h.lt hne).trans h
theorem sizeC (W : World) : (sizeOf 75).run Tryd.prog W = .ok 5 W := by kernel_rfl
theorem run_tail (W : World) (ka : Option Addr) (kn kc f : Nat) (hf : f ≤ kn) : (Instr.slice 55 (.slice ka kn kc) (some (.int .i64 (f : Int))) none none).run Tryd.prog W = .ok (.slice (tailA ka kc f) (kn - f) (kc - f)) W := by
  have hz := sizeC W
  simp [Instr.slice, Instr.sliceBounds, Instr.sliceBound, asIntOf, run_underlying Tryd.underlying55, hf, hz, Result.andThen, tailA]
theorem SL.tail_ {w : World} {B n c f : Nat} {A : Option Addr} {cs : List CallR} (h : SL caC 5 w B A n cs) (hc : n ≤ c) (hf : f ≤ n) : SL caC 5 w B (tailA A c f) (n - f) (cs.drop f) := by
  refine ⟨by rw [List.length_drop, ← h.1], fun h0 => ?_⟩
  obtain ⟨b, off, rfl, hb, hx⟩ := h.2 (by omega)
  refine ⟨b, off + f * 5, ?_, hb, fun i x hi j v hv => ?_⟩
  · unfold tailA
    rw [if_neg (by omega)]
    simp [Addr.add]
  · rw [List.getElem?_drop] at hi
    have := hx (f + i) x hi j v hv
    rw [show off + f * 5 + i * 5 + j = off + (f + i) * 5 + j by omega]
    exact this
set_option maxRecDepth 100000 in
set_option maxHeartbeats 8000000 in
theorem valuable_any (a f : Nat) (s : Int) (ka : Option Addr) (kn kc : Nat) (cs : List CallR) (g : Nat) (ta : Option Addr) (tc N : Nat) (S : Spd) (R : Road) (w : World) (h : TS w w.heap.size g ta tc N S R) (hK : SL caC 5 w w.heap.size ka kn cs) (hS : SOK S) (hv : OK R) (ha : a ≤ N) (hc : COK N cs) (hl : cs.length ≤ 60) (hf : f ≤ kn) (hs : 0 ≤ s ∧ s ≤ maxM * 100) (hcap : kn ≤ kc) :
    Calls Tryd.prog 88 #[.pointer (some ⟨g, 0, none⟩), .slice ka kn kc, .int .i64 a, .int .i64 f, .int .i64 s] w fun e w' => e = .returned (.int .i64 (bv (qS S R) a (cs.drop f) s)) ∧ Below w.heap.size w w' := by
  have hmm := @run_makeMap Tryd.prog
  have hsl := fun W : World => run_tail W ka kn kc f hf
  have HKT := Lib.hid (SL.tail_ hK hcap hf)
  have HS := Lib.hid hS
  have HV := Lib.hid hv
  have HT := Lib.hid h
  have HC := Lib.hid hc
  have HAN := Lib.hid ha
  have HLK := Lib.hid hK.1
  have HL60 := Lib.hid hl
  have hk60 : kn ≤ 60 := by rw [hK.1]; exact hl
  rw [show maxM = 1125899906842624 from rfl] at hs
  have HSS : Hid (0 ≤ s ∧ s ≤ 112589990684262400) := by show _ ∧ _; omega
  obtain ⟨B, hB⟩ : ∃ B, B = bv (qS S R) a (cs.drop f) s := ⟨_, rfl⟩
  have HDI : Hid (DI (qS S R) a B (cs.drop f) (oneD s)) := by show DI _ _ _ _ _; rw [hB]; exact DI.start
  have HB0 : Hid (0 ≤ B) := by show 0 ≤ B; rw [hB]; exact bv_nn _ _ _ _
  rw [← hB]
  clear h hK hS hv ha hc hl hs hB
  obtain ⟨m, hm⟩ : ∃ m, m = kn - f := ⟨_, rfl⟩
  have hown0 := World.ownsMap_made (H := Unit) w Tryd.prog 3 (plainElem Tryd.prog 3)
  have hwfs : (Lit.int .i64 s).wf = true := WalkArith.wf_i64 (by have := HSS.out; omega)
  have hwf0 : (Lit.int .i64 0).wf = true := by decide
  obtain ⟨w1, hrun, hown1, hgr1⟩ := hown0.update lawI Tryd.underlying168 (by decide) (keyOf_int_mk Tryd.underlying3 hwf0) (plainElem_int Tryd.underlying3 hwfs)
  have hB1 : Below w.heap.size w w1 := ((Below.refl _ _).alloc (Nat.le_refl _) _).grown hgr1 (by simp) (fun j hj => by cases hj; exact Nat.le_refl _)
  clear hown0
  go_enter Tryd.func88, Tryd.ntmps88
  go_wp2_with fail
  have hxb : ∀ x ∈ cs.drop f, (0 ≤ x.place ∧ x.place ≤ N) ∧ (0 ≤ x.lasts ∧ x.lasts ≤ 1125899906842624) ∧ (0 ≤ x.lead ∧ x.lead ≤ 1125899906842624) ∧ 0 ≤ x.value ∧ x.value ≤ 100 := by
    intro x hx
    obtain ⟨i, hi, rfl⟩ := List.getElem_of_mem (List.mem_of_mem_drop hx)
    have h1 := kAt_bd HC.out hi
    have h2 := (HC.out.k i hi _ (List.getElem?_eq_getElem hi)).2.2.2.2.1
    simp only [inR, Bool.and_eq_true, decide_eq_true_eq] at h2
    rw [show maxM = 1125899906842624 from rfl] at h1
    exact ⟨h1.1, h1.2.1, h1.2.2.1, h2⟩
  obtain ⟨xs, hxs⟩ : ∃ xs, xs = cs.drop f := ⟨_, rfl⟩
  obtain ⟨A, hA⟩ : ∃ A, A = tailA ka kc f := ⟨_, rfl⟩
  obtain ⟨c, hcc⟩ : ∃ c, c = kc - f := ⟨_, rfl⟩
  rw [← hA, ← hxs, ← hm] at HKT
  rw [← hxs] at HDI hxb
  rw [← hA, ← hcc, ← hm]
  have HXB := Lib.hid hxb
  have HLX0 := Lib.hid HKT.out.1
  have hm60 : m ≤ 60 := by omega
  have HMI1 : Hid (MI (H := Unit) ((DataW.map []).put (kI 0) (.lit (.int .i64 s))) (oneD s)) := MI.empty.put isMap_empty 0 s
  clear hxb hxs hA hcc hsl hrun hgr1 hm
  have hzw := hB1.size
  go_loopw [11, 30] (fun tm i wr => ∃ (j b nn : Nat) (D : DataW Unit) (ff : Int → Option Int), j ≤ m ∧ i = .int .i64 j ∧ tm = .map (some b) ∧ w.heap.size ≤ b ∧ wr.ownsMap (H := Unit) Tryd.prog 3 (plainElem Tryd.prog 3) b nn D ∧ nn ≤ 2 ^ j ∧ Hid (MI D ff ∧ DI (qS S R) a B (xs.drop j) ff ∧ BD j s ff) ∧ Below w.heap.size w wr)
    (fun _ i _ => m - (intOf i).toNat)
  case atStart => exact ⟨0, w.heap.size, 1, _, _, Nat.zero_le _, rfl, rfl, Nat.le_refl _, hown1, by decide, ⟨HMI1.out, HDI.out, BD.start s⟩, hB1⟩
  case round =>
    obtain ⟨j, b, nn, D, ff, hj, rfl, rfl, hwb, hown, hnn, hpp, hbr⟩ := hrel
    by_cases hlt : j < m
    case pos =>
      have hkl : j < xs.length := by rw [← HLX0.out]; exact hlt
      obtain ⟨kb, ko, hKA, hkB, e0, e1, e2, e3, e4⟩ := KS5.at_ (HKT.out.grow hbr hbr.size) (k := j) hkl
      have hxm := HXB.out _ (List.getElem_mem hkl)
      have HDR : Hid (xs.drop j = (xs[j]'hkl) :: xs.drop (j + 1)) := List.drop_eq_getElem_cons hkl
      have HVT : Hid (∀ y ∈ xs.drop (j + 1), 0 ≤ y.value) := fun y hy => (HXB.out y (List.mem_of_mem_drop hy)).2.2.2.1
      generalize xs[j]'hkl = x at e0 e1 e2 e3 e4 hxm HDR
      subst hKA
      have hi1 : (0 : Int) ≤ (j : Int) := by omega
      have hi2 : (j : Int) < (m : Int) := by omega
      have hp60 : nn ≤ 1152921504606846976 := Nat.le_trans hnn (Nat.le_trans (Nat.pow_le_pow_right (by decide) (show j ≤ 60 by omega)) (by decide))
      have gj : decide ((j : Int) < (m : Int)) = true := decide_eq_true hi2
      have gjN : decide (j < m) = true := decide_eq_true hlt
      have hbl := hown.lt
      have HJM := Lib.hid hlt
      clear hkl
      go_wp2_with (first
        | (at_range; refine wpList_range_own _ rfl _ 168 rfl 3 3 lawI Tryd.underlying168 _ b nn D rfl ((hown.alloc _).alloc _) ?_; intro w3 hrg0 hg0 hs0)
        | fail)
      go_frame
      obtain ⟨w2, hw2⟩ : ∃ w2, w2 = (wr.alloc (.cells #[.int .i64 x.place, .int .i64 x.lasts, .int .i64 x.lead, .int .i64 x.ahead, .int .i64 x.value] 75)).alloc (.map #[] 0) := ⟨_, rfl⟩
      have hX2 : BK w2 wr.heap.size 75 #[.int .i64 x.place, .int .i64 x.lasts, .int .i64 x.lead, .int .i64 x.ahead, .int .i64 x.value] := by rw [hw2]; exact (BK.new wr 75 _).alloc _
      have hN2 : w2.ownsMap (H := Unit) Tryd.prog 3 (plainElem Tryd.prog 3) (wr.heap.size + 1) 0 (.map []) := by rw [hw2]; have := World.ownsMap_made (H := Unit) (wr.alloc (.cells #[.int .i64 x.place, .int .i64 x.lasts, .int .i64 x.lead, .int .i64 x.ahead, .int .i64 x.value] 75)) Tryd.prog 3 (plainElem Tryd.prog 3); rw [World.size_alloc] at this; exact this
      have hz2 : w2.heap.size = wr.heap.size + 2 := by rw [hw2, World.size_alloc, World.size_alloc]
      have hb2 : Below w.heap.size w w2 := by rw [hw2]; exact (hbr.alloc hbr.size _).alloc (Nat.le_trans hbr.size (by simp)) _
      rw [← hw2] at hg0 hrg0 hs0
      rw [hz2] at hrg0 hs0
      have hX3 := bk_grown hX2 hg0 (by simp)
      have hN3 := hN2.kept hg0 (by simp)
      have hb3 : Below w.heap.size w w3 := hb2.grown hg0 hb2.size (fun j hj => by cases hj)
      have hzr := hbr.size
      obtain ⟨nb, hnb⟩ : ∃ nb, nb = wr.heap.size + 1 := ⟨_, rfl⟩
      obtain ⟨rb, hrb⟩ : ∃ rb, rb = wr.heap.size + 2 := ⟨_, rfl⟩
      obtain ⟨xb, hxbb⟩ : ∃ xb, xb = wr.heap.size := ⟨_, rfl⟩
      have HNE : Hid (b ≠ nb ∧ rb ≠ nb ∧ xb ≠ nb ∧ w.heap.size ≤ nb ∧ rb ≠ b ∧ xb ≠ rb) := by show _ ∧ _; omega
      have HRB : Hid (w.heap.size ≤ rb ∧ nb ≠ rb) := by show _ ∧ _; omega
      rw [← hnb] at hN3
      rw [← hrb] at hrg0
      rw [← hxbb] at hX3
      rw [show (wr.alloc (.cells #[.int .i64 x.place, .int .i64 x.lasts, .int .i64 x.lead, .int .i64 x.ahead, .int .i64 x.value] 75)).alloc (.map #[] 0) = w2 from hw2.symm, hz2, ← hrb, ← hnb, ← hxbb]
      have HSZ : Hid (Maps.size D ≤ nn) := hown.size_le
      have hpp1 := Lib.hid hpp.out.1
      have hpp2 := Lib.hid hpp.out.2
      obtain ⟨hxm1, hxm2, hxm3, hxm4, hxm5⟩ := hxm
      clear hw2 hX2 hN2 hz2 hb2 hg0 hs0 hown hbr hnb hrb hxbb e0 e1 e2 e3 e4 hpp hbl hzr
      go_loopw [15] (fun _ wr => ∃ (left : Lit → Bool) (cnt nn2 : Nat) (D2 : DataW Unit) (gg : Int → Option Int), wr.ranges (H := Unit) Tryd.prog 3 (plainElem Tryd.prog 3) b rb nn D left cnt ∧ cnt ≤ Maps.size D ∧ wr.ownsMap (H := Unit) Tryd.prog 3 (plainElem Tryd.prog 3) nb nn2 D2 ∧ nn2 + 2 * cnt ≤ 2 * Maps.size D ∧ (MI D2 gg ∧ gg = stepD (qS S R) a x (comeD left ff)) ∧ BK wr xb 75 #[.int .i64 x.place, .int .i64 x.lasts, .int .i64 x.lead, .int .i64 x.ahead, .int .i64 x.value] ∧ Below w.heap.size w wr)
        (fun _ wr => wr.rangeLeft b rb)
      case atStart => exact ⟨_, _, 0, .map [], fun _ => none, hrg0, Nat.le_refl _, hN3, by omega, ⟨MI.empty, by rw [come_start hpp1.out]; rfl⟩, hX3, hb3⟩
      clear hrg0 hN3 hX3 hb3
      case round =>
        obtain ⟨left, cnt, nn2, D2, gg, hrg, hcs, hown2, hcn, ⟨hMI, hgg⟩, hxx, hbr⟩ := hrel
        have HSG : Hid (gg = stepD (qS S R) a x (comeD left ff)) := hgg
        clear hgg
        have hszb := HSZ.out
        go_wp2_with (first
          | (at_next; refine wpList_next_ranges_ii _ rfl _ rfl 3 3 .i64 .i64 lawI Tryd.underlying3 Tryd.underlying3 b rb nn _ _ _ rfl hrg ?_ ?_)
          | fail)
        · intro hc0 hl0
          have HSG2 : Hid (gg = stepD (qS S R) a x ff) := by show _ = _; rw [HSG.out, come_end hl0]
          have HD2 : Hid (DI (qS S R) a B (xs.drop (j + 1)) gg) := by
            show DI _ _ _ _ _
            have := hpp2.out.1
            rw [HDR.out] at this
            rw [HSG2.out]
            exact this.step HVT.out
          have HBD : Hid (BD (j + 1) s gg) := by
            show BD _ _ _
            rw [HSG2.out]
            exact hpp2.out.2.step ⟨hxm4, hxm5⟩ ⟨hxm2.1, by rw [show maxM = 1125899906842624 from rfl]; exact hxm2.2⟩
          have HP2 : Hid (nn2 ≤ 2 ^ (j + 1)) := by show _ ≤ _; rw [Nat.pow_succ]; omega
          go_wp2_with fail
          go_roundw
          case rel => exact ⟨j + 1, nb, nn2, D2, gg, by have := HJM.out; omega, by go_num, rfl, HNE.out.2.2.2.1, hown2, HP2.out, ⟨hMI, HD2.out, HBD.out⟩, hbr⟩
          case measure => have := HJM.out; simp [intOf]; omega
        · intro v t w5 cnt1 hwx hwc hlx hat hrg1 hlt1 hg1 hs1 hen
          have HLX : Hid (left (kI v) = true) := hlx
          have HF : Hid (ff v = some t) := hpp1.out.met hat
          have hbd := hpp2.out.2 v t HF.out
          have hss := HSS.out
          rw [show maxM = 1125899906842624 from rfl] at hbd
          have hjm := HJM.out
          have hown5 := hown2.kept hg1 (fun e => HRB.out.2 (Option.some.inj e))
          have hx5 := bk_grown hxx hg1 (fun e => HNE.out.2.2.2.2.2 (Option.some.inj e))
          have hB5 : Below w.heap.size w w5 := hbr.grown hg1 hbr.size (fun j hj => by cases hj; exact HRB.out.1)
          have hwt : IntKind.i64.wrap (t + x.lasts) = t + x.lasts := IntWalk.i64_in _ (by omega)
          have HNB : Hid (nn2 + 2 ≤ 4611686018427387904) := by show _ ≤ _; omega
          clear hlx hat hg1 hown2 hxx hbr hs1
          have q0 := hx5.cell 0
          have q1 := hx5.cell 1
          have q2 := hx5.cell 2
          have q3 := hx5.cell 3
          have q4 := hx5.cell 4
          simp only [List.getElem?_toArray, List.getElem?_cons_zero, List.getElem?_cons_succ] at q0 q1 q2 q3 q4
          cases hg1v : gg v with
          | none =>
            have hmet : Maps.has D2 (Lit.int .i64 v) = false := hMI.n _ hg1v
            have HMI6 : Hid (MI (D2.put (Lit.int .i64 v) (.lit (.int .i64 t))) (updD gg v t)) := by
              have := hMI.put hown5.isMap v t
              rw [upd_none hg1v] at this
              exact this
            clear hg1v
            go_wp2_with (first
              | (at_lookup; refine wpList_lookup_own_ok_int _ rfl _ _ 168 rfl 3 3 .i64 lawI Tryd.underlying168 Tryd.underlying3 (zeroI _) nb nn2 D2 rfl hown5 _ (Lit.int .i64 v) rfl (keyOf_int_mk Tryd.underlying3 hwx) ?_; intro c1 hat1 hwc1)
              | (at_mapUpdate; refine wpList_mapUpdate_own _ rfl _ _ _ 168 rfl 3 3 lawI Tryd.underlying168 _ nb nn2 D2 rfl hown5 (by have := HNB.out; unfold maxLen; omega) _ _ (Lit.int .i64 v) rfl rfl (keyOf_int_mk Tryd.underlying3 hwx) (.lit (.int .i64 t)) [] (plainElem_int Tryd.underlying3 hwc) ?_; intro w6 hown6 hg6; have hx6 := bk_grown hx5 hg6 (fun e => HNE.out.2.2.1 (Option.some.inj e)); have q0 := hx6.cell 0; have q1 := hx6.cell 1; have q2 := hx6.cell 2; have q3 := hx6.cell 3; have q4 := hx6.cell 4; simp only [List.getElem?_toArray, List.getElem?_cons_zero, List.getElem?_cons_succ] at q0 q1 q2 q3 q4; go_frame)
              | fail)
            have hrg6 := hrg1.kept hg6 (fun e => HNE.out.1 (Option.some.inj e)) (fun e => HNE.out.2.1 (Option.some.inj e))
            have hB6 := hB5.grown hg6 hB5.size (fun j hj => by cases hj; exact HNE.out.2.2.2.1)
            obtain ⟨D6, hD6⟩ : ∃ D6, D6 = (D2.put (Lit.int .i64 v) (.lit (.int .i64 t))) := ⟨_, rfl⟩
            obtain ⟨g6, hg6'⟩ : ∃ g6, g6 = updD gg v t := ⟨_, rfl⟩
            rw [← hD6] at hown6 HMI6
            rw [← hg6'] at HMI6
            have HGG : Hid (g6 = updD (stepD (qS S R) a x (comeD left ff)) v t) := by show _ = _; rw [← HSG.out]; exact hg6'
            clear hD6 hg6'
            refine (ends_any x a (t + x.lasts) g ta tc N S R w6 (HT.out.grow hB6 hB6.size) HS.out HV.out HAN.out ⟨by omega, by omega⟩ ⟨by omega, by omega⟩ ⟨by omega, by rw [show maxM = 1125899906842624 from rfl]; omega⟩).mono ?_
            rintro e w7 ⟨rfl, hk7⟩
            have hgk : w6.grownBy w7 none := ⟨hk7.os, hk7.tape, hk7.output, hk7.size, fun i hi _ => hk7.block i hi⟩
            have hrg7 := hrg6.kept hgk (by simp) (by simp)
            have hown7 := hown6.kept hgk (by simp)
            have hx7 := bk_grown hx6 hgk (by simp)
            have hB7 := hB6.trans (hk7.mono hB6.size)
            cases he : endsB (qS S R) a x (t + x.lasts)
            case false =>
              have HEQ : Hid (g6 = stepD (qS S R) a x (comeD (fun z => left z && !z.sameKey (Lit.int .i64 v)) ff)) := by
                show _ = _
                have := come_more (Q := qS S R) (a := a) (x := x) HLX.out HF.out
                rw [he, if_neg (by decide), ← HGG.out] at this
                exact this.symm
              have hrg8 := hrg7
              have hown8 := hown7
              have hx8 := hx7
              have hB8 := hB7
              clear he
              go_wp2_with fail
              have HREL : Hid (MI D6 g6 ∧ g6 = stepD (qS S R) a x (comeD (fun z => left z && !z.sameKey (Lit.int .i64 v)) ff)) := ⟨HMI6.out, HEQ.out⟩
              go_roundw
              case rel => exact ⟨_, cnt1, (nn2 + 1), D6, _, hrg8, by omega, hown8, by omega, HREL.out, hx8, hB8⟩
              case measure => rw [hrg8.left_eq, hrg.left_eq]; exact hlt1
            have HEQ : Hid (updD g6 (v + x.value) (t + x.lasts) = stepD (qS S R) a x (comeD (fun z => left z && !z.sameKey (Lit.int .i64 v)) ff)) := by
              show _ = _
              have := come_more (Q := qS S R) (a := a) (x := x) HLX.out HF.out
              rw [he, if_pos rfl, ← HGG.out] at this
              exact this.symm
            clear he
            have hwv : IntKind.i64.wrap (v + x.value) = v + x.value := IntWalk.i64_in _ (by omega)
            have hwk2 : (Lit.int .i64 (v + x.value)).wf = true := WalkArith.wf_i64 (by omega)
            have hwt2 : (Lit.int .i64 (t + x.lasts)).wf = true := WalkArith.wf_i64 (by omega)
            have q0 := hx7.cell 0
            have q1 := hx7.cell 1
            have q2 := hx7.cell 2
            have q3 := hx7.cell 3
            have q4 := hx7.cell 4
            simp only [List.getElem?_toArray, List.getElem?_cons_zero, List.getElem?_cons_succ] at q0 q1 q2 q3 q4
            cases hg2 : g6 (v + x.value) with
            | none =>
              have hmet2 : Maps.has D6 (Lit.int .i64 (v + x.value)) = false := HMI6.out.n _ hg2
              have HMI8 : Hid (MI (D6.put (Lit.int .i64 (v + x.value)) (.lit (.int .i64 (t + x.lasts)))) (updD g6 (v + x.value) (t + x.lasts))) := by
                have := HMI6.out.put hown7.isMap (v + x.value) (t + x.lasts)
                rw [upd_none hg2] at this
                exact this
              clear hg2
              go_wp2_with (first
                | (at_lookup; refine wpList_lookup_own_ok_int _ rfl _ _ 168 rfl 3 3 .i64 lawI Tryd.underlying168 Tryd.underlying3 (zeroI _) nb (nn2 + 1) D6 rfl hown7 _ (Lit.int .i64 (v + x.value)) rfl (keyOf_int_mk Tryd.underlying3 hwk2) ?_; intro c1 hat1 hwc1)
                | (at_mapUpdate; refine wpList_mapUpdate_own _ rfl _ _ _ 168 rfl 3 3 lawI Tryd.underlying168 _ nb (nn2 + 1) D6 rfl hown7 (by have := HNB.out; unfold maxLen; omega) _ _ (Lit.int .i64 (v + x.value)) rfl rfl (keyOf_int_mk Tryd.underlying3 hwk2) (.lit (.int .i64 (t + x.lasts))) [] (plainElem_int Tryd.underlying3 hwt2) ?_; intro w8 hown8 hg8; skip; go_frame)
                | fail)
              have hx8 := bk_grown hx7 hg8 (fun e => HNE.out.2.2.1 (Option.some.inj e))
              have hrg8 := hrg7.kept hg8 (fun e => HNE.out.1 (Option.some.inj e)) (fun e => HNE.out.2.1 (Option.some.inj e))
              have hB8 := hB7.grown hg8 hB7.size (fun j hj => by cases hj; exact HNE.out.2.2.2.1)
              have HREL : Hid (MI (D6.put (Lit.int .i64 (v + x.value)) (.lit (.int .i64 (t + x.lasts)))) (updD g6 (v + x.value) (t + x.lasts)) ∧ (updD g6 (v + x.value) (t + x.lasts)) = stepD (qS S R) a x (comeD (fun z => left z && !z.sameKey (Lit.int .i64 v)) ff)) := ⟨HMI8.out, HEQ.out⟩
              go_roundw
              case rel => exact ⟨_, cnt1, ((nn2 + 1) + 1), _, _, hrg8, by omega, hown8, by omega, HREL.out, hx8, hB8⟩
              case measure => rw [hrg8.left_eq, hrg.left_eq]; exact hlt1
            | some r2 =>
              have hmet2 : Maps.has D6 (Lit.int .i64 (v + x.value)) = true := (HMI6.out.s _ _ hg2).1
              by_cases hlt2 : t + x.lasts < r2
              case pos =>
                have hcm : decide (t + x.lasts < r2) = true := decide_eq_true hlt2
                have HMI8 : Hid (MI (D6.put (Lit.int .i64 (v + x.value)) (.lit (.int .i64 (t + x.lasts)))) (updD g6 (v + x.value) (t + x.lasts))) := by
                  have := HMI6.out.put hown7.isMap (v + x.value) (t + x.lasts)
                  rw [upd_less hg2 hlt2] at this
                  exact this
                have HG2 := Lib.hid hg2
                clear hg2 hlt2
                go_wp2_with (first
                  | (at_lookup; refine wpList_lookup_own_ok_int _ rfl _ _ 168 rfl 3 3 .i64 lawI Tryd.underlying168 Tryd.underlying3 (zeroI _) nb (nn2 + 1) D6 rfl hown7 _ (Lit.int .i64 (v + x.value)) rfl (keyOf_int_mk Tryd.underlying3 hwk2) ?_; intro c1 hat1 hwc1; obtain rfl := HMI6.out.look HG2.out hat1)
                  | (at_mapUpdate; refine wpList_mapUpdate_own _ rfl _ _ _ 168 rfl 3 3 lawI Tryd.underlying168 _ nb (nn2 + 1) D6 rfl hown7 (by have := HNB.out; unfold maxLen; omega) _ _ (Lit.int .i64 (v + x.value)) rfl rfl (keyOf_int_mk Tryd.underlying3 hwk2) (.lit (.int .i64 (t + x.lasts))) [] (plainElem_int Tryd.underlying3 hwt2) ?_; intro w8 hown8 hg8; skip; go_frame)
                  | fail)
                have hx8 := bk_grown hx7 hg8 (fun e => HNE.out.2.2.1 (Option.some.inj e))
                have hrg8 := hrg7.kept hg8 (fun e => HNE.out.1 (Option.some.inj e)) (fun e => HNE.out.2.1 (Option.some.inj e))
                have hB8 := hB7.grown hg8 hB7.size (fun j hj => by cases hj; exact HNE.out.2.2.2.1)
                have HREL : Hid (MI (D6.put (Lit.int .i64 (v + x.value)) (.lit (.int .i64 (t + x.lasts)))) (updD g6 (v + x.value) (t + x.lasts)) ∧ (updD g6 (v + x.value) (t + x.lasts)) = stepD (qS S R) a x (comeD (fun z => left z && !z.sameKey (Lit.int .i64 v)) ff)) := ⟨HMI8.out, HEQ.out⟩
                go_roundw
                case rel => exact ⟨_, cnt1, ((nn2 + 1) + 1), _, _, hrg8, by omega, hown8, by omega, HREL.out, hx8, hB8⟩
                case measure => rw [hrg8.left_eq, hrg.left_eq]; exact hlt1
              have hcm : decide (t + x.lasts < r2) = false := decide_eq_false hlt2
              have HEQ2 : Hid (g6 = stepD (qS S R) a x (comeD (fun z => left z && !z.sameKey (Lit.int .i64 v)) ff)) := by
                show _ = _
                rw [← HEQ.out]
                exact upd_keep hg2 hlt2
              have HG2 := Lib.hid hg2
              clear hg2 hlt2
              go_wp2_with (first
                | (at_lookup; refine wpList_lookup_own_ok_int _ rfl _ _ 168 rfl 3 3 .i64 lawI Tryd.underlying168 Tryd.underlying3 (zeroI _) nb (nn2 + 1) D6 rfl hown7 _ (Lit.int .i64 (v + x.value)) rfl (keyOf_int_mk Tryd.underlying3 hwk2) ?_; intro c1 hat1 hwc1; obtain rfl := HMI6.out.look HG2.out hat1)
                | fail)
              have hrg8 := hrg7
              have hown8 := hown7
              have hx8 := hx7
              have hB8 := hB7
              have HREL : Hid (MI D6 g6 ∧ g6 = stepD (qS S R) a x (comeD (fun z => left z && !z.sameKey (Lit.int .i64 v)) ff)) := ⟨HMI6.out, HEQ2.out⟩
              go_roundw
              case rel => exact ⟨_, cnt1, (nn2 + 1), D6, _, hrg8, by omega, hown8, by omega, HREL.out, hx8, hB8⟩
              case measure => rw [hrg8.left_eq, hrg.left_eq]; exact hlt1
          | some r1 =>
            have hmet : Maps.has D2 (Lit.int .i64 v) = true := (hMI.s _ _ hg1v).1
            by_cases hlt0 : t < r1
            case pos =>
              have hcm0 : decide (t < r1) = true := decide_eq_true hlt0
              have HMI6 : Hid (MI (D2.put (Lit.int .i64 v) (.lit (.int .i64 t))) (updD gg v t)) := by
                have := hMI.put hown5.isMap v t
                rw [upd_less hg1v hlt0] at this
                exact this
              have HG1 := Lib.hid hg1v
              clear hg1v hlt0
              go_wp2_with (first
                | (at_lookup; refine wpList_lookup_own_ok_int _ rfl _ _ 168 rfl 3 3 .i64 lawI Tryd.underlying168 Tryd.underlying3 (zeroI _) nb nn2 D2 rfl hown5 _ (Lit.int .i64 v) rfl (keyOf_int_mk Tryd.underlying3 hwx) ?_; intro c1 hat1 hwc1; obtain rfl := hMI.look HG1.out hat1)
                | (at_mapUpdate; refine wpList_mapUpdate_own _ rfl _ _ _ 168 rfl 3 3 lawI Tryd.underlying168 _ nb nn2 D2 rfl hown5 (by have := HNB.out; unfold maxLen; omega) _ _ (Lit.int .i64 v) rfl rfl (keyOf_int_mk Tryd.underlying3 hwx) (.lit (.int .i64 t)) [] (plainElem_int Tryd.underlying3 hwc) ?_; intro w6 hown6 hg6; have hx6 := bk_grown hx5 hg6 (fun e => HNE.out.2.2.1 (Option.some.inj e)); have q0 := hx6.cell 0; have q1 := hx6.cell 1; have q2 := hx6.cell 2; have q3 := hx6.cell 3; have q4 := hx6.cell 4; simp only [List.getElem?_toArray, List.getElem?_cons_zero, List.getElem?_cons_succ] at q0 q1 q2 q3 q4; go_frame)
                | fail)
              have hrg6 := hrg1.kept hg6 (fun e => HNE.out.1 (Option.some.inj e)) (fun e => HNE.out.2.1 (Option.some.inj e))
              have hB6 := hB5.grown hg6 hB5.size (fun j hj => by cases hj; exact HNE.out.2.2.2.1)
              obtain ⟨D6, hD6⟩ : ∃ D6, D6 = (D2.put (Lit.int .i64 v) (.lit (.int .i64 t))) := ⟨_, rfl⟩
              obtain ⟨g6, hg6'⟩ : ∃ g6, g6 = updD gg v t := ⟨_, rfl⟩
              rw [← hD6] at hown6 HMI6
              rw [← hg6'] at HMI6
              have HGG : Hid (g6 = updD (stepD (qS S R) a x (comeD left ff)) v t) := by show _ = _; rw [← HSG.out]; exact hg6'
              clear hD6 hg6'
              refine (ends_any x a (t + x.lasts) g ta tc N S R w6 (HT.out.grow hB6 hB6.size) HS.out HV.out HAN.out ⟨by omega, by omega⟩ ⟨by omega, by omega⟩ ⟨by omega, by rw [show maxM = 1125899906842624 from rfl]; omega⟩).mono ?_
              rintro e w7 ⟨rfl, hk7⟩
              have hgk : w6.grownBy w7 none := ⟨hk7.os, hk7.tape, hk7.output, hk7.size, fun i hi _ => hk7.block i hi⟩
              have hrg7 := hrg6.kept hgk (by simp) (by simp)
              have hown7 := hown6.kept hgk (by simp)
              have hx7 := bk_grown hx6 hgk (by simp)
              have hB7 := hB6.trans (hk7.mono hB6.size)
              cases he : endsB (qS S R) a x (t + x.lasts)
              case false =>
                have HEQ : Hid (g6 = stepD (qS S R) a x (comeD (fun z => left z && !z.sameKey (Lit.int .i64 v)) ff)) := by
                  show _ = _
                  have := come_more (Q := qS S R) (a := a) (x := x) HLX.out HF.out
                  rw [he, if_neg (by decide), ← HGG.out] at this
                  exact this.symm
                have hrg8 := hrg7
                have hown8 := hown7
                have hx8 := hx7
                have hB8 := hB7
                clear he
                go_wp2_with fail
                have HREL : Hid (MI D6 g6 ∧ g6 = stepD (qS S R) a x (comeD (fun z => left z && !z.sameKey (Lit.int .i64 v)) ff)) := ⟨HMI6.out, HEQ.out⟩
                go_roundw
                case rel => exact ⟨_, cnt1, (nn2 + 1), D6, _, hrg8, by omega, hown8, by omega, HREL.out, hx8, hB8⟩
                case measure => rw [hrg8.left_eq, hrg.left_eq]; exact hlt1
              have HEQ : Hid (updD g6 (v + x.value) (t + x.lasts) = stepD (qS S R) a x (comeD (fun z => left z && !z.sameKey (Lit.int .i64 v)) ff)) := by
                show _ = _
                have := come_more (Q := qS S R) (a := a) (x := x) HLX.out HF.out
                rw [he, if_pos rfl, ← HGG.out] at this
                exact this.symm
              clear he
              have hwv : IntKind.i64.wrap (v + x.value) = v + x.value := IntWalk.i64_in _ (by omega)
              have hwk2 : (Lit.int .i64 (v + x.value)).wf = true := WalkArith.wf_i64 (by omega)
              have hwt2 : (Lit.int .i64 (t + x.lasts)).wf = true := WalkArith.wf_i64 (by omega)
              have q0 := hx7.cell 0
              have q1 := hx7.cell 1
              have q2 := hx7.cell 2
              have q3 := hx7.cell 3
              have q4 := hx7.cell 4
              simp only [List.getElem?_toArray, List.getElem?_cons_zero, List.getElem?_cons_succ] at q0 q1 q2 q3 q4
              cases hg2 : g6 (v + x.value) with
              | none =>
                have hmet2 : Maps.has D6 (Lit.int .i64 (v + x.value)) = false := HMI6.out.n _ hg2
                have HMI8 : Hid (MI (D6.put (Lit.int .i64 (v + x.value)) (.lit (.int .i64 (t + x.lasts)))) (updD g6 (v + x.value) (t + x.lasts))) := by
                  have := HMI6.out.put hown7.isMap (v + x.value) (t + x.lasts)
                  rw [upd_none hg2] at this
                  exact this
                clear hg2
                go_wp2_with (first
                  | (at_lookup; refine wpList_lookup_own_ok_int _ rfl _ _ 168 rfl 3 3 .i64 lawI Tryd.underlying168 Tryd.underlying3 (zeroI _) nb (nn2 + 1) D6 rfl hown7 _ (Lit.int .i64 (v + x.value)) rfl (keyOf_int_mk Tryd.underlying3 hwk2) ?_; intro c1 hat1 hwc1)
                  | (at_mapUpdate; refine wpList_mapUpdate_own _ rfl _ _ _ 168 rfl 3 3 lawI Tryd.underlying168 _ nb (nn2 + 1) D6 rfl hown7 (by have := HNB.out; unfold maxLen; omega) _ _ (Lit.int .i64 (v + x.value)) rfl rfl (keyOf_int_mk Tryd.underlying3 hwk2) (.lit (.int .i64 (t + x.lasts))) [] (plainElem_int Tryd.underlying3 hwt2) ?_; intro w8 hown8 hg8; skip; go_frame)
                  | fail)
                have hx8 := bk_grown hx7 hg8 (fun e => HNE.out.2.2.1 (Option.some.inj e))
                have hrg8 := hrg7.kept hg8 (fun e => HNE.out.1 (Option.some.inj e)) (fun e => HNE.out.2.1 (Option.some.inj e))
                have hB8 := hB7.grown hg8 hB7.size (fun j hj => by cases hj; exact HNE.out.2.2.2.1)
                have HREL : Hid (MI (D6.put (Lit.int .i64 (v + x.value)) (.lit (.int .i64 (t + x.lasts)))) (updD g6 (v + x.value) (t + x.lasts)) ∧ (updD g6 (v + x.value) (t + x.lasts)) = stepD (qS S R) a x (comeD (fun z => left z && !z.sameKey (Lit.int .i64 v)) ff)) := ⟨HMI8.out, HEQ.out⟩
                go_roundw
                case rel => exact ⟨_, cnt1, ((nn2 + 1) + 1), _, _, hrg8, by omega, hown8, by omega, HREL.out, hx8, hB8⟩
                case measure => rw [hrg8.left_eq, hrg.left_eq]; exact hlt1
              | some r2 =>
                have hmet2 : Maps.has D6 (Lit.int .i64 (v + x.value)) = true := (HMI6.out.s _ _ hg2).1
                by_cases hlt2 : t + x.lasts < r2
                case pos =>
                  have hcm : decide (t + x.lasts < r2) = true := decide_eq_true hlt2
                  have HMI8 : Hid (MI (D6.put (Lit.int .i64 (v + x.value)) (.lit (.int .i64 (t + x.lasts)))) (updD g6 (v + x.value) (t + x.lasts))) := by
                    have := HMI6.out.put hown7.isMap (v + x.value) (t + x.lasts)
                    rw [upd_less hg2 hlt2] at this
                    exact this
                  have HG2 := Lib.hid hg2
                  clear hg2 hlt2
                  go_wp2_with (first
                    | (at_lookup; refine wpList_lookup_own_ok_int _ rfl _ _ 168 rfl 3 3 .i64 lawI Tryd.underlying168 Tryd.underlying3 (zeroI _) nb (nn2 + 1) D6 rfl hown7 _ (Lit.int .i64 (v + x.value)) rfl (keyOf_int_mk Tryd.underlying3 hwk2) ?_; intro c1 hat1 hwc1; obtain rfl := HMI6.out.look HG2.out hat1)
                    | (at_mapUpdate; refine wpList_mapUpdate_own _ rfl _ _ _ 168 rfl 3 3 lawI Tryd.underlying168 _ nb (nn2 + 1) D6 rfl hown7 (by have := HNB.out; unfold maxLen; omega) _ _ (Lit.int .i64 (v + x.value)) rfl rfl (keyOf_int_mk Tryd.underlying3 hwk2) (.lit (.int .i64 (t + x.lasts))) [] (plainElem_int Tryd.underlying3 hwt2) ?_; intro w8 hown8 hg8; skip; go_frame)
                    | fail)
                  have hx8 := bk_grown hx7 hg8 (fun e => HNE.out.2.2.1 (Option.some.inj e))
                  have hrg8 := hrg7.kept hg8 (fun e => HNE.out.1 (Option.some.inj e)) (fun e => HNE.out.2.1 (Option.some.inj e))
                  have hB8 := hB7.grown hg8 hB7.size (fun j hj => by cases hj; exact HNE.out.2.2.2.1)
                  have HREL : Hid (MI (D6.put (Lit.int .i64 (v + x.value)) (.lit (.int .i64 (t + x.lasts)))) (updD g6 (v + x.value) (t + x.lasts)) ∧ (updD g6 (v + x.value) (t + x.lasts)) = stepD (qS S R) a x (comeD (fun z => left z && !z.sameKey (Lit.int .i64 v)) ff)) := ⟨HMI8.out, HEQ.out⟩
                  go_roundw
                  case rel => exact ⟨_, cnt1, ((nn2 + 1) + 1), _, _, hrg8, by omega, hown8, by omega, HREL.out, hx8, hB8⟩
                  case measure => rw [hrg8.left_eq, hrg.left_eq]; exact hlt1
                have hcm : decide (t + x.lasts < r2) = false := decide_eq_false hlt2
                have HEQ2 : Hid (g6 = stepD (qS S R) a x (comeD (fun z => left z && !z.sameKey (Lit.int .i64 v)) ff)) := by
                  show _ = _
                  rw [← HEQ.out]
                  exact upd_keep hg2 hlt2
                have HG2 := Lib.hid hg2
                clear hg2 hlt2
                go_wp2_with (first
                  | (at_lookup; refine wpList_lookup_own_ok_int _ rfl _ _ 168 rfl 3 3 .i64 lawI Tryd.underlying168 Tryd.underlying3 (zeroI _) nb (nn2 + 1) D6 rfl hown7 _ (Lit.int .i64 (v + x.value)) rfl (keyOf_int_mk Tryd.underlying3 hwk2) ?_; intro c1 hat1 hwc1; obtain rfl := HMI6.out.look HG2.out hat1)
                  | fail)
                have hrg8 := hrg7
                have hown8 := hown7
                have hx8 := hx7
                have hB8 := hB7
                have HREL : Hid (MI D6 g6 ∧ g6 = stepD (qS S R) a x (comeD (fun z => left z && !z.sameKey (Lit.int .i64 v)) ff)) := ⟨HMI6.out, HEQ2.out⟩
                go_roundw
                case rel => exact ⟨_, cnt1, (nn2 + 1), D6, _, hrg8, by omega, hown8, by omega, HREL.out, hx8, hB8⟩
                case measure => rw [hrg8.left_eq, hrg.left_eq]; exact hlt1
            have hcm0 : decide (t < r1) = false := decide_eq_false hlt0
            have HGG : Hid (gg = updD (stepD (qS S R) a x (comeD left ff)) v t) := by show _ = _; rw [← HSG.out]; exact upd_keep hg1v hlt0
            have HG1 := Lib.hid hg1v
            clear hg1v hlt0
            obtain ⟨w6, hw6⟩ : ∃ w6, w6 = w5 := ⟨_, rfl⟩
            rw [← hw6] at hrg1 hown5 hx5 hB5 hen ⊢
            have hrg6 := hrg1
            have hown6 := hown5
            have hx6 := hx5
            have hB6 := hB5
            clear hw6
            have q0 := hx6.cell 0
            have q1 := hx6.cell 1
            have q2 := hx6.cell 2
            have q3 := hx6.cell 3
            have q4 := hx6.cell 4
            simp only [List.getElem?_toArray, List.getElem?_cons_zero, List.getElem?_cons_succ] at q0 q1 q2 q3 q4
            go_wp2_with (first
              | (at_lookup; refine wpList_lookup_own_ok_int _ rfl _ _ 168 rfl 3 3 .i64 lawI Tryd.underlying168 Tryd.underlying3 (zeroI _) nb nn2 D2 rfl hown6 _ (Lit.int .i64 v) rfl (keyOf_int_mk Tryd.underlying3 hwx) ?_; intro c1 hat1 hwc1; obtain rfl := hMI.look HG1.out hat1)
              | fail)
            refine (ends_any x a (t + x.lasts) g ta tc N S R w6 (HT.out.grow hB6 hB6.size) HS.out HV.out HAN.out ⟨by omega, by omega⟩ ⟨by omega, by omega⟩ ⟨by omega, by rw [show maxM = 1125899906842624 from rfl]; omega⟩).mono ?_
            rintro e w7 ⟨rfl, hk7⟩
            have hgk : w6.grownBy w7 none := ⟨hk7.os, hk7.tape, hk7.output, hk7.size, fun i hi _ => hk7.block i hi⟩
            have hrg7 := hrg6.kept hgk (by simp) (by simp)
            have hown7 := hown6.kept hgk (by simp)
            have hx7 := bk_grown hx6 hgk (by simp)
            have hB7 := hB6.trans (hk7.mono hB6.size)
            cases he : endsB (qS S R) a x (t + x.lasts)
            case false =>
              have HEQ : Hid (gg = stepD (qS S R) a x (comeD (fun z => left z && !z.sameKey (Lit.int .i64 v)) ff)) := by
                show _ = _
                have := come_more (Q := qS S R) (a := a) (x := x) HLX.out HF.out
                rw [he, if_neg (by decide), ← HGG.out] at this
                exact this.symm
              have hrg8 := hrg7
              have hown8 := hown7
              have hx8 := hx7
              have hB8 := hB7
              clear he
              go_wp2_with fail
              have HREL : Hid (MI D2 gg ∧ gg = stepD (qS S R) a x (comeD (fun z => left z && !z.sameKey (Lit.int .i64 v)) ff)) := ⟨hMI, HEQ.out⟩
              go_roundw
              case rel => exact ⟨_, cnt1, nn2, D2, _, hrg8, by omega, hown8, by omega, HREL.out, hx8, hB8⟩
              case measure => rw [hrg8.left_eq, hrg.left_eq]; exact hlt1
            have HEQ : Hid (updD gg (v + x.value) (t + x.lasts) = stepD (qS S R) a x (comeD (fun z => left z && !z.sameKey (Lit.int .i64 v)) ff)) := by
              show _ = _
              have := come_more (Q := qS S R) (a := a) (x := x) HLX.out HF.out
              rw [he, if_pos rfl, ← HGG.out] at this
              exact this.symm
            clear he
            have hwv : IntKind.i64.wrap (v + x.value) = v + x.value := IntWalk.i64_in _ (by omega)
            have hwk2 : (Lit.int .i64 (v + x.value)).wf = true := WalkArith.wf_i64 (by omega)
            have hwt2 : (Lit.int .i64 (t + x.lasts)).wf = true := WalkArith.wf_i64 (by omega)
            have q0 := hx7.cell 0
            have q1 := hx7.cell 1
            have q2 := hx7.cell 2
            have q3 := hx7.cell 3
            have q4 := hx7.cell 4
            simp only [List.getElem?_toArray, List.getElem?_cons_zero, List.getElem?_cons_succ] at q0 q1 q2 q3 q4
            cases hg2 : gg (v + x.value) with
            | none =>
              have hmet2 : Maps.has D2 (Lit.int .i64 (v + x.value)) = false := hMI.n _ hg2
              have HMI8 : Hid (MI (D2.put (Lit.int .i64 (v + x.value)) (.lit (.int .i64 (t + x.lasts)))) (updD gg (v + x.value) (t + x.lasts))) := by
                have := hMI.put hown7.isMap (v + x.value) (t + x.lasts)
                rw [upd_none hg2] at this
                exact this
              clear hg2
              go_wp2_with (first
                | (at_lookup; refine wpList_lookup_own_ok_int _ rfl _ _ 168 rfl 3 3 .i64 lawI Tryd.underlying168 Tryd.underlying3 (zeroI _) nb nn2 D2 rfl hown7 _ (Lit.int .i64 (v + x.value)) rfl (keyOf_int_mk Tryd.underlying3 hwk2) ?_; intro c1 hat1 hwc1)
                | (at_mapUpdate; refine wpList_mapUpdate_own _ rfl _ _ _ 168 rfl 3 3 lawI Tryd.underlying168 _ nb nn2 D2 rfl hown7 (by have := HNB.out; unfold maxLen; omega) _ _ (Lit.int .i64 (v + x.value)) rfl rfl (keyOf_int_mk Tryd.underlying3 hwk2) (.lit (.int .i64 (t + x.lasts))) [] (plainElem_int Tryd.underlying3 hwt2) ?_; intro w8 hown8 hg8; skip; go_frame)
                | fail)
              have hx8 := bk_grown hx7 hg8 (fun e => HNE.out.2.2.1 (Option.some.inj e))
              have hrg8 := hrg7.kept hg8 (fun e => HNE.out.1 (Option.some.inj e)) (fun e => HNE.out.2.1 (Option.some.inj e))
              have hB8 := hB7.grown hg8 hB7.size (fun j hj => by cases hj; exact HNE.out.2.2.2.1)
              have HREL : Hid (MI (D2.put (Lit.int .i64 (v + x.value)) (.lit (.int .i64 (t + x.lasts)))) (updD gg (v + x.value) (t + x.lasts)) ∧ (updD gg (v + x.value) (t + x.lasts)) = stepD (qS S R) a x (comeD (fun z => left z && !z.sameKey (Lit.int .i64 v)) ff)) := ⟨HMI8.out, HEQ.out⟩
              go_roundw
              case rel => exact ⟨_, cnt1, (nn2 + 1), _, _, hrg8, by omega, hown8, by omega, HREL.out, hx8, hB8⟩
              case measure => rw [hrg8.left_eq, hrg.left_eq]; exact hlt1
            | some r2 =>
              have hmet2 : Maps.has D2 (Lit.int .i64 (v + x.value)) = true := (hMI.s _ _ hg2).1
              by_cases hlt2 : t + x.lasts < r2
              case pos =>
                have hcm : decide (t + x.lasts < r2) = true := decide_eq_true hlt2
                have HMI8 : Hid (MI (D2.put (Lit.int .i64 (v + x.value)) (.lit (.int .i64 (t + x.lasts)))) (updD gg (v + x.value) (t + x.lasts))) := by
                  have := hMI.put hown7.isMap (v + x.value) (t + x.lasts)
                  rw [upd_less hg2 hlt2] at this
                  exact this
                have HG2 := Lib.hid hg2
                clear hg2 hlt2
                go_wp2_with (first
                  | (at_lookup; refine wpList_lookup_own_ok_int _ rfl _ _ 168 rfl 3 3 .i64 lawI Tryd.underlying168 Tryd.underlying3 (zeroI _) nb nn2 D2 rfl hown7 _ (Lit.int .i64 (v + x.value)) rfl (keyOf_int_mk Tryd.underlying3 hwk2) ?_; intro c1 hat1 hwc1; obtain rfl := hMI.look HG2.out hat1)
                  | (at_mapUpdate; refine wpList_mapUpdate_own _ rfl _ _ _ 168 rfl 3 3 lawI Tryd.underlying168 _ nb nn2 D2 rfl hown7 (by have := HNB.out; unfold maxLen; omega) _ _ (Lit.int .i64 (v + x.value)) rfl rfl (keyOf_int_mk Tryd.underlying3 hwk2) (.lit (.int .i64 (t + x.lasts))) [] (plainElem_int Tryd.underlying3 hwt2) ?_; intro w8 hown8 hg8; skip; go_frame)
                  | fail)
                have hx8 := bk_grown hx7 hg8 (fun e => HNE.out.2.2.1 (Option.some.inj e))
                have hrg8 := hrg7.kept hg8 (fun e => HNE.out.1 (Option.some.inj e)) (fun e => HNE.out.2.1 (Option.some.inj e))
                have hB8 := hB7.grown hg8 hB7.size (fun j hj => by cases hj; exact HNE.out.2.2.2.1)
                have HREL : Hid (MI (D2.put (Lit.int .i64 (v + x.value)) (.lit (.int .i64 (t + x.lasts)))) (updD gg (v + x.value) (t + x.lasts)) ∧ (updD gg (v + x.value) (t + x.lasts)) = stepD (qS S R) a x (comeD (fun z => left z && !z.sameKey (Lit.int .i64 v)) ff)) := ⟨HMI8.out, HEQ.out⟩
                go_roundw
                case rel => exact ⟨_, cnt1, (nn2 + 1), _, _, hrg8, by omega, hown8, by omega, HREL.out, hx8, hB8⟩
                case measure => rw [hrg8.left_eq, hrg.left_eq]; exact hlt1
              have hcm : decide (t + x.lasts < r2) = false := decide_eq_false hlt2
              have HEQ2 : Hid (gg = stepD (qS S R) a x (comeD (fun z => left z && !z.sameKey (Lit.int .i64 v)) ff)) := by
                show _ = _
                rw [← HEQ.out]
                exact upd_keep hg2 hlt2
              have HG2 := Lib.hid hg2
              clear hg2 hlt2
              go_wp2_with (first
                | (at_lookup; refine wpList_lookup_own_ok_int _ rfl _ _ 168 rfl 3 3 .i64 lawI Tryd.underlying168 Tryd.underlying3 (zeroI _) nb nn2 D2 rfl hown7 _ (Lit.int .i64 (v + x.value)) rfl (keyOf_int_mk Tryd.underlying3 hwk2) ?_; intro c1 hat1 hwc1; obtain rfl := hMI.look HG2.out hat1)
                | fail)
              have hrg8 := hrg7
              have hown8 := hown7
              have hx8 := hx7
              have hB8 := hB7
              have HREL : Hid (MI D2 gg ∧ gg = stepD (qS S R) a x (comeD (fun z => left z && !z.sameKey (Lit.int .i64 v)) ff)) := ⟨hMI, HEQ2.out⟩
              go_roundw
              case rel => exact ⟨_, cnt1, nn2, D2, _, hrg8, by omega, hown8, by omega, HREL.out, hx8, hB8⟩
              case measure => rw [hrg8.left_eq, hrg.left_eq]; exact hlt1
    obtain rfl : m = j := by omega
    have gj : decide ((m : Int) < (m : Int)) = false := by simp
    have hxe : xs.drop m = [] := List.drop_eq_nil_of_le (by have := HLX0.out; omega)
    have hpd := hpp.out.2.1
    rw [hxe] at hpd
    have HPD := Lib.hid hpd
    have HPM := Lib.hid hpp.out.1
    have HPB := Lib.hid hpp.out.2.2
    have hbl := hown.lt
    clear hpp hpd hxe
    go_wp2_with (first
      | (at_range; refine wpList_range_own _ rfl _ 168 rfl 3 3 lawI Tryd.underlying168 _ b nn D rfl hown ?_; intro w3 hrg0 hg0 hs0)
      | fail)
    go_frame
    have hb3 : Below w.heap.size w w3 := hbr.grown hg0 hbr.size (fun j hj => by cases hj)
    obtain ⟨rb, hrb⟩ : ∃ rb, rb = wr.heap.size := ⟨_, rfl⟩
    have HRB : Hid (w.heap.size ≤ rb) := by show _ ≤ _; rw [hrb]; exact hbr.size
    rw [← hrb] at hrg0 ⊢
    clear hg0 hs0 hrb hown hbr hbl
    go_loopw [21] (fun mx wr => ∃ (left : Lit → Bool) (cnt : Nat) (y : Int), mx = .int .i64 y ∧ wr.ranges (H := Unit) Tryd.prog 3 (plainElem Tryd.prog 3) b rb nn D left cnt ∧ Hid ((y = 0 ∨ ∃ t, ff y = some t) ∧ 0 ≤ y ∧ ∀ v t, ff v = some t → left (kI v) = false → v ≤ y) ∧ Below w.heap.size w wr)
      (fun _ wr => wr.rangeLeft b rb)
    case atStart => exact ⟨_, _, 0, rfl, hrg0, ⟨.inl rfl, Int.le_refl _, fun v t hf hl => by rw [(HPM.out.s v t hf).1] at hl; cases hl⟩, hb3⟩
    clear hrg0 hb3
    case round =>
      obtain ⟨left, cnt, y, rfl, hrg, hy, hbr⟩ := hrel
      go_wp2_with (first
        | (at_next; refine wpList_next_ranges_ii _ rfl _ rfl 3 3 .i64 .i64 lawI Tryd.underlying3 Tryd.underlying3 b rb nn _ _ _ rfl hrg ?_ ?_)
        | fail)
      · intro hc0 hl0
        have hyB : y = B := by
          obtain ⟨h1, h2, h3⟩ := hy.out
          obtain ⟨v, t, hv, hb⟩ := HPD.out.e
          rw [bv] at hb
          have h4 := h3 v t hv (hl0 _)
          rcases h1 with h1 | ⟨t', ht'⟩
          · have := HB0.out
            omega
          · have h5 := HPD.out.u y t' ht'
            rw [bv] at h5
            omega
        rw [hyB]
        clear hyB
        go_wp2_with fail
        go_ret
        exact ⟨rfl, hbr⟩
      · intro v t w5 cnt1 hwx hwc hlx hat hrg1 hlt1 hg1 hs1 hen
        have HF : Hid (ff v = some t) := HPM.out.met hat
        have hB5 : Below w.heap.size w w5 := hbr.grown hg1 hbr.size (fun j hj => by cases hj; exact HRB.out)
        obtain ⟨M, hM⟩ : ∃ M, M = max y v := ⟨_, rfl⟩
        have hi : (if y < v then v else y) = M := by rw [hM, Int.max_def]; split <;> split <;> omega
        have HY : Hid ((M = 0 ∨ ∃ t, ff M = some t) ∧ 0 ≤ M ∧ ∀ u t, ff u = some t → (fun z : Lit => left z && !z.sameKey (.int .i64 v)) (kI u) = false → u ≤ M) := by
          obtain ⟨h1, h2, h3⟩ := hy.out
          refine ⟨?_, by omega, fun u r hu hl => ?_⟩
          · by_cases hyv : y ≤ v
            · rw [show M = v by omega]
              exact .inr ⟨t, HF.out⟩
            · rw [show M = y by omega]
              exact h1
          · by_cases huv : u = v
            · omega
            · have e : (left (kI u) && !(kI u).sameKey (kI v)) = left (kI u) := by rw [kI_same, decide_eq_false huv, Bool.not_false, Bool.and_true]
              have h4 := h3 u r hu (e.symm.trans hl)
              omega
        clear hat hlx hy hg1 hbr hM
        go_wp2_with fail
        go_roundw
        case rel => exact ⟨_, cnt1, M, rfl, hrg1, HY, hB5⟩
        case measure => rw [hrg1.left_eq, hrg.left_eq]; exact hlt1
end Go.Proofs.YtijcbfhlhgjedaaDoor
