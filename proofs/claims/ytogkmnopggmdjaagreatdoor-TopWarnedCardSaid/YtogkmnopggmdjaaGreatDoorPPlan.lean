/- pace.Plan: the latest plan, or the clash. -/
import Derived.WalkMore
import Derived.LoopN
import Derived.Test.YtogkmnopggmdjaaGreatDoorPBeg
import Derived.Test.YtogkmnopggmdjaaGreatDoorPBegB
import Derived.Test.YtogkmnopggmdjaaGreatDoorPRoom
namespace Go.Proofs.YtogkmnopggmdjaaGreatDoor
open Go.RowKit Go.Shelf Go.Sort Go.Proofs

/-- The most sum of times up to a place. -/
def sS (S : Spd) (R : Road) (p : Int) : Int := tSl S R.ps p.toNat
/-- What is known when the first k calls have been seen. -/
def plAt (Q Mo : Int → Int) (cs : List CallR) (k : Nat) (L : List Int) (er : Option Nat) : Prop :=
  planA Q Mo 0 cs = match planA Q Mo k (cs.drop k) with | .inl x => .inl x | .inr (l, e) => .inr (L ++ l, er.or e)
theorem plAt_start (Q Mo : Int → Int) (cs : List CallR) : plAt Q Mo cs 0 [] none := by
  unfold plAt
  rw [List.drop_zero]
  cases planA Q Mo 0 cs with
  | inl x => rfl
  | inr x => obtain ⟨l, e⟩ := x; rfl
theorem plAt_late {Q Mo : Int → Int} {cs : List CallR} {k : Nat} {L : List Int} {er : Option Nat} (h : plAt Q Mo cs k L er) {c : CallR} {rest : List CallR} (hd : cs.drop k = c :: rest) {i : Nat} (hl : lateM Q (c :: rest) = some i) :
    planA Q Mo 0 cs = .inl (k, k + i) := by
  unfold plAt at h
  rw [hd] at h
  simp only [planA, hl] at h
  exact h
theorem plAt_step {Q Mo : Int → Int} {cs : List CallR} {k : Nat} {L : List Int} {er : Option Nat} (h : plAt Q Mo cs k L er) {c : CallR} {rest : List CallR} (hd : cs.drop k = c :: rest) (hl : lateM Q (c :: rest) = none) :
    plAt Q Mo cs (k + 1) (L ++ [(trigM Q c rest : Int)]) (er.or (if Mo (trigM Q c rest) + c.ahead < Mo c.place then some k else none)) := by
  have hd1 : cs.drop (k + 1) = rest := by rw [← List.drop_drop, hd]; rfl
  unfold plAt at h ⊢
  rw [hd] at h
  rw [hd1]
  simp only [planA, hl] at h
  rw [h]
  cases planA Q Mo (k + 1) rest with
  | inl x => rfl
  | inr x =>
    obtain ⟨l, e⟩ := x
    simp only [List.append_assoc, List.singleton_append]
    congr 2
    cases er with
    | some j => rfl
    | none =>
      simp only [Option.none_or]
      split <;> rfl
theorem plAt_end {Q Mo : Int → Int} {cs : List CallR} {k : Nat} {L : List Int} {er : Option Nat} (h : plAt Q Mo cs k L er) (hk : cs.length ≤ k) : planA Q Mo 0 cs = .inr (L, er) := by
  unfold plAt at h
  rw [List.drop_eq_nil_iff.2 hk] at h
  simp only [planA, List.append_nil, Option.or_none] at h
  exact h
theorem late_room {Q : Int → Int} {cs : List CallR} (h : lateM Q cs = none) : 0 ≤ roomM Q cs := by
  refine (le_minL _ _).2 ⟨by decide, fun y hy => ?_⟩
  have := List.findIdx?_eq_none_iff.1 h y hy
  simpa using this
def earlyI (er : Option Nat) : Int := match er with | none => -1 | some j => (j : Int)
theorem trig_last (S : Spd) (R : Road) (c : CallR) (rest : List CallR) : lastN (fun p => decide (tQ S R.ps p ≤ roomM (qS S R) (c :: rest))) c.place.toNat = trigM (qS S R) c rest := by
  unfold trigM qS
  simp only [Int.toNat_natCast]
def PlanV (S : Spd) (R : Road) (cs : List CallR) (w : World) (e : Ending) (w' : World) : Prop :=
  ∃ A n c, e = .returned (.tuple #[.slice A n c, .agg #[.int .i64 (planR (qS S R) (sS S R) cs).2.1.first, .int .i64 (planR (qS S R) (sS S R) cs).2.1.last, .bool (planR (qS S R) (sS S R) cs).2.1.early], .int .i64 (planR (qS S R) (sS S R) cs).2.2]) ∧
    SL iC 1 w' w'.heap.size A n (planR (qS S R) (sS S R) cs).1 ∧ Below w.heap.size w w'
theorem infoI : (Tryz.prog.info? 3).map (fun i => (i.zero, i.size, i.bytes)) = some (some (.int .i64 0), 1, 8) := by kernel_rfl
set_option maxRecDepth 100000 in
set_option maxHeartbeats 8000000 in
theorem Plan_any (pa : Option Addr) (pn pc : Nat) (ca : Option Addr) (cn cc : Nat) (ja : Option Addr) (jn jc : Nat) (R : Road) (ra : Option Addr) (rn rc : Nat) (sa : Option Addr) (sn sc : Nat) (S : Spd) (ka : Option Addr) (kn kc : Nat) (cs : List CallR) (w : World)
    (h : RD w w.heap.size pa pn ca cn ja jn R) (hD : SD w w.heap.size ra rn sa sn S) (hK : SL caC 5 w w.heap.size ka kn cs) (hv : OK R) (hS : SOK S) (hc : COK (sumL R.ps) cs) :
    Calls Tryz.prog 17 #[.agg #[.slice pa pn pc, .slice ca cn cc, .slice ja jn jc], .agg #[.int .i64 S.least, .int .i64 S.most, .slice ra rn rc, .slice sa sn sc], .slice ka kn kc] w (PlanV S R cs w) := by
  have HR := Lib.hid h
  have HD := Lib.hid hD
  have HK := Lib.hid hK
  have HV := Lib.hid hv
  have HS := Lib.hid hS
  have HC := Lib.hid hc
  have hkn : kn ≤ 300 := by rw [hK.1]; exact hc.l1
  clear h hD hK hv hS hc
  obtain ⟨w0, hw0⟩ : ∃ w0, w0 = ((w.alloc (.cells #[.slice pa pn pc, .slice ca cn cc, .slice ja jn jc] 26)).alloc (.cells #[.int .i64 S.least, .int .i64 S.most, .slice ra rn rc, .slice sa sn sc] 60)).alloc (.cells #[.int .i64 0, .int .i64 0, .bool false] 64) := ⟨_, rfl⟩
  have hB0 : Below w.heap.size w w0 := by rw [hw0]; exact (((Below.refl w.heap.size w).alloc (Nat.le_refl _) _).alloc (by simp) _).alloc (by simp; omega) _
  have hX0 : BK w0 w.heap.size 26 #[.slice pa pn pc, .slice ca cn cc, .slice ja jn jc] := by rw [hw0]; exact ((BK.new w _ _).alloc _).alloc _
  have hY0 : BK w0 (w.heap.size + 1) 60 #[.int .i64 S.least, .int .i64 S.most, .slice ra rn rc, .slice sa sn sc] := by
    rw [hw0]; have := BK.new (w.alloc (.cells #[.slice pa pn pc, .slice ca cn cc, .slice ja jn jc] 26)) 60 #[.int .i64 S.least, .int .i64 S.most, .slice ra rn rc, .slice sa sn sc]; rw [World.size_alloc] at this; exact this.alloc _
  have hZ0 : BK w0 (w.heap.size + 2) 64 #[.int .i64 0, .int .i64 0, .bool false] := by
    rw [hw0]; have := BK.new ((w.alloc (.cells #[.slice pa pn pc, .slice ca cn cc, .slice ja jn jc] 26)).alloc (.cells #[.int .i64 S.least, .int .i64 S.most, .slice ra rn rc, .slice sa sn sc] 60)) 64 #[.int .i64 0, .int .i64 0, .bool false]; rw [World.size_alloc, World.size_alloc] at this; exact this
  go_enter Tryz.func17, Tryz.ntmps17
  go_wp2_with fail
  rw [← hw0]
  clear hw0
  refine wp_scope_straight ?_
  have x0 := hX0.cell 0
  have x1 := hX0.cell 1
  have x2 := hX0.cell 2
  have y0 := hY0.cell 0
  have y1 := hY0.cell 1
  have y2 := hY0.cell 2
  have y3 := hY0.cell 3
  simp only [List.getElem?_toArray, List.getElem?_cons_zero, List.getElem?_cons_succ] at x0 x1 x2 y0 y1 y2 y3
  go_wp2_with fail
  clear x0 x1 x2 y0 y1 y2 y3
  refine (begin_any pa pn pc ca cn cc ja jn jc R ra rn rc sa sn sc S w0 (HR.out.grow hB0 hB0.size) (HD.out.grow hB0 hB0.size) HV.out HS.out).mono ?_
  rintro e w1 ⟨g, ta, tc, N, rfl, hTS, hk0⟩
  have hB1 := hB0.trans (hk0.mono hB0.size)
  have hZ1 := hZ0.below hk0 hZ0.lt
  have HTS := Lib.hid hTS
  have hN1 : N ≤ 100000 := by have := hTS.n; have := HV.out.n1; omega
  have HCN : Hid (COK N cs) := by have := HC.out; rw [hTS.n] at this; exact this
  have hzZ := hZ0.lt
  have hz1 := hk0.size
  have hgl := hTS.lt
  clear hX0 hY0 hZ0 hk0 hB0 hTS
  go_wp2_with fail
  obtain ⟨w2, hw2⟩ : ∃ w2, w2 = w1.alloc (.cells #[.pointer (some ⟨g, 0, none⟩)] 114) := ⟨_, rfl⟩
  have hb12 : Below w1.heap.size w1 w2 := by rw [hw2]; exact (Below.refl w1.heap.size w1).alloc (Nat.le_refl _) _
  have hT2 : BK w2 w1.heap.size 114 #[.pointer (some ⟨g, 0, none⟩)] := by rw [hw2]; exact BK.new w1 _ _
  have hZ2 := hZ1.below hb12 hZ1.lt
  have hB2 := hB1.trans (hb12.mono hB1.size)
  have HT2 := Lib.hid (HTS.out.grow hb12 hb12.size)
  rw [← hw2]
  clear hw2 hZ1 HTS hB1
  have t0 := hT2.cell 0
  simp only [List.getElem?_toArray, List.getElem?_cons_zero] at t0
  go_wp2_with fail
  refine (calls_any ka kn kc cs g ta tc N S R w2 HT2.out (HK.out.grow hB2 hB2.size) (by omega) (by omega)).mono ?_
  rintro e w3 ⟨rfl, hk0⟩
  rw [cB_ok HCN.out]
  have hB3 := hB2.trans (hk0.mono hB2.size)
  have hZ3 := hZ2.below hk0 hZ2.lt
  have hT3 := hT2.below hk0 hT2.lt
  have HT3 := Lib.hid (HT2.out.grow hk0 hk0.size)
  have hz3 := hT3.lt
  clear hk0 hZ2 hT2 HT2 hB2 t0 hb12
  go_wp2_with fail
  refine wp_label ?_
  go_wp2_with fail
  obtain ⟨w4, hw4⟩ : ∃ w4, w4 = w3.alloc (.cells #[.int .i64 0, .int .i64 0, .bool false] 64) := ⟨_, rfl⟩
  have hb34 : Below w3.heap.size w3 w4 := by rw [hw4]; exact (Below.refl w3.heap.size w3).alloc (Nat.le_refl _) _
  have hD4 : BK w4 w3.heap.size 64 #[.int .i64 0, .int .i64 0, .bool false] := by rw [hw4]; exact BK.new w3 _ _
  have hZ4 := hZ3.below hb34 hZ3.lt
  have hT4 := hT3.below hb34 hT3.lt
  have hB4 := hB3.trans (hb34.mono hB3.size)
  have HT4 := Lib.hid (HT3.out.grow hb34 hb34.size)
  rw [← hw4]
  clear hw4 hZ3 hT3 HT3 hB3 hb34
  have hzD := hD4.lt
  have HP := Lib.hid (plAt_start (qS S R) (sS S R) cs)
  have HLK := Lib.hid HK.out.1
  have hmo : Tryz.prog.follows .mixedOrders = true := by kernel_rfl
  refine wp_loop_rounds 1 ?_
  rw [rounds_succ]
  go_wp2_with fail
  go_loopw [36, 11, 12] (fun i o ea wr => ∃ (k : Nat) (L : List Int) (er : Option Nat) (A : Option Addr) (n c : Nat), k ≤ kn ∧ i = .int .i64 k ∧ o = .slice A n c ∧ ea = .int .i64 (earlyI er) ∧ n ≤ k ∧ Hid (plAt (qS S R) (sS S R) cs k L er) ∧ OW iC 1 3 w4.heap.size wr A n c L ∧ Below w4.heap.size w4 wr)
    (fun i _ _ _ => kn - (intOf i).toNat)
  case atStart => exact ⟨0, [], none, none, 0, 0, Nat.zero_le _, rfl, rfl, rfl, Nat.le_refl _, HP.out, OW.nil_, Below.refl _ _⟩
  case round =>
    obtain ⟨k, L, er, A, n, c, hk, rfl, rfl, rfl, hnk, hpl, hO, hbr⟩ := hrel
    have hDr := hD4.below hbr hD4.lt
    have hTr := hT4.below hbr hT4.lt
    have hZr := hZ4.below hbr hZ4.lt
    by_cases hlt : k < kn
    · have hkl : k < cs.length := by rw [← HLK.out]; exact hlt
      have hBr := hB4.trans (hbr.mono hB4.size)
      obtain ⟨b, off, hA, hbB, c0, c1, c2, c3, c4⟩ := KS5.at_ (HK.out.grow hBr hBr.size) (k := k) hkl
      have hdr := Lib.hid (List.drop_eq_getElem_cons hkl)
      have hbd := kAt_bd HCN.out hkl
      obtain ⟨rest, hrest⟩ : ∃ rest, rest = cs.drop (k + 1) := ⟨_, rfl⟩
      rw [← hrest] at hdr
      clear hrest
      generalize cs[k]'hkl = x at c0 c1 c2 c3 c4 hdr hbd
      clear hkl
      obtain ⟨⟨p1, p2⟩, ⟨p3, p4⟩, ⟨p5, p6⟩, p7, p8⟩ := hbd
      have hi1 : (0 : Int) ≤ (k : Int) := by omega
      have hi2 : (k : Int) < (kn : Int) := by omega
      subst hA
      have t0 := hTr.cell 0
      simp only [List.getElem?_toArray, List.getElem?_cons_zero] at t0
      have hzT := hTr.lt
      go_wp2_with fail
      obtain ⟨wA, hwA⟩ : ∃ wA, wA = wr.alloc (.cells #[.int .i64 x.place, .int .i64 x.lasts, .int .i64 x.lead, .int .i64 x.ahead, .int .i64 x.value] 49) := ⟨_, rfl⟩
      have hbA : Below wr.heap.size wr wA := by rw [hwA]; exact (Below.refl wr.heap.size wr).alloc (Nat.le_refl _) _
      have hxA : BK wA wr.heap.size 49 #[.int .i64 x.place, .int .i64 x.lasts, .int .i64 x.lead, .int .i64 x.ahead, .int .i64 x.value] := by rw [hwA]; exact BK.new wr _ _
      rw [← hwA]
      clear hwA c0 c1 c2 c3 c4 t0
      have hb4A := hbr.trans (hbA.mono hbr.size)
      have hBA := hB4.trans (hb4A.mono hB4.size)
      refine (room_any k _ kn kc cs g ta tc N S R wA (HT4.out.grow hb4A hb4A.size) (HK.out.grow hBA hBA.size) HCN.out HS.out HV.out hk).mono ?_
      rintro e wB ⟨rfl, hmB⟩
      have hbAB : Below wA.heap.size wA wB := by obtain ⟨m, rfl⟩ := hmB; exact below_drewN (Below.refl _ _) _
      have hb4B := hb4A.trans (hbAB.mono hb4A.size)
      have hxB := hxA.below hbAB hxA.lt
      have hDB := hD4.below hb4B hD4.lt
      have hzB := hb4B.size
      clear hmB
      rw [hdr.out]
      have hpl' := hpl.out
      cases hl : lateM (qS S R) (x :: rest) with
      | some i =>
        have hfin : Hid (planR (qS S R) (sS S R) cs = ([], ⟨(k : Int), (k : Int) + i, false⟩, 5)) := by
          show _ = _
          unfold planR
          rw [plAt_late hpl' hdr.out hl]
          simp
        have hle : lateI k (some i) = (k : Int) + i := rfl
        rw [hle]
        clear hle hl hpl hpl'
        have hge : (0 : Int) ≤ (k : Int) + i := by omega
        generalize (k : Int) + i = li at hge hfin ⊢
        generalize roomM (qS S R) (x :: rest) = rm
        have d0 := hDB.cell 0
        have d1 := hDB.cell 1
        have d2 := hDB.cell 2
        have f0 := hDB.frozen 0
        have f1 := hDB.frozen 1
        have f2 := hDB.frozen 2
        simp only [List.getElem?_toArray, List.getElem?_cons_zero, List.getElem?_cons_succ] at d0 d1 d2
        have hlD := hDB.lt
        go_wp2_with fail
        obtain ⟨w5, hw5⟩ : ∃ w5, w5 = (((wB.setCell ⟨w3.heap.size, 0, none⟩ (.int .i64 (k : Int))).setCell ⟨w3.heap.size, 1, none⟩ (.int .i64 li)).setCell ⟨w3.heap.size, 2, none⟩ (.bool false)).alloc (.cells #[.int .i64 rm] 3) := ⟨_, rfl⟩
        have hD5 : BK w5 w3.heap.size 64 #[.int .i64 (k : Int), .int .i64 li, .bool false] := by rw [hw5]; exact (((hDB.set_ 0 _).set_ 1 _).set_ 2 _).alloc _
        have hZ5 : BK w5 (w.heap.size + 2) 64 #[.int .i64 0, .int .i64 0, .bool false] := by
          rw [hw5]
          exact ((((hZ4.below hb4B hZ4.lt).far (p := ⟨w3.heap.size, 0, none⟩) (by simp; omega) _).far (p := ⟨w3.heap.size, 1, none⟩) (by simp; omega) _).far (p := ⟨w3.heap.size, 2, none⟩) (by simp; omega) _).alloc _
        have hB5 : Below w.heap.size w w5 := by
          rw [hw5]
          exact ((((hB4.trans (hb4B.mono hB4.size)).setCell (p := ⟨w3.heap.size, 0, none⟩) (by simp; omega) _).setCell (p := ⟨w3.heap.size, 1, none⟩) (by simp; omega) _).setCell (p := ⟨w3.heap.size, 2, none⟩) (by simp; omega) _).alloc (by simp; omega) _
        rw [← hw5]
        clear hw5 d0 d1 d2 f0 f1 f2 hlD
        have d0 := hD5.cell 0
        have d1 := hD5.cell 1
        have d2 := hD5.cell 2
        have z0 := hZ5.cell 0
        have z1 := hZ5.cell 1
        have z2 := hZ5.cell 2
        have f0 := hZ5.frozen 0
        have f1 := hZ5.frozen 1
        have f2 := hZ5.frozen 2
        have hlD := hD5.lt
        have hlZ := hZ5.lt
        simp only [List.getElem?_toArray, List.getElem?_cons_zero, List.getElem?_cons_succ] at d0 d1 d2 z0 z1 z2
        refine wp_region_qt 2 hmo (by kernel_rfl) ?_
        simp only [List.take_succ_cons, List.take_zero, List.drop_succ_cons, List.drop_zero]
        have k0 := fun d os => cell_regrown d0 d os
        have k1 := fun d os => cell_regrown d1 d os
        have k2 := fun d os => cell_regrown d2 d os
        repeat (quiet_step (fail))
        refine wpQuiet_nil ?_
        intro w6 hb6
        have hZ6 := hZ5.below hb6 hZ5.lt
        have hB6 := hB5.trans (hb6.mono hB5.size)
        clear d0 d1 d2 z0 z1 z2 f0 f1 f2 k0 k1 k2 hlD hlZ
        have z0 := hZ6.cell 0
        have z1 := hZ6.cell 1
        have z2 := hZ6.cell 2
        have f0 := hZ6.frozen 0
        have f1 := hZ6.frozen 1
        have f2 := hZ6.frozen 2
        have hlZ := hZ6.lt
        simp only [List.getElem?_toArray, List.getElem?_cons_zero, List.getElem?_cons_succ] at z0 z1 z2
        go_wp2_with fail
        clear z0 z1 z2 f0 f1 f2
        obtain ⟨w7, hw7⟩ : ∃ w7, w7 = ((w6.setCell ⟨w.heap.size + 1 + 1, 0, none⟩ (.int .i64 (k : Int))).setCell ⟨w.heap.size + 1 + 1, 1, none⟩ (.int .i64 li)).setCell ⟨w.heap.size + 1 + 1, 2, none⟩ (.bool false) := ⟨_, rfl⟩
        have hZ7 : BK w7 (w.heap.size + 1 + 1) 64 #[.int .i64 (k : Int), .int .i64 li, .bool false] := by rw [hw7]; exact ((hZ6.set_ 0 _).set_ 1 _).set_ 2 _
        have hB7 : Below w.heap.size w w7 := by
          rw [hw7]
          exact ((hB6.setCell (p := ⟨w.heap.size + 1 + 1, 0, none⟩) (by simp; omega) _).setCell (p := ⟨w.heap.size + 1 + 1, 1, none⟩) (by simp; omega) _).setCell (p := ⟨w.heap.size + 1 + 1, 2, none⟩) (by simp; omega) _
        rw [← hw7]
        clear hw7
        have z0 := hZ7.cell 0
        have z1 := hZ7.cell 1
        have z2 := hZ7.cell 2
        simp only [List.getElem?_toArray, List.getElem?_cons_zero, List.getElem?_cons_succ] at z0 z1 z2
        rw [Exit.noGoto_ret]
        refine bodyPost_ret (v := .tuple #[.slice none 0 0, .agg #[.int .i64 (k : Int), .int .i64 li, .bool false], .int .i64 5]) (by simp [results, Tryz.results17, go_sem, z0, z1, z2]) rfl ⟨none, 0, 0, by rw [hfin.out], by rw [hfin.out]; exact SL.nil_, hB7⟩
      | none =>
        have hle : lateI k (none : Option Nat) = -1 := rfl
        rw [hle]
        have hrm := late_room hl
        have hst := plAt_step hpl' hdr.out hl
        obtain ⟨q, hq⟩ : ∃ q : Nat, x.place = (q : Int) := ⟨x.place.toNat, by omega⟩
        have htr := trig_last S R x rest
        rw [show x.place.toNat = q by omega] at htr
        have hqN : q ≤ N := by omega
        obtain ⟨rm, hrme⟩ : ∃ rm, rm = roomM (qS S R) (x :: rest) := ⟨_, rfl⟩
        rw [← hrme] at hrm htr ⊢
        obtain ⟨gq, hgq⟩ : ∃ gq, gq = trigM (qS S R) x rest := ⟨_, rfl⟩
        rw [← hgq] at hst htr
        have hgN : gq ≤ N := by rw [← htr]; exact Nat.le_trans (lastN_le _ _) hqN
        have HST := Lib.hid hst
        have HTR := Lib.hid htr
        have e1 : sS S R (gq : Int) = tSl S R.ps gq := rfl
        have e2 : sS S R x.place = tSl S R.ps q := by unfold sS; rw [show x.place.toNat = q by omega]
        rw [e1, e2] at hst
        have HST := Lib.hid hst
        clear hle hl hpl hpl' hrme hgq htr hst e1 e2
        rw [hq] at hxB
        have x0 := hxB.cell 0
        have x3 := hxB.cell 3
        simp only [List.getElem?_toArray, List.getElem?_cons_zero, List.getElem?_cons_succ] at x0 x3
        have hlx := hxB.lt
        go_wp2_with fail
        obtain ⟨wC, hwC⟩ : ∃ wC, wC = wB.alloc (.cells #[.int .i64 rm] 3) := ⟨_, rfl⟩
        have hbBC : Below wB.heap.size wB wC := by rw [hwC]; exact (Below.refl wB.heap.size wB).alloc (Nat.le_refl _) _
        have hRC : BK wC wB.heap.size 3 #[.int .i64 rm] := by rw [hwC]; exact BK.new wB _ _
        rw [← hwC]
        clear hwC x0 x3
        have hb4C := hb4B.trans (hbBC.mono hb4B.size)
        have hxC := hxB.below hbBC hxB.lt
        have hTC := hT4.below hb4C hT4.lt
        have hRl := hRC.lt
        have hTl := hTC.lt
        refine (last_any q w1.heap.size wB.heap.size rm g ta tc N S R wC (HT4.out.grow hb4C hb4C.size) (hTC.cell 0) (hRC.cell 0) hTl hRl HS.out HV.out hqN hrm).mono ?_
        rintro e wD ⟨rfl, hmD⟩
        rw [HTR.out]
        have hbCD : Below wC.heap.size wC wD := by obtain ⟨m, rfl⟩ := hmD; exact below_drewN (Below.refl _ _) _
        clear hmD
        have hb4D := hb4C.trans (hbCD.mono hb4C.size)
        have hxD := hxC.below hbCD hxC.lt
        have hTD := hTC.below hbCD hTC.lt
        have HTD := Lib.hid (HT4.out.grow hb4D hb4D.size)
        have HTN : Hid (∀ m, TS (wD.drewN m) (wD.drewN m).heap.size g ta tc N S R) := fun m => HTD.out.grow (below_drewN (Below.refl _ _) m) (Nat.le_refl _)
        have t0 := hTD.cell 0
        have x0 := hxD.cell 0
        have x3 := hxD.cell 3
        simp only [List.getElem?_toArray, List.getElem?_cons_zero, List.getElem?_cons_succ] at t0 x0 x3
        have hlx := hxD.lt
        have hlt2 := hTD.lt
        clear hxA hxB hxC hTC hRC hDB hRl hTl
        have hv1 := tSl_bd HS.out HV.out gq
        have hv2 := tSl_bd HS.out HV.out q
        have HBW := Lib.hid (fun m => between1_any gq q g ta tc N S R (wD.drewN m) (HTN.out m) HS.out HV.out hgN hqN)
        obtain ⟨u, hu⟩ : ∃ u, u = tSl S R.ps gq := ⟨_, rfl⟩
        obtain ⟨v, hv⟩ : ∃ v, v = tSl S R.ps q := ⟨_, rfl⟩
        rw [← hu] at HST hv1 HBW
        rw [← hv] at HST hv2 HBW
        clear hu hv
        obtain ⟨v1, v2⟩ := hv1
        obtain ⟨v3, v4⟩ := hv2
        cases er with
        | some j0 =>
          have hnew : Hid (plAt (qS S R) (sS S R) cs (k + 1) (L ++ [(gq : Int)]) (some j0)) := HST.out
          have hea : earlyI (some j0) = (j0 : Int) := rfl
          rw [hea]
          have hg0 : decide ((j0 : Int) < 0) = false := by simp
          clear hea
          go_wp2_with fail
          go_quiet ((go_at_call 55; exact Calls.quiet_of (HBW.out _)))
          obtain ⟨wE, hwE⟩ : ∃ wE, wE = wD.drewN nq := ⟨_, rfl⟩
          have hbDE : Below wD.heap.size wD wE := by rw [hwE]; exact below_drewN (Below.refl _ _) _
          rw [← hwE]
          clear hwE t0 x0 x3
          have hb4E := hb4D.trans (hbDE.mono hb4D.size)
          have hOE := hO.call ((hbA.trans (hbAB.mono hbA.size)).trans (((hbBC.trans (hbCD.mono hbBC.size)).trans (hbDE.mono (Nat.le_trans hbBC.size hbCD.size))).mono (Nat.le_trans hbA.size hbAB.size)))
          have hzE := hb4E.size
          have hNew : BK (wE.alloc (.cells #[.int .i64 (gq : Int)] 3)) wE.heap.size 3 #[.int .i64 (gq : Int)] := BK.new wE _ _
          go_wp2_with (at_builtin; refine wpList_app rfl _ _ 27 rfl w4.heap.size 3 _ 1 8 Tryz.underlying27 infoI rfl (by decide) iC A n c L rfl (hOE.alloc _) (gq : Int) #[.int .i64 (gq : Int)] rfl rfl 3 wE.heap.size rfl hNew (by simp [iC, Value.oneCell']) (by omega) (by omega) (by simp; omega) ?_; intro g' c' w8 hap; have HAP := Lib.hid hap; clear hap)
          have hap := HAP.out
          have hbN : Below w4.heap.size w4 w8 := (hb4E.alloc (by omega) _).trans hap.bel
          go_roundw
          case rel => exact ⟨k + 1, L ++ [(gq : Int)], some j0, some ⟨g', 0, none⟩, n + 1, c', by omega, by go_num, rfl, rfl, by omega, hnew.out, hap.own, hbN⟩
          case measure => simp [intOf]; omega
        | none =>
          have hea : earlyI none = -1 := rfl
          rw [hea]
          clear hea
          by_cases hgt : u + x.ahead < v
          · have hnew : Hid (plAt (qS S R) (sS S R) cs (k + 1) (L ++ [(gq : Int)]) (some k)) := by have := HST.out; rw [if_pos hgt] at this; exact this
            have hg0 : decide (x.ahead < v - u) = true := by simp; omega
            clear hgt
            go_wp2_with fail
            go_quiet ((go_at_call 55; exact Calls.quiet_of (HBW.out _)))
            obtain ⟨wE, hwE⟩ : ∃ wE, wE = wD.drewN nq := ⟨_, rfl⟩
            have hbDE : Below wD.heap.size wD wE := by rw [hwE]; exact below_drewN (Below.refl _ _) _
            rw [← hwE]
            clear hwE t0 x0 x3
            have hb4E := hb4D.trans (hbDE.mono hb4D.size)
            have hOE := hO.call ((hbA.trans (hbAB.mono hbA.size)).trans (((hbBC.trans (hbCD.mono hbBC.size)).trans (hbDE.mono (Nat.le_trans hbBC.size hbCD.size))).mono (Nat.le_trans hbA.size hbAB.size)))
            have hzE := hb4E.size
            have hNew : BK (wE.alloc (.cells #[.int .i64 (gq : Int)] 3)) wE.heap.size 3 #[.int .i64 (gq : Int)] := BK.new wE _ _
            go_wp2_with (at_builtin; refine wpList_app rfl _ _ 27 rfl w4.heap.size 3 _ 1 8 Tryz.underlying27 infoI rfl (by decide) iC A n c L rfl (hOE.alloc _) (gq : Int) #[.int .i64 (gq : Int)] rfl rfl 3 wE.heap.size rfl hNew (by simp [iC, Value.oneCell']) (by omega) (by omega) (by simp; omega) ?_; intro g' c' w8 hap; have HAP := Lib.hid hap; clear hap)
            have hap := HAP.out
            have hbN : Below w4.heap.size w4 w8 := (hb4E.alloc (by omega) _).trans hap.bel
            go_roundw
            case rel => exact ⟨k + 1, L ++ [(gq : Int)], some k, some ⟨g', 0, none⟩, n + 1, c', by omega, by go_num, rfl, rfl, by omega, hnew.out, hap.own, hbN⟩
            case measure => simp [intOf]; omega
          · have hnew : Hid (plAt (qS S R) (sS S R) cs (k + 1) (L ++ [(gq : Int)]) none) := by have := HST.out; rw [if_neg hgt] at this; exact this
            have hg0 : decide (x.ahead < v - u) = false := by simp; omega
            clear hgt
            go_wp2_with fail
            go_quiet ((go_at_call 55; exact Calls.quiet_of (HBW.out _)))
            obtain ⟨wE, hwE⟩ : ∃ wE, wE = wD.drewN nq := ⟨_, rfl⟩
            have hbDE : Below wD.heap.size wD wE := by rw [hwE]; exact below_drewN (Below.refl _ _) _
            rw [← hwE]
            clear hwE t0 x0 x3
            have hb4E := hb4D.trans (hbDE.mono hb4D.size)
            have hOE := hO.call ((hbA.trans (hbAB.mono hbA.size)).trans (((hbBC.trans (hbCD.mono hbBC.size)).trans (hbDE.mono (Nat.le_trans hbBC.size hbCD.size))).mono (Nat.le_trans hbA.size hbAB.size)))
            have hzE := hb4E.size
            have hNew : BK (wE.alloc (.cells #[.int .i64 (gq : Int)] 3)) wE.heap.size 3 #[.int .i64 (gq : Int)] := BK.new wE _ _
            go_wp2_with (at_builtin; refine wpList_app rfl _ _ 27 rfl w4.heap.size 3 _ 1 8 Tryz.underlying27 infoI rfl (by decide) iC A n c L rfl (hOE.alloc _) (gq : Int) #[.int .i64 (gq : Int)] rfl rfl 3 wE.heap.size rfl hNew (by simp [iC, Value.oneCell']) (by omega) (by omega) (by simp; omega) ?_; intro g' c' w8 hap; have HAP := Lib.hid hap; clear hap)
            have hap := HAP.out
            have hbN : Below w4.heap.size w4 w8 := (hb4E.alloc (by omega) _).trans hap.bel
            go_roundw
            case rel => exact ⟨k + 1, L ++ [(gq : Int)], none, some ⟨g', 0, none⟩, n + 1, c', by omega, by go_num, rfl, rfl, by omega, hnew.out, hap.own, hbN⟩
            case measure => simp [intOf]; omega
    · obtain rfl : k = kn := by omega
      have hpe := plAt_end hpl.out (by rw [← HLK.out]; exact Nat.le_refl _)
      have hzB := hbr.size
      have hBr := hB4.trans (hbr.mono hB4.size)
      cases er with
      | none =>
        have hfin : Hid (planR (qS S R) (sS S R) cs = (L, ⟨0, 0, false⟩, 0)) := by show _ = _; unfold planR; rw [hpe]
        have hea : earlyI none = -1 := rfl
        rw [hea]
        clear hea hpe hpl
        have d0 := hDr.cell 0
        have d1 := hDr.cell 1
        have d2 := hDr.cell 2
        simp only [List.getElem?_toArray, List.getElem?_cons_zero, List.getElem?_cons_succ] at d0 d1 d2
        have hlD := hDr.lt
        go_wp2_with fail
        have hD5 := hDr
        have hZ5 := hZr
        have hB5 := hBr
        clear d0 d1 d2 hlD
        obtain ⟨w5, hw5⟩ : ∃ w5, w5 = wr := ⟨_, rfl⟩
        rw [← hw5] at hD5 hZ5 hB5 ⊢
        have hO5 := hO
        rw [← hw5] at hO5
        clear hw5
        have d0 := hD5.cell 0
        have d1 := hD5.cell 1
        have d2 := hD5.cell 2
        have z0 := hZ5.cell 0
        have z1 := hZ5.cell 1
        have z2 := hZ5.cell 2
        have f0 := hZ5.frozen 0
        have f1 := hZ5.frozen 1
        have f2 := hZ5.frozen 2
        have hlD := hD5.lt
        have hlZ := hZ5.lt
        simp only [List.getElem?_toArray, List.getElem?_cons_zero, List.getElem?_cons_succ] at d0 d1 d2 z0 z1 z2
        refine wp_region_qt 3 hmo (by kernel_rfl) ?_
        simp only [List.take_succ_cons, List.take_zero, List.drop_succ_cons, List.drop_zero]
        have k0 := fun d os => cell_regrown d0 d os
        have k1 := fun d os => cell_regrown d1 d os
        have k2 := fun d os => cell_regrown d2 d os
        repeat (quiet_step (fail))
        refine wpQuiet_nil ?_
        intro w6 hb6
        have hO6 := hO5.call hb6
        have hZ6 := hZ5.below hb6 hZ5.lt
        have hB6 := hB5.trans (hb6.mono hB5.size)
        clear d0 d1 d2 z0 z1 z2 f0 f1 f2 k0 k1 k2 hlD hlZ
        have z0 := hZ6.cell 0
        have z1 := hZ6.cell 1
        have z2 := hZ6.cell 2
        have f0 := hZ6.frozen 0
        have f1 := hZ6.frozen 1
        have f2 := hZ6.frozen 2
        have hlZ := hZ6.lt
        simp only [List.getElem?_toArray, List.getElem?_cons_zero, List.getElem?_cons_succ] at z0 z1 z2
        go_wp2_with fail
        clear z0 z1 z2 f0 f1 f2
        obtain ⟨w7, hw7⟩ : ∃ w7, w7 = ((w6.setCell ⟨w.heap.size + 1 + 1, 0, none⟩ (.int .i64 0)).setCell ⟨w.heap.size + 1 + 1, 1, none⟩ (.int .i64 0)).setCell ⟨w.heap.size + 1 + 1, 2, none⟩ (.bool false) := ⟨_, rfl⟩
        have hZ7 : BK w7 (w.heap.size + 1 + 1) 64 #[.int .i64 0, .int .i64 0, .bool false] := by rw [hw7]; exact ((hZ6.set_ 0 _).set_ 1 _).set_ 2 _
        have hB7 : Below w.heap.size w w7 := by
          rw [hw7]
          exact ((hB6.setCell (p := ⟨w.heap.size + 1 + 1, 0, none⟩) (by simp; omega) _).setCell (p := ⟨w.heap.size + 1 + 1, 1, none⟩) (by simp; omega) _).setCell (p := ⟨w.heap.size + 1 + 1, 2, none⟩) (by simp; omega) _
        have hO7 : OW iC 1 3 w4.heap.size w7 A n c L := by
          rw [hw7]
          exact ((hO6.setCell (p := ⟨w.heap.size + 1 + 1, 0, none⟩) (fun q hq => by have := (hO6.lt hq).1; simp; omega) _).setCell (p := ⟨w.heap.size + 1 + 1, 1, none⟩) (fun q hq => by have := (hO6.lt hq).1; simp; omega) _).setCell (p := ⟨w.heap.size + 1 + 1, 2, none⟩) (fun q hq => by have := (hO6.lt hq).1; simp; omega) _
        rw [← hw7]
        clear hw7
        have z0 := hZ7.cell 0
        have z1 := hZ7.cell 1
        have z2 := hZ7.cell 2
        simp only [List.getElem?_toArray, List.getElem?_cons_zero, List.getElem?_cons_succ] at z0 z1 z2
        rw [Exit.noGoto_ret]
        refine bodyPost_ret (v := .tuple #[.slice A n c, .agg #[.int .i64 0, .int .i64 0, .bool false], .int .i64 0]) (by simp [results, Tryz.results17, go_sem, z0, z1, z2]) rfl ⟨A, n, c, by rw [hfin.out], by rw [hfin.out]; exact hO7.sl iC_len, hB7⟩
      | some j0 =>
        have hfin : Hid (planR (qS S R) (sS S R) cs = ([], ⟨(j0 : Int), (j0 : Int), true⟩, 5)) := by show _ = _; unfold planR; rw [hpe]
        have hea : earlyI (some j0) = (j0 : Int) := rfl
        rw [hea]
        clear hea hpe hpl
        have hge : (0 : Int) ≤ (j0 : Int) := by omega
        have d0 := hDr.cell 0
        have d1 := hDr.cell 1
        have d2 := hDr.cell 2
        have f0 := hDr.frozen 0
        have f1 := hDr.frozen 1
        have f2 := hDr.frozen 2
        simp only [List.getElem?_toArray, List.getElem?_cons_zero, List.getElem?_cons_succ] at d0 d1 d2
        have hlD := hDr.lt
        go_wp2_with fail
        obtain ⟨w5, hw5⟩ : ∃ w5, w5 = (((wr.setCell ⟨w3.heap.size, 0, none⟩ (.int .i64 (j0 : Int))).setCell ⟨w3.heap.size, 1, none⟩ (.int .i64 (j0 : Int))).setCell ⟨w3.heap.size, 2, none⟩ (.bool true)) := ⟨_, rfl⟩
        have hD5 : BK w5 w3.heap.size 64 #[.int .i64 (j0 : Int), .int .i64 (j0 : Int), .bool true] := by rw [hw5]; exact ((hDr.set_ 0 _).set_ 1 _).set_ 2 _
        have hZ5 : BK w5 (w.heap.size + 2) 64 #[.int .i64 0, .int .i64 0, .bool false] := by
          rw [hw5]
          exact ((hZr.far (p := ⟨w3.heap.size, 0, none⟩) (by simp; omega) _).far (p := ⟨w3.heap.size, 1, none⟩) (by simp; omega) _).far (p := ⟨w3.heap.size, 2, none⟩) (by simp; omega) _
        have hB5 : Below w.heap.size w w5 := by
          rw [hw5]
          exact ((hBr.setCell (p := ⟨w3.heap.size, 0, none⟩) (by simp; omega) _).setCell (p := ⟨w3.heap.size, 1, none⟩) (by simp; omega) _).setCell (p := ⟨w3.heap.size, 2, none⟩) (by simp; omega) _
        rw [← hw5]
        clear hw5 d0 d1 d2 f0 f1 f2 hlD
        have d0 := hD5.cell 0
        have d1 := hD5.cell 1
        have d2 := hD5.cell 2
        have z0 := hZ5.cell 0
        have z1 := hZ5.cell 1
        have z2 := hZ5.cell 2
        have f0 := hZ5.frozen 0
        have f1 := hZ5.frozen 1
        have f2 := hZ5.frozen 2
        have hlD := hD5.lt
        have hlZ := hZ5.lt
        simp only [List.getElem?_toArray, List.getElem?_cons_zero, List.getElem?_cons_succ] at d0 d1 d2 z0 z1 z2
        refine wp_region_qt 2 hmo (by kernel_rfl) ?_
        simp only [List.take_succ_cons, List.take_zero, List.drop_succ_cons, List.drop_zero]
        have k0 := fun d os => cell_regrown d0 d os
        have k1 := fun d os => cell_regrown d1 d os
        have k2 := fun d os => cell_regrown d2 d os
        repeat (quiet_step (fail))
        refine wpQuiet_nil ?_
        intro w6 hb6
        have hZ6 := hZ5.below hb6 hZ5.lt
        have hB6 := hB5.trans (hb6.mono hB5.size)
        clear d0 d1 d2 z0 z1 z2 f0 f1 f2 k0 k1 k2 hlD hlZ
        have z0 := hZ6.cell 0
        have z1 := hZ6.cell 1
        have z2 := hZ6.cell 2
        have f0 := hZ6.frozen 0
        have f1 := hZ6.frozen 1
        have f2 := hZ6.frozen 2
        have hlZ := hZ6.lt
        simp only [List.getElem?_toArray, List.getElem?_cons_zero, List.getElem?_cons_succ] at z0 z1 z2
        go_wp2_with fail
        clear z0 z1 z2 f0 f1 f2
        obtain ⟨w7, hw7⟩ : ∃ w7, w7 = ((w6.setCell ⟨w.heap.size + 1 + 1, 0, none⟩ (.int .i64 (j0 : Int))).setCell ⟨w.heap.size + 1 + 1, 1, none⟩ (.int .i64 (j0 : Int))).setCell ⟨w.heap.size + 1 + 1, 2, none⟩ (.bool true) := ⟨_, rfl⟩
        have hZ7 : BK w7 (w.heap.size + 1 + 1) 64 #[.int .i64 (j0 : Int), .int .i64 (j0 : Int), .bool true] := by rw [hw7]; exact ((hZ6.set_ 0 _).set_ 1 _).set_ 2 _
        have hB7 : Below w.heap.size w w7 := by
          rw [hw7]
          exact ((hB6.setCell (p := ⟨w.heap.size + 1 + 1, 0, none⟩) (by simp; omega) _).setCell (p := ⟨w.heap.size + 1 + 1, 1, none⟩) (by simp; omega) _).setCell (p := ⟨w.heap.size + 1 + 1, 2, none⟩) (by simp; omega) _
        rw [← hw7]
        clear hw7
        have z0 := hZ7.cell 0
        have z1 := hZ7.cell 1
        have z2 := hZ7.cell 2
        simp only [List.getElem?_toArray, List.getElem?_cons_zero, List.getElem?_cons_succ] at z0 z1 z2
        rw [Exit.noGoto_ret]
        refine bodyPost_ret (v := .tuple #[.slice none 0 0, .agg #[.int .i64 (j0 : Int), .int .i64 (j0 : Int), .bool true], .int .i64 5]) (by simp [results, Tryz.results17, go_sem, z0, z1, z2]) rfl ⟨none, 0, 0, by rw [hfin.out], by rw [hfin.out]; exact SL.nil_, hB7⟩
end Go.Proofs.YtogkmnopggmdjaaGreatDoor
