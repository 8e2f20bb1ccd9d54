/- pace.begin where an argument is not as defined: no track. -/
import Derived.Test.YtafclpmnpamipaaGreatQBeg
namespace Go.Proofs.YtafclpmnpamipaaGreat
open Go.RowKit Go.Shelf Go.Sort Go.Proofs

set_option maxRecDepth 100000 in
theorem begin_bad (pa : Option Addr) (pn pc : Nat) (ca : Option Addr) (cn cc : Nat) (ja : Option Addr) (jn jc : Nat) (R : Road) (ra : Option Addr) (rn rc : Nat) (sa : Option Addr) (sn sc : Nat) (S : Spd) (w : World)
    (h : RD w w.heap.size pa pn ca cn ja jn R) (hD : SD w w.heap.size ra rn sa sn S) (hbad : ¬ (OK R ∧ SOK S)) :
    Calls Tryz.prog 27 #[.agg #[.slice pa pn pc, .slice ca cn cc, .slice ja jn jc], .agg #[.int .i64 S.least, .int .i64 S.most, .slice ra rn rc, .slice sa sn sc]] w fun e w' =>
      e = .returned (.tuple #[.pointer none, .bool false]) ∧ Below w.heap.size w w' := by
  have HR := Lib.hid h
  have HD := Lib.hid hD
  clear h hD
  obtain ⟨w0, hw0⟩ : ∃ w0, w0 = (w.alloc (.cells #[.slice pa pn pc, .slice ca cn cc, .slice ja jn jc] 26)).alloc (.cells #[.int .i64 S.least, .int .i64 S.most, .slice ra rn rc, .slice sa sn sc] 30) := ⟨_, rfl⟩
  have hB0 : Below w.heap.size w w0 := by rw [hw0]; exact ((Below.refl w.heap.size w).alloc (Nat.le_refl _) _).alloc (by simp) _
  have hX0 : BK w0 w.heap.size 26 #[.slice pa pn pc, .slice ca cn cc, .slice ja jn jc] := by rw [hw0]; exact (BK.new w _ _).alloc _
  have hY0 : BK w0 (w.heap.size + 1) 30 #[.int .i64 S.least, .int .i64 S.most, .slice ra rn rc, .slice sa sn sc] := by
    rw [hw0]; have := BK.new (w.alloc (.cells #[.slice pa pn pc, .slice ca cn cc, .slice ja jn jc] 26)) 30 #[.int .i64 S.least, .int .i64 S.most, .slice ra rn rc, .slice sa sn sc]; rw [World.size_alloc] at this; exact this
  go_enter Tryz.func27, Tryz.ntmps27
  go_wp2_with fail
  rw [← hw0]
  clear hw0
  have x0 := hX0.cell 0
  have x1 := hX0.cell 1
  have x2 := hX0.cell 2
  simp only [List.getElem?_toArray, List.getElem?_cons_zero, List.getElem?_cons_succ] at x0 x1 x2
  go_wp2_with fail
  clear x0 x1 x2
  by_cases hv : OK R
  case neg =>
    refine (Length_bad pa pn pc ca cn cc ja jn jc R w0 (HR.out.grow hB0 hB0.size) hv).mono ?_
    rintro e w1 ⟨rfl, hk0⟩
    have hB1 := hB0.trans (hk0.mono hB0.size)
    go_wp2_with fail
    go_ret2
    exact ⟨rfl, hB1⟩
  have hs : ¬ SOK S := fun q => hbad ⟨hv, q⟩
  have HE := Lib.hid (spE_bad hs)
  have HV := Lib.hid hv
  clear hbad hs hv
  refine (Length_in pa pn pc ca cn cc ja jn jc R w0 (HR.out.grow hB0 hB0.size) HV.out).mono ?_
  rintro e w1 ⟨rfl, hk0⟩
  have hB1 := hB0.trans (hk0.mono hB0.size)
  have hY1 := hY0.below hk0 hY0.lt
  clear hX0 hY0 hk0 hB0
  have y0 := hY1.cell 0
  have y1 := hY1.cell 1
  have y2 := hY1.cell 2
  have y3 := hY1.cell 3
  simp only [List.getElem?_toArray, List.getElem?_cons_zero, List.getElem?_cons_succ] at y0 y1 y2 y3
  go_wp2_with fail
  clear y0 y1 y2 y3
  refine (SpCheck_any ra rn rc sa sn sc S w1 (HD.out.grow hB1 hB1.size)).mono ?_
  rintro e w2 ⟨rfl, hk0⟩
  rw [HE.out]
  have hB2 := hB1.trans (hk0.mono hB1.size)
  go_wp2_with fail
  go_ret2
  exact ⟨rfl, hB2⟩
end Go.Proofs.YtafclpmnpamipaaGreat

/- pace.Between: the least and the most time between two places, or the error. -/
namespace Go.Proofs.YtafclpmnpamipaaGreat
open Go.RowKit Go.Shelf Go.Sort Go.Proofs

/-- The two times and the error. -/
def btw (S : Spd) (R : Road) (f t : Int) : Int × Int × Int :=
  if inR f 0 (sumL R.ps) = true ∧ inR t 0 (sumL R.ps) = true ∧ f ≤ t then (tQ S R.ps t.toNat - tQ S R.ps f.toNat, tSl S R.ps t.toNat - tSl S R.ps f.toNat, 0) else (0, 0, 2)
set_option maxRecDepth 100000 in
set_option maxHeartbeats 4000000 in
theorem Between_any (f t : Int) (pa : Option Addr) (pn pc : Nat) (ca : Option Addr) (cn cc : Nat) (ja : Option Addr) (jn jc : Nat) (R : Road) (ra : Option Addr) (rn rc : Nat) (sa : Option Addr) (sn sc : Nat) (S : Spd) (w : World)
    (h : RD w w.heap.size pa pn ca cn ja jn R) (hD : SD w w.heap.size ra rn sa sn S) (hv : OK R) (hS : SOK S) :
    Calls Tryz.prog 9 #[.agg #[.slice pa pn pc, .slice ca cn cc, .slice ja jn jc], .agg #[.int .i64 S.least, .int .i64 S.most, .slice ra rn rc, .slice sa sn sc], .int .i64 f, .int .i64 t] w fun e w' =>
      e = .returned (.tuple #[.int .i64 (btw S R f t).1, .int .i64 (btw S R f t).2.1, .int .i64 (btw S R f t).2.2]) ∧ Below w.heap.size w w' := by
  have HR := Lib.hid h
  have HD := Lib.hid hD
  have HV := Lib.hid hv
  have HS := Lib.hid hS
  clear h hD hv hS
  obtain ⟨w0, hw0⟩ : ∃ w0, w0 = (w.alloc (.cells #[.slice pa pn pc, .slice ca cn cc, .slice ja jn jc] 26)).alloc (.cells #[.int .i64 S.least, .int .i64 S.most, .slice ra rn rc, .slice sa sn sc] 30) := ⟨_, rfl⟩
  have hB0 : Below w.heap.size w w0 := by rw [hw0]; exact ((Below.refl w.heap.size w).alloc (Nat.le_refl _) _).alloc (by simp) _
  have hX0 : BK w0 w.heap.size 26 #[.slice pa pn pc, .slice ca cn cc, .slice ja jn jc] := by rw [hw0]; exact (BK.new w _ _).alloc _
  have hY0 : BK w0 (w.heap.size + 1) 30 #[.int .i64 S.least, .int .i64 S.most, .slice ra rn rc, .slice sa sn sc] := by
    rw [hw0]; have := BK.new (w.alloc (.cells #[.slice pa pn pc, .slice ca cn cc, .slice ja jn jc] 26)) 30 #[.int .i64 S.least, .int .i64 S.most, .slice ra rn rc, .slice sa sn sc]; rw [World.size_alloc] at this; exact this
  go_enter Tryz.func9, Tryz.ntmps9
  go_wp2_with fail
  rw [← hw0]
  clear hw0
  have x0 := hX0.cell 0
  have x1 := hX0.cell 1
  have x2 := hX0.cell 2
  have y0 := hY0.cell 0
  have y1 := hY0.cell 1
  have y2 := hY0.cell 2
  have y3 := hY0.cell 3
  simp only [List.getElem?_toArray, List.getElem?_cons_zero, List.getElem?_cons_succ] at x0 x1 x2 y0 y1 y2 y3
  go_wp2_with fail
  clear x0 x1 x2 y0 y1 y2 y3
  refine (begin_any pa pn pc ca cn cc ja jn jc R ra rn rc sa sn sc S w0 (HR.out.grow hB0 hB0.size) (HD.out.grow hB0 hB0.size) HV.out HS.out).mono ?_
  rintro e w1 ⟨g, ta, tc, N, rfl, hTS, hk0⟩
  have hB1 := hB0.trans (hk0.mono hB0.size)
  have HTS := Lib.hid hTS
  have hN1 : N ≤ 100000 := by have := hTS.n; have := HV.out.n1; omega
  have HNN := Lib.hid hTS.n
  clear hX0 hY0 hk0 hB0 hTS
  go_wp2_with fail
  refine (place_any f g ta tc N S R w1 HTS.out (by omega)).mono ?_
  rintro e w2 ⟨rfl, rfl⟩
  cases h1 : inR f 0 (N : Int)
  case false =>
    have hno : Hid (btw S R f t = (0, 0, 2)) := by show _ = _; unfold btw; rw [if_neg (fun q => by rw [HNN.out, h1] at q; cases q.1)]
    clear h1
    go_wp2_with fail
    refine bodyPost_ret (v := .tuple #[.int .i64 0, .int .i64 0, .int .i64 2]) (by simp [results, Tryz.results9, go_sem]) rfl ⟨by rw [hno.out], hB1⟩
  have H1 := Lib.hid h1
  clear h1
  go_wp2_with fail
  refine (place_any t g ta tc N S R w1 HTS.out (by omega)).mono ?_
  rintro e w2 ⟨rfl, rfl⟩
  cases h2 : inR t 0 (N : Int)
  case false =>
    have hno : Hid (btw S R f t = (0, 0, 2)) := by show _ = _; unfold btw; rw [if_neg (fun q => by rw [HNN.out, h2] at q; cases q.2.1)]
    clear h2
    go_wp2_with fail
    refine bodyPost_ret (v := .tuple #[.int .i64 0, .int .i64 0, .int .i64 2]) (by simp [results, Tryz.results9, go_sem]) rfl ⟨by rw [hno.out], hB1⟩
  have H2 := Lib.hid h2
  clear h2
  by_cases h3 : f ≤ t
  case neg =>
    have hno : Hid (btw S R f t = (0, 0, 2)) := by show _ = _; unfold btw; rw [if_neg (fun q => h3 q.2.2)]
    have hg : decide (t < f) = true := by simp; omega
    clear h3
    go_wp2_with fail
    refine bodyPost_ret (v := .tuple #[.int .i64 0, .int .i64 0, .int .i64 2]) (by simp [results, Tryz.results9, go_sem]) rfl ⟨by rw [hno.out], hB1⟩
  have hyes : btw S R f t = (tQ S R.ps t.toNat - tQ S R.ps f.toNat, tSl S R.ps t.toNat - tSl S R.ps f.toNat, 0) := by unfold btw; rw [if_pos ⟨by rw [HNN.out]; exact H1.out, by rw [HNN.out]; exact H2.out, h3⟩]
  have HY := Lib.hid hyes
  have hr1 : 0 ≤ f ∧ f ≤ N := by have := H1.out; simpa [inR] using this
  have hr2 : 0 ≤ t ∧ t ≤ N := by have := H2.out; simpa [inR] using this
  obtain ⟨q, rfl⟩ : ∃ q : Nat, f = (q : Int) := ⟨f.toNat, by omega⟩
  obtain ⟨z, rfl⟩ : ∃ z : Nat, t = (z : Int) := ⟨t.toNat, by omega⟩
  rw [Int.toNat_natCast, Int.toNat_natCast] at hyes
  have HY := Lib.hid hyes
  have hq : q ≤ N := by omega
  have hz : z ≤ N := by omega
  have hg : decide (z < q) = false := by simp; omega
  clear hyes h3 hr1 hr2
  go_wp2_with fail
  refine (between0_any q z g ta tc N S R w1 HTS.out HS.out HV.out hq hz).mono ?_
  rintro e w2 ⟨rfl, hm2⟩
  have hb2 : Below w1.heap.size w1 w2 := by obtain ⟨m, rfl⟩ := hm2; exact below_drewN (Below.refl _ _) _
  clear hm2
  go_wp2_with fail
  refine (between1_any q z g ta tc N S R w2 (HTS.out.grow hb2 hb2.size) HS.out HV.out hq hz).mono ?_
  rintro e w3 ⟨rfl, hm3⟩
  have hb3 : Below w2.heap.size w2 w3 := by obtain ⟨m, rfl⟩ := hm3; exact below_drewN (Below.refl _ _) _
  clear hm3
  have hB3 := hB1.trans ((hb2.trans (hb3.mono hb2.size)).mono hB1.size)
  go_wp2_with fail
  refine bodyPost_ret (v := .tuple #[.int .i64 (tQ S R.ps z - tQ S R.ps q), .int .i64 (tSl S R.ps z - tSl S R.ps q), .int .i64 0]) (by simp [results, Tryz.results9, go_sem]) rfl ⟨by rw [HY.out], hB3⟩
end Go.Proofs.YtafclpmnpamipaaGreat
