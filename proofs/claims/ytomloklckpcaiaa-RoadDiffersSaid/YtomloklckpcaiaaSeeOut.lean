/- road.Sight: what is refused. -/
import Derived.Test.YtomloklckpcaiaaSee
namespace Go.Proofs.Ytomloklckpcaiaa
open Go.RowKit Go.Shelf Go.Sort Go.Proofs

set_option maxRecDepth 100000 in
set_option maxHeartbeats 4000000 in
theorem Sight_out (an mo pl : Int) (pa : Option Addr) (pn pc : Nat) (ca : Option Addr) (cn cc : Nat) (ja : Option Addr) (jn jc : Nat) (R : Road) (w : World)
    (h : RD w w.heap.size pa pn ca cn ja jn R) (hbad : OK R → eyesOk an mo = true → ¬ (0 ≤ pl ∧ pl ≤ sumL R.ps)) :
    Calls Try.prog 31 #[.agg #[.slice pa pn pc, .slice ca cn cc, .slice ja jn jc], .agg #[.int .i64 an, .int .i64 mo], .int .i64 pl] w fun e w' => e = .returned (.tuple #[.int .i64 0, .int .i64 2]) ∧ Below w.heap.size w w' := by
  have hR := Lib.hid h
  have hpl := Lib.hid h.p.1
  have hbad' := Lib.hid hbad
  clear h hbad
  obtain ⟨w0, hw0⟩ : ∃ w0, w0 = ((w.alloc (.cells #[.slice pa pn pc, .slice ca cn cc, .slice ja jn jc] 26)).alloc (.cells #[.int .i64 an, .int .i64 mo] 56)).alloc (.cells #[.int .i64 pl] 3) := ⟨_, rfl⟩
  have hW0 : Below w.heap.size w w0 := by rw [hw0]; exact (((Below.refl w.heap.size w).alloc (Nat.le_refl _) _).alloc (by simp) _).alloc (by simp; omega) _
  have b0 : BK w0 w.heap.size 26 #[.slice pa pn pc, .slice ca cn cc, .slice ja jn jc] := by rw [hw0]; exact ((BK.new w _ _).alloc _).alloc _
  have b1 : BK w0 (w.heap.size + 1) 56 #[.int .i64 an, .int .i64 mo] := by rw [hw0]; have := (BK.new (w.alloc (.cells #[.slice pa pn pc, .slice ca cn cc, .slice ja jn jc] 26)) 56 #[.int .i64 an, .int .i64 mo]); rw [World.size_alloc] at this; exact this.alloc _
  have b2 : BK w0 (w.heap.size + 2) 3 #[.int .i64 pl] := by rw [hw0]; have := (BK.new ((w.alloc (.cells #[.slice pa pn pc, .slice ca cn cc, .slice ja jn jc] 26)).alloc (.cells #[.int .i64 an, .int .i64 mo] 56)) 3 #[.int .i64 pl]); rw [World.size_alloc, World.size_alloc] at this; exact this
  have hz0 : w.heap.size + 2 < w0.heap.size := b2.lt
  go_enter Try.func31, Try.ntmps31
  go_wp2_with fail
  go_step3
  rw [← hw0]
  clear hw0
  have r0 := b0.cell 0
  have r1 := b0.cell 1
  have r2 := b0.cell 2
  have r3 := b1.cell 0
  have r4 := b1.cell 1
  have r5 := b2.cell 0
  simp only [List.getElem?_toArray, List.getElem?_cons_zero, List.getElem?_cons_succ] at r0 r1 r2 r3 r4 r5
  go_wp2_with fail
  refine (Check_any _ _ _ _ _ _ _ _ _ R _ (hR.out.grow hW0 hW0.size)).mono ?_
  rintro e w1 ⟨rfl, hb1⟩
  by_cases hv : OK R
  case neg =>
    rw [chk_bad hv]
    go_wp2_with fail
    rw [Exit.noGoto_ret]
    go_wp2_with fail
    go_ret2
    exact ⟨rfl, onto hW0 hb1 hW0.size⟩
  have hv' := Lib.hid hv
  have hc := Lib.hid (chk_ok hv)
  have hpn : pn ≤ 2000 := by rw [hpl.out]; exact hv.p2
  clear hv
  rw [hc.out]
  have hB1 := onto hW0 hb1 hW0.size
  have B0 := b0.below hb1 b0.lt
  have B1 := b1.below hb1 b1.lt
  have B2 := b2.below hb1 b2.lt
  have r0' := (bc hb1 b0.lt).trans r0
  have r1' := (bc hb1 b0.lt).trans r1
  have r2' := (bc hb1 b0.lt).trans r2
  have r3' := (bc hb1 b1.lt).trans r3
  have r4' := (bc hb1 b1.lt).trans r4
  have r5' := (bc hb1 b2.lt).trans r5
  clear r0 r1 r2 r3 r4 r5
  go_wp2_with fail
  refine (within_any _ _ _ _).mono ?_
  rintro e w3 ⟨rfl, rfl⟩
  cases hea : inR an 1 10000
  case false =>
    go_wp2_with fail
    rw [Exit.noGoto_ret]
    go_wp2_with fail
    go_ret2
    exact ⟨rfl, hB1⟩
  go_wp2_with fail
  refine (within_any _ _ _ _).mono ?_
  rintro e w3 ⟨rfl, rfl⟩
  cases heb : inR mo 1 5000
  case false =>
    go_wp2_with fail
    rw [Exit.noGoto_ret]
    go_wp2_with fail
    go_ret2
    exact ⟨rfl, hB1⟩
  go_wp2_with fail
  refine (measure_any _ _ _ _ _ _ _ _ _ R _ (hR.out.grow hB1 hB1.size) hv'.out.pk (by omega)).mono ?_
  rintro e w2 ⟨g, ba, bq, rfl, hM, hg, hb2⟩
  have hM' := Lib.hid hM
  have hB2 := onto hB1 hb2 hB1.size
  have B0 := B0.below hb2 B0.lt
  have B1 := B1.below hb2 B1.lt
  have B2 := B2.below hb2 B2.lt
  have hz1 := Nat.lt_of_lt_of_le hz0 hb1.size
  have r1 := (bc hb2 (b := w.heap.size) (by omega)).trans r1'
  have r3 := (bc hb2 (b := w.heap.size + 1) (by omega)).trans r3'
  have r4 := (bc hb2 (b := w.heap.size + 1) (by omega)).trans r4'
  have r5 := (bc hb2 (b := w.heap.size + 2) (by omega)).trans r5'
  clear hM r0' r1' r2' r3' r4' r5'
  have hPL : Hid (inR pl 0 (sumL R.ps) = false) := by
    have := hbad'.out hv'.out (by simp [eyesOk, hea, heb])
    show inR pl 0 (sumL R.ps) = false
    cases hq : inR pl 0 (sumL R.ps)
    · rfl
    · simp [inR] at hq; omega
  clear hea heb
  go_wp2_with fail
  go_quiet (first | (go_at_call 57; exact Calls.quiet_of (mlength_any g _ _ _ _ _ _ _ _ _ _ _ R _ _ (hM'.out.drewN _) (by omega))) | (go_at_call 56; exact Calls.quiet_of_same ((within_any _ _ _ _).mono fun _ _ ⟨a, b⟩ => ⟨a, b.symm⟩)))
  rw [hPL.out]
  go_wp2_with fail
  rw [Exit.noGoto_ret]
  go_wp2_with fail
  go_ret2
  exact ⟨rfl, below_drewN hB2 _⟩

theorem Sight_in (an mo pl r : Int) (pa : Option Addr) (pn pc : Nat) (ca : Option Addr) (cn cc : Nat) (ja : Option Addr) (jn jc : Nat) (R : Road) (w : World)
    (h : RD w w.heap.size pa pn ca cn ja jn R) (hv : OK R) (he : eyesOk an mo = true) (h0 : 0 ≤ pl) (h1 : pl ≤ sumL R.ps) (hs : SI R.ps an pl (lim R mo pl) r) :
    Calls Try.prog 31 #[.agg #[.slice pa pn pc, .slice ca cn cc, .slice ja jn jc], .agg #[.int .i64 an, .int .i64 mo], .int .i64 pl] w fun e w' => e = .returned (.tuple #[.int .i64 r, .int .i64 0]) ∧ Below w.heap.size w w' :=
  callsIn_wide.1 (Sight_w an mo pl r pa pn pc ca cn cc ja jn jc R w h hv he h0 h1 hs)
end Go.Proofs.Ytomloklckpcaiaa
