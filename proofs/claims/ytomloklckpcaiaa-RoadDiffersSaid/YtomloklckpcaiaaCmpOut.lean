/- road.Compare: the error. -/
import Derived.Test.YtomloklckpcaiaaCmp
namespace Go.Proofs.Ytomloklckpcaiaa
open Go.RowKit Go.Shelf Go.Sort Go.Proofs

set_option maxRecDepth 100000 in
set_option maxHeartbeats 4000000 in
theorem Compare_out (tol : Int) (pa : Option Addr) (pn pc : Nat) (ca : Option Addr) (cn cc : Nat) (ja : Option Addr) (jn jc : Nat) (R : Road) (pa2 : Option Addr) (pn2 pc2 : Nat) (ca2 : Option Addr) (cn2 cc2 : Nat) (ja2 : Option Addr) (jn2 jc2 : Nat) (R2 : Road) (w : World)
    (h : RD w w.heap.size pa pn ca cn ja jn R) (h2 : RD w w.heap.size pa2 pn2 ca2 cn2 ja2 jn2 R2) (hv : OK R) (hv2 : OK R2) (hbad : sumL R.ps = sumL R2.ps → inR tol 0 2000 = false) :
    Calls Try.prog 38 #[.agg #[.slice pa pn pc, .slice ca cn cc, .slice ja jn jc], .agg #[.slice pa2 pn2 pc2, .slice ca2 cn2 cc2, .slice ja2 jn2 jc2], .int .i64 tol] w fun e w' => e = .returned (.tuple #[.slice none 0 0, .int .i64 2]) ∧ Below w.heap.size w w' := by
  have hR := Lib.hid h
  have hR2 := Lib.hid h2
  have hv' := Lib.hid hv
  have hv2' := Lib.hid hv2
  have hbad' := Lib.hid hbad
  clear h h2 hv hv2 hbad
  obtain ⟨w0, hw0⟩ : ∃ w0, w0 = ((w.alloc (.cells #[.slice pa pn pc, .slice ca cn cc, .slice ja jn jc] 26)).alloc (.cells #[.slice pa2 pn2 pc2, .slice ca2 cn2 cc2, .slice ja2 jn2 jc2] 26)).alloc (.cells #[.int .i64 tol] 3) := ⟨_, rfl⟩
  have hW0 : Below w.heap.size w w0 := by rw [hw0]; exact (((Below.refl w.heap.size w).alloc (Nat.le_refl _) _).alloc (by simp) _).alloc (by simp <;> omega) _
  have b0 : BK w0 w.heap.size 26 #[.slice pa pn pc, .slice ca cn cc, .slice ja jn jc] := by rw [hw0]; exact ((BK.new w _ _).alloc _).alloc _
  have b1 : BK w0 (w.heap.size + 1) 26 #[.slice pa2 pn2 pc2, .slice ca2 cn2 cc2, .slice ja2 jn2 jc2] := by rw [hw0]; have := (BK.new (w.alloc (.cells #[.slice pa pn pc, .slice ca cn cc, .slice ja jn jc] 26)) 26 #[.slice pa2 pn2 pc2, .slice ca2 cn2 cc2, .slice ja2 jn2 jc2]); rw [World.size_alloc] at this; exact this.alloc _
  have b2 : BK w0 (w.heap.size + 2) 3 #[.int .i64 tol] := by rw [hw0]; have := (BK.new ((w.alloc (.cells #[.slice pa pn pc, .slice ca cn cc, .slice ja jn jc] 26)).alloc (.cells #[.slice pa2 pn2 pc2, .slice ca2 cn2 cc2, .slice ja2 jn2 jc2] 26)) 3 #[.int .i64 tol]); rw [World.size_alloc, World.size_alloc] at this; exact this
  go_enter Try.func38, Try.ntmps38
  go_wp2_with fail
  rw [← hw0]
  clear hw0
  have r0 := b0.cell 0
  have r1 := b0.cell 1
  have r2 := b0.cell 2
  have r3 := b1.cell 0
  have r4 := b1.cell 1
  have r5 := b1.cell 2
  simp only [List.getElem?_toArray, List.getElem?_cons_zero, List.getElem?_cons_succ] at r0 r1 r2 r3 r4 r5
  go_wp2_with fail
  clear r0 r1 r2 r3 r4 r5
  refine (surveys_in pa pn pc ca cn cc ja jn jc R pa2 pn2 pc2 ca2 cn2 cc2 ja2 jn2 jc2 R2 _ (hR.out.grow hW0 hW0.size) (hR2.out.grow hW0 hW0.size) hv'.out hv2'.out).mono ?_
  rintro e w2 ⟨⟨hyes, hno⟩, hb1⟩
  have hB2 := onto hW0 hb1 hW0.size
  have B2 := b2.below hb1 b2.lt
  have r6 := B2.cell 0
  simp only [List.getElem?_toArray, List.getElem?_cons_zero] at r6
  by_cases hs : sumL R.ps = sumL R2.ps
  · obtain ⟨g, ba, bq, g2, ba2, bq2, rfl, -, -⟩ := hyes hs
    have hE := Lib.hid (hbad'.out hs)
    clear hyes hno hs
    go_wp2_with fail
    refine (within_any _ _ _ _).mono ?_
    rintro e w3 ⟨rfl, rfl⟩
    rw [hE.out]
    go_wp2_with fail
    go_ret2
    exact ⟨rfl, hB2⟩
  · obtain rfl := hno hs
    clear hyes hno hs
    go_wp2_with fail
    go_ret2
    exact ⟨rfl, hB2⟩
end Go.Proofs.Ytomloklckpcaiaa
