/- road.Corners: what is refused. -/
import Derived.Test.YtomloklckpcaiaaCorn
namespace Go.Proofs.Ytomloklckpcaiaa
open Go.RowKit Go.Shelf Go.Sort Go.Proofs

set_option maxRecDepth 100000 in
set_option maxHeartbeats 4000000 in
theorem Corners_out (gap least : Int) (pa : Option Addr) (pn pc : Nat) (ca : Option Addr) (cn cc : Nat) (ja : Option Addr) (jn jc : Nat) (R : Road) (w : World)
    (h : RD w w.heap.size pa pn ca cn ja jn R) (hbad : OK R → bendsOk' gap least = false) :
    Calls Try.prog 26 #[.agg #[.slice pa pn pc, .slice ca cn cc, .slice ja jn jc], .agg #[.int .i64 gap, .int .i64 least]] w fun e w' => e = .returned (.tuple #[.slice none 0 0, .int .i64 2]) ∧ Below w.heap.size w w' := by
  have hR := Lib.hid h
  have hbad' := Lib.hid hbad
  clear h hbad
  obtain ⟨w0, hw0⟩ : ∃ w0, w0 = (w.alloc (.cells #[.slice pa pn pc, .slice ca cn cc, .slice ja jn jc] 26)).alloc (.cells #[.int .i64 gap, .int .i64 least] 41) := ⟨_, rfl⟩
  have hW0 : Below w.heap.size w w0 := by rw [hw0]; exact ((Below.refl w.heap.size w).alloc (Nat.le_refl _) _).alloc (by simp) _
  have b0 : BK w0 w.heap.size 26 #[.slice pa pn pc, .slice ca cn cc, .slice ja jn jc] := by rw [hw0]; exact (BK.new w _ _).alloc _
  have b1 : BK w0 (w.heap.size + 1) 41 #[.int .i64 gap, .int .i64 least] := by rw [hw0]; have := (BK.new (w.alloc (.cells #[.slice pa pn pc, .slice ca cn cc, .slice ja jn jc] 26)) 41 #[.int .i64 gap, .int .i64 least]); rw [World.size_alloc] at this; exact this
  have hz0 : w.heap.size + 1 < w0.heap.size := b1.lt
  go_enter Try.func26, Try.ntmps26
  go_wp2_with fail
  rw [← hw0]
  clear hw0
  have r0 := b0.cell 0
  have r1 := b0.cell 1
  have r2 := b0.cell 2
  have r3 := b1.cell 0
  have r4 := b1.cell 1
  simp only [List.getElem?_toArray, List.getElem?_cons_zero, List.getElem?_cons_succ] at r0 r1 r2 r3 r4
  refine (Check_any _ _ _ _ _ _ _ _ _ R _ (hR.out.grow hW0 hW0.size)).mono ?_
  rintro e w1 ⟨rfl, hb1⟩
  by_cases hv : OK R
  case neg =>
    rw [chk_bad hv]
    go_wp2_with fail
    go_ret2
    exact ⟨rfl, onto hW0 hb1 hW0.size⟩
  have hv' := Lib.hid hv
  have hc := Lib.hid (chk_ok hv)
  clear hv
  rw [hc.out]
  have hB1 := onto hW0 hb1 hW0.size
  have r0' := (bc hb1 b0.lt).trans r0
  have r1' := (bc hb1 b0.lt).trans r1
  have r2' := (bc hb1 b0.lt).trans r2
  have r3' := (bc hb1 b1.lt).trans r3
  have r4' := (bc hb1 b1.lt).trans r4
  clear r0 r1 r2 r3 r4
  go_wp2_with fail
  refine (within_any _ _ _ _).mono ?_
  rintro e w3 ⟨rfl, rfl⟩
  cases hea : inR gap 0 1000
  case false =>
    go_wp2_with fail
    go_ret2
    exact ⟨rfl, hB1⟩
  go_wp2_with fail
  refine (within_any _ _ _ _).mono ?_
  rintro e w3 ⟨rfl, rfl⟩
  have heb : inR least 1 10000 = false := by
    have := hbad'.out hv'.out
    simpa [bendsOk', hea] using this
  rw [heb]
  clear heb hea
  go_wp2_with fail
  go_ret2
  exact ⟨rfl, hB1⟩
end Go.Proofs.Ytomloklckpcaiaa
