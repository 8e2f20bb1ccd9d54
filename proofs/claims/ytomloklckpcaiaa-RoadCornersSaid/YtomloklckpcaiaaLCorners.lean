/- The law function RoadCorners, walked: it returns true. -/
import Derived.Test.YtomloklckpcaiaaKnown
import Derived.Test.YtomloklckpcaiaaCornOut
import Derived.Test.YtomloklckpcaiaaOrdM
namespace Go.Proofs.Ytomloklckpcaiaa
open Go.RowKit Go.Shelf Go.Sort Go.Proofs

set_option maxRecDepth 100000 in
set_option maxHeartbeats 4000000 in
theorem RoadCorners_walk (gap least : Int) (pa : Option Addr) (pn pc : Nat) (ca : Option Addr) (cn cc : Nat) (ja : Option Addr) (jn jc : Nat) (R : Road) (w : World) (h : RD w w.heap.size pa pn ca cn ja jn R) :
    Calls Try.prog 5 #[.agg #[.slice pa pn pc, .slice ca cn cc, .slice ja jn jc], .agg #[.int .i64 gap, .int .i64 least]] w fun e w' => e = .returned (.bool true) ∧ Below w.heap.size w w' := by
  have hR := Lib.hid h
  have hpl := Lib.hid h.p.1
  clear h
  go_enter Try.func5, Try.ntmps5
  go_wp2_with fail
  obtain ⟨W0, hW0⟩ : ∃ W0, W0 = (w.alloc (.cells #[.slice pa pn pc, .slice ca cn cc, .slice ja jn jc] 26)).alloc (.cells #[.int .i64 gap, .int .i64 least] 41) := ⟨_, rfl⟩
  have hB0 : Below w.heap.size w W0 := by rw [hW0]; exact ((Below.refl w.heap.size w).alloc (Nat.le_refl _) _).alloc (by simp <;> omega) _
  have hX0 : BK W0 w.heap.size 26 #[.slice pa pn pc, .slice ca cn cc, .slice ja jn jc] := by rw [hW0]; exact (BK.new w _ _).alloc _
  have hY0 : BK W0 (w.heap.size + 1) 41 #[.int .i64 gap, .int .i64 least] := by rw [hW0]; have := BK.new (w.alloc (.cells #[.slice pa pn pc, .slice ca cn cc, .slice ja jn jc] 26)) 41 #[.int .i64 gap, .int .i64 least]; rw [World.size_alloc] at this; exact this
  rw [← hW0]
  clear hW0
  refine (small_any pa pn pc ca cn cc ja jn jc R W0 (hR.out.grow hB0 hB0.size)).mono ?_
  rintro e W1 ⟨rfl, hk0⟩
  have hB1 := hB0.trans (hk0.mono hB0.size)
  have hX1 := hX0.below hk0 hX0.lt
  have hY1 := hY0.below hk0 hY0.lt
  cases hs : sml R
  · have X_0 := hX1.cell 0
    have X_1 := hX1.cell 1
    have X_2 := hX1.cell 2
    have Y_0 := hY1.cell 0
    have Y_1 := hY1.cell 1
    simp only [List.getElem?_toArray, List.getElem?_cons_zero, List.getElem?_cons_succ] at X_0 X_1 X_2 Y_0 Y_1
    go_wp2_with fail
    clear X_0 X_1 X_2 Y_0 Y_1
    refine (known_any W1).mono ?_
    rintro e W2 ⟨rfl, hk1⟩
    have hB2 := hB1.trans (hk1.mono hB1.size)
    have hX2 := hX1.below hk1 hX1.lt
    have hY2 := hY1.below hk1 hY1.lt
    have X_0 := hX2.cell 0
    have X_1 := hX2.cell 1
    have X_2 := hX2.cell 2
    have Y_0 := hY2.cell 0
    have Y_1 := hY2.cell 1
    simp only [List.getElem?_toArray, List.getElem?_cons_zero, List.getElem?_cons_succ] at X_0 X_1 X_2 Y_0 Y_1
    go_wp2_with fail
    clear X_0 X_1 X_2 Y_0 Y_1
    go_ret
    exact ⟨rfl, hB2⟩
  have HS := Lib.hid hs
  clear hs
  have X_0 := hX1.cell 0
  have X_1 := hX1.cell 1
  have X_2 := hX1.cell 2
  have Y_0 := hY1.cell 0
  have Y_1 := hY1.cell 1
  simp only [List.getElem?_toArray, List.getElem?_cons_zero, List.getElem?_cons_succ] at X_0 X_1 X_2 Y_0 Y_1
  go_wp2_with fail
  clear X_0 X_1 X_2 Y_0 Y_1
  refine (Valid_any pa pn pc ca cn cc ja jn jc R W1 (hR.out.grow hB1 hB1.size)).mono ?_
  rintro e W2 ⟨rfl, hk1⟩
  have hB2 := hB1.trans (hk1.mono hB1.size)
  have hX2 := hX1.below hk1 hX1.lt
  have hY2 := hY1.below hk1 hY1.lt
  cases hv : val R
  · have X_0 := hX2.cell 0
    have X_1 := hX2.cell 1
    have X_2 := hX2.cell 2
    have Y_0 := hY2.cell 0
    have Y_1 := hY2.cell 1
    simp only [List.getElem?_toArray, List.getElem?_cons_zero, List.getElem?_cons_succ] at X_0 X_1 X_2 Y_0 Y_1
    go_wp2_with fail
    clear X_0 X_1 X_2 Y_0 Y_1
    refine (known_any W2).mono ?_
    rintro e W3 ⟨rfl, hk2⟩
    have hB3 := hB2.trans (hk2.mono hB2.size)
    have hX3 := hX2.below hk2 hX2.lt
    have hY3 := hY2.below hk2 hY2.lt
    have X_0 := hX3.cell 0
    have X_1 := hX3.cell 1
    have X_2 := hX3.cell 2
    have Y_0 := hY3.cell 0
    have Y_1 := hY3.cell 1
    simp only [List.getElem?_toArray, List.getElem?_cons_zero, List.getElem?_cons_succ] at X_0 X_1 X_2 Y_0 Y_1
    go_wp2_with fail
    clear X_0 X_1 X_2 Y_0 Y_1
    go_ret
    exact ⟨rfl, hB3⟩
  have hok := (val_iff R).1 hv
  have hv' := Lib.hid hok
  have hn1 := hok.n1
  have hp2 := hok.p2
  have hpn : pn ≤ 2000 := by rw [hpl.out]; exact hp2
  have hln := hok.len
  clear hv hok
  cases hbd : bendsOk gap least
  · have HO := Lib.hid hbd
    clear hbd
    have X_0 := hX2.cell 0
    have X_1 := hX2.cell 1
    have X_2 := hX2.cell 2
    have Y_0 := hY2.cell 0
    have Y_1 := hY2.cell 1
    simp only [List.getElem?_toArray, List.getElem?_cons_zero, List.getElem?_cons_succ] at X_0 X_1 X_2 Y_0 Y_1
    go_wp2_with fail
    clear X_0 X_1 X_2 Y_0 Y_1
    refine (Corners_out gap least pa pn pc ca cn cc ja jn jc R W2 (hR.out.grow hB2 hB2.size) (fun _ => HO.out)).mono ?_
    rintro e W3 ⟨rfl, hk2⟩
    have hB3 := hB2.trans (hk2.mono hB2.size)
    have hX3 := hX2.below hk2 hX2.lt
    have hY3 := hY2.below hk2 hY2.lt
    have X_0 := hX3.cell 0
    have X_1 := hX3.cell 1
    have X_2 := hX3.cell 2
    have Y_0 := hY3.cell 0
    have Y_1 := hY3.cell 1
    simp only [List.getElem?_toArray, List.getElem?_cons_zero, List.getElem?_cons_succ] at X_0 X_1 X_2 Y_0 Y_1
    go_wp2_with fail
    clear X_0 X_1 X_2 Y_0 Y_1
    refine (Bends_any gap least W3).mono ?_
    rintro e W4 ⟨rfl, hk3⟩
    rw [HO.out]
    have hB4 := hB3.trans (hk3.mono hB3.size)
    have hX4 := hX3.below hk3 hX3.lt
    have hY4 := hY3.below hk3 hY3.lt
    have X_0 := hX4.cell 0
    have X_1 := hX4.cell 1
    have X_2 := hX4.cell 2
    have Y_0 := hY4.cell 0
    have Y_1 := hY4.cell 1
    simp only [List.getElem?_toArray, List.getElem?_cons_zero, List.getElem?_cons_succ] at X_0 X_1 X_2 Y_0 Y_1
    go_wp2_with fail
    clear X_0 X_1 X_2 Y_0 Y_1
    refine (known_any W4).mono ?_
    rintro e W5 ⟨rfl, hk4⟩
    have hB5 := hB4.trans (hk4.mono hB4.size)
    have hX5 := hX4.below hk4 hX4.lt
    have hY5 := hY4.below hk4 hY4.lt
    have X_0 := hX5.cell 0
    have X_1 := hX5.cell 1
    have X_2 := hX5.cell 2
    have Y_0 := hY5.cell 0
    have Y_1 := hY5.cell 1
    simp only [List.getElem?_toArray, List.getElem?_cons_zero, List.getElem?_cons_succ] at X_0 X_1 X_2 Y_0 Y_1
    go_wp2_with fail
    clear X_0 X_1 X_2 Y_0 Y_1
    go_ret
    exact ⟨rfl, hB5⟩
  have HO := Lib.hid hbd
  clear hbd
  have X_0 := hX2.cell 0
  have X_1 := hX2.cell 1
  have X_2 := hX2.cell 2
  have Y_0 := hY2.cell 0
  have Y_1 := hY2.cell 1
  simp only [List.getElem?_toArray, List.getElem?_cons_zero, List.getElem?_cons_succ] at X_0 X_1 X_2 Y_0 Y_1
  go_wp2_with fail
  clear X_0 X_1 X_2 Y_0 Y_1
  refine (Corners_in gap least pa pn pc ca cn cc ja jn jc R W2 (hR.out.grow hB2 hB2.size) hv'.out HO.out).mono ?_
  rintro e W3 ⟨A, n, c, rfl, hs, hk2⟩
  have hB3 := hB2.trans (hk2.mono hB2.size)
  have hX3 := hX2.below hk2 hX2.lt
  have hY3 := hY2.below hk2 hY2.lt
  have HSL := Lib.hid (hs.sl kC_len)
  have hcl : (crns gap least R).length ≤ 100000 := by have := crns_len gap least R; omega
  clear hs
  have X_0 := hX3.cell 0
  have X_1 := hX3.cell 1
  have X_2 := hX3.cell 2
  have Y_0 := hY3.cell 0
  have Y_1 := hY3.cell 1
  simp only [List.getElem?_toArray, List.getElem?_cons_zero, List.getElem?_cons_succ] at X_0 X_1 X_2 Y_0 Y_1
  go_wp2_with fail
  clear X_0 X_1 X_2 Y_0 Y_1
  refine (Bends_any gap least W3).mono ?_
  rintro e W4 ⟨rfl, hk3⟩
  rw [HO.out]
  have HSL := Lib.hid (HSL.out.grow hk3 hk3.size)
  have hB4 := hB3.trans (hk3.mono hB3.size)
  have hX4 := hX3.below hk3 hX3.lt
  have hY4 := hY3.below hk3 hY3.lt
  have X_0 := hX4.cell 0
  have X_1 := hX4.cell 1
  have X_2 := hX4.cell 2
  have Y_0 := hY4.cell 0
  have Y_1 := hY4.cell 1
  simp only [List.getElem?_toArray, List.getElem?_cons_zero, List.getElem?_cons_succ] at X_0 X_1 X_2 Y_0 Y_1
  go_wp2_with fail
  clear X_0 X_1 X_2 Y_0 Y_1
  refine (rCorners_in gap least pa pn pc ca cn cc ja jn jc R W4 (hR.out.grow hB4 hB4.size) hv'.out HO.out).mono ?_
  rintro e W5 ⟨A', n', c', rfl, hs', hk4⟩
  have HSL := Lib.hid (HSL.out.grow hk4 hk4.size)
  have HSL2 := Lib.hid hs'
  clear hs'
  have hB5 := hB4.trans (hk4.mono hB4.size)
  have hX5 := hX4.below hk4 hX4.lt
  have hY5 := hY4.below hk4 hY4.lt
  have X_0 := hX5.cell 0
  have X_1 := hX5.cell 1
  have X_2 := hX5.cell 2
  have Y_0 := hY5.cell 0
  have Y_1 := hY5.cell 1
  simp only [List.getElem?_toArray, List.getElem?_cons_zero, List.getElem?_cons_succ] at X_0 X_1 X_2 Y_0 Y_1
  go_wp2_with fail
  clear X_0 X_1 X_2 Y_0 Y_1
  refine (same_true A n c A' n' c' (crns gap least R) W5 HSL.out HSL2.out hcl).mono ?_
  rintro e W6 ⟨rfl, hk5⟩
  have hB6 := hB5.trans (hk5.mono hB5.size)
  have hX6 := hX5.below hk5 hX5.lt
  have hY6 := hY5.below hk5 hY5.lt
  have X_0 := hX6.cell 0
  have X_1 := hX6.cell 1
  have X_2 := hX6.cell 2
  have Y_0 := hY6.cell 0
  have Y_1 := hY6.cell 1
  simp only [List.getElem?_toArray, List.getElem?_cons_zero, List.getElem?_cons_succ] at X_0 X_1 X_2 Y_0 Y_1
  go_wp2_with fail
  clear X_0 X_1 X_2 Y_0 Y_1
  refine (known_any W6).mono ?_
  rintro e W7 ⟨rfl, hk6⟩
  have hB7 := hB6.trans (hk6.mono hB6.size)
  have hX7 := hX6.below hk6 hX6.lt
  have hY7 := hY6.below hk6 hY6.lt
  have X_0 := hX7.cell 0
  have X_1 := hX7.cell 1
  have X_2 := hX7.cell 2
  have Y_0 := hY7.cell 0
  have Y_1 := hY7.cell 1
  simp only [List.getElem?_toArray, List.getElem?_cons_zero, List.getElem?_cons_succ] at X_0 X_1 X_2 Y_0 Y_1
  go_wp2_with fail
  clear X_0 X_1 X_2 Y_0 Y_1
  go_ret
  exact ⟨rfl, hB7⟩
end Go.Proofs.Ytomloklckpcaiaa
