/- What the functions of package road answer for a road that is not as defined. -/
import Derived.Test.YtomloklckpcaiaaKnown
import Derived.Test.YtomloklckpcaiaaSurv
namespace Go.Proofs.Ytomloklckpcaiaa
open Go.RowKit Go.Shelf Go.Sort Go.Proofs


set_option maxRecDepth 100000 in
set_option maxHeartbeats 4000000 in
theorem Length_bad  (pa : Option Addr) (pn pc : Nat) (ca : Option Addr) (cn cc : Nat) (ja : Option Addr) (jn jc : Nat) (R : Road) (w : World) (h : RD w w.heap.size pa pn ca cn ja jn R) (hbad : ¬ OK R) :
    Calls Try.prog 50 #[.agg #[.slice pa pn pc, .slice ca cn cc, .slice ja jn jc]] w fun e w' => e = .returned (.tuple #[.int .i64 0, .int .i64 2]) ∧ Below w.heap.size w w' := by
  have hR := Lib.hid h
  have hc := Lib.hid (chk_bad hbad)
  clear h hbad
  obtain ⟨w0, hw0⟩ : ∃ w0, w0 = w.alloc (.cells #[.slice pa pn pc, .slice ca cn cc, .slice ja jn jc] 26) := ⟨_, rfl⟩
  have hB0 : Below w.heap.size w w0 := by rw [hw0]; exact (Below.refl w.heap.size w).alloc (Nat.le_refl _) _
  have hX0 : BK w0 (w.heap.size) 26 #[.slice pa pn pc, .slice ca cn cc, .slice ja jn jc] := by rw [hw0]; exact (BK.new w 26 #[.slice pa pn pc, .slice ca cn cc, .slice ja jn jc])
  go_enter Try.func50, Try.ntmps50
  go_wp2_with fail
  rw [← hw0]
  clear hw0
  refine (Check_any _ _ _ _ _ _ _ _ _ R _ (hR.out.grow hB0 hB0.size)).mono ?_
  rintro e w1 ⟨rfl, hk0⟩
  rw [hc.out]
  have hB1 := hB0.trans (hk0.mono hB0.size)
  go_wp2_with fail
  go_ret2
  exact ⟨rfl, hB1⟩

set_option maxRecDepth 100000 in
set_option maxHeartbeats 4000000 in
theorem Find_bad (x : Int) (pa : Option Addr) (pn pc : Nat) (ca : Option Addr) (cn cc : Nat) (ja : Option Addr) (jn jc : Nat) (R : Road) (w : World) (h : RD w w.heap.size pa pn ca cn ja jn R) (hbad : ¬ OK R) :
    Calls Try.prog 21 #[.agg #[.slice pa pn pc, .slice ca cn cc, .slice ja jn jc], .int .i64 x] w fun e w' => e = .returned (.tuple #[.int .i64 0, .int .i64 0, .int .i64 2]) ∧ Below w.heap.size w w' := by
  have hR := Lib.hid h
  have hc := Lib.hid (chk_bad hbad)
  clear h hbad
  obtain ⟨w0, hw0⟩ : ∃ w0, w0 = w.alloc (.cells #[.slice pa pn pc, .slice ca cn cc, .slice ja jn jc] 26) := ⟨_, rfl⟩
  have hB0 : Below w.heap.size w w0 := by rw [hw0]; exact (Below.refl w.heap.size w).alloc (Nat.le_refl _) _
  have hX0 : BK w0 (w.heap.size) 26 #[.slice pa pn pc, .slice ca cn cc, .slice ja jn jc] := by rw [hw0]; exact (BK.new w 26 #[.slice pa pn pc, .slice ca cn cc, .slice ja jn jc])
  go_enter Try.func21, Try.ntmps21
  go_wp2_with fail
  rw [← hw0]
  clear hw0
  refine (Check_any _ _ _ _ _ _ _ _ _ R _ (hR.out.grow hB0 hB0.size)).mono ?_
  rintro e w1 ⟨rfl, hk0⟩
  rw [hc.out]
  have hB1 := hB0.trans (hk0.mono hB0.size)
  go_wp2_with fail
  go_ret3
  exact ⟨rfl, hB1⟩

set_option maxRecDepth 100000 in
set_option maxHeartbeats 4000000 in
theorem Turning_bad (x y : Int) (pa : Option Addr) (pn pc : Nat) (ca : Option Addr) (cn cc : Nat) (ja : Option Addr) (jn jc : Nat) (R : Road) (w : World) (h : RD w w.heap.size pa pn ca cn ja jn R) (hbad : ¬ OK R) :
    Calls Try.prog 24 #[.agg #[.slice pa pn pc, .slice ca cn cc, .slice ja jn jc], .int .i64 x, .int .i64 y] w fun e w' => e = .returned (.tuple #[.int .i64 0, .int .i64 2]) ∧ Below w.heap.size w w' := by
  have hR := Lib.hid h
  have hc := Lib.hid (chk_bad hbad)
  clear h hbad
  obtain ⟨w0, hw0⟩ : ∃ w0, w0 = w.alloc (.cells #[.slice pa pn pc, .slice ca cn cc, .slice ja jn jc] 26) := ⟨_, rfl⟩
  have hB0 : Below w.heap.size w w0 := by rw [hw0]; exact (Below.refl w.heap.size w).alloc (Nat.le_refl _) _
  have hX0 : BK w0 (w.heap.size) 26 #[.slice pa pn pc, .slice ca cn cc, .slice ja jn jc] := by rw [hw0]; exact (BK.new w 26 #[.slice pa pn pc, .slice ca cn cc, .slice ja jn jc])
  go_enter Try.func24, Try.ntmps24
  go_wp2_with fail
  rw [← hw0]
  clear hw0
  refine (Check_any _ _ _ _ _ _ _ _ _ R _ (hR.out.grow hB0 hB0.size)).mono ?_
  rintro e w1 ⟨rfl, hk0⟩
  rw [hc.out]
  have hB1 := hB0.trans (hk0.mono hB0.size)
  go_wp2_with fail
  go_ret2
  exact ⟨rfl, hB1⟩

set_option maxRecDepth 100000 in
set_option maxHeartbeats 4000000 in
theorem Normal_bad  (pa : Option Addr) (pn pc : Nat) (ca : Option Addr) (cn cc : Nat) (ja : Option Addr) (jn jc : Nat) (R : Road) (w : World) (h : RD w w.heap.size pa pn ca cn ja jn R) (hbad : ¬ OK R) :
    Calls Try.prog 35 #[.agg #[.slice pa pn pc, .slice ca cn cc, .slice ja jn jc]] w fun e w' => e = .returned (.tuple #[.agg #[.slice none 0 0, .slice none 0 0, .slice none 0 0], .int .i64 2]) ∧ Below w.heap.size w w' := by
  have hR := Lib.hid h
  have hc := Lib.hid (chk_bad hbad)
  clear h hbad
  obtain ⟨w0, hw0⟩ : ∃ w0, w0 = (w.alloc (.cells #[.slice pa pn pc, .slice ca cn cc, .slice ja jn jc] 26)).alloc (.cells #[.slice none 0 0, .slice none 0 0, .slice none 0 0] 26) := ⟨_, rfl⟩
  have hB0 : Below w.heap.size w w0 := by rw [hw0]; exact ((Below.refl w.heap.size w).alloc (Nat.le_refl _) _).alloc (by simp <;> omega) _
  have hX0 : BK w0 (w.heap.size) 26 #[.slice pa pn pc, .slice ca cn cc, .slice ja jn jc] := by rw [hw0]; exact ((BK.new w 26 #[.slice pa pn pc, .slice ca cn cc, .slice ja jn jc])).alloc _
  have hZ0 : BK w0 (w.heap.size + 1) 26 #[.slice none 0 0, .slice none 0 0, .slice none 0 0] := by rw [hw0]; have := BK.new (w.alloc (.cells #[.slice pa pn pc, .slice ca cn cc, .slice ja jn jc] 26)) 26 #[.slice none 0 0, .slice none 0 0, .slice none 0 0]; rw [World.size_alloc] at this; exact this
  go_enter Try.func35, Try.ntmps35
  go_wp2_with fail
  rw [← hw0]
  clear hw0
  refine (Check_any _ _ _ _ _ _ _ _ _ R _ (hR.out.grow hB0 hB0.size)).mono ?_
  rintro e w1 ⟨rfl, hk0⟩
  rw [hc.out]
  have hB1 := hB0.trans (hk0.mono hB0.size)
  have hZ1 := hZ0.below hk0 hZ0.lt
  have hZF := hZ1.frozen
  have Z_0 := hZ1.cell 0
  have Z_1 := hZ1.cell 1
  have Z_2 := hZ1.cell 2
  simp only [List.getElem?_toArray, List.getElem?_cons_zero, List.getElem?_cons_succ] at Z_0 Z_1 Z_2
  go_wp2_with fail
  have hYF := ((hZ1.set_ 0 (.slice none 0 0)).set_ 1 (.slice none 0 0)).set_ 2 (.slice none 0 0)
  have hBF := ((hB1.setCell (p := ⟨w.heap.size + 1, 0, none⟩) (by simp <;> omega) (.slice none 0 0)).setCell (p := ⟨w.heap.size + 1, 1, none⟩) (by simp <;> omega) (.slice none 0 0)).setCell (p := ⟨w.heap.size + 1, 2, none⟩) (by simp <;> omega) (.slice none 0 0)
  obtain ⟨wF, hwF⟩ : ∃ wF, wF = ((w1.setCell ⟨w.heap.size + 1, 0, none⟩ (.slice none 0 0)).setCell ⟨w.heap.size + 1, 1, none⟩ (.slice none 0 0)).setCell ⟨w.heap.size + 1, 2, none⟩ (.slice none 0 0) := ⟨_, rfl⟩
  rw [← hwF] at hYF hBF ⊢
  clear hwF
  have z0 := hYF.cell 0
  have z1 := hYF.cell 1
  have z2 := hYF.cell 2
  simp at z0 z1 z2
  refine bodyPost_ret (v := .tuple #[.agg #[.slice none 0 0, .slice none 0 0, .slice none 0 0], .int .i64 2]) (by simp [results, Try.results35, go_sem, z0, z1, z2]) rfl ⟨rfl, hBF⟩

set_option maxRecDepth 100000 in
set_option maxHeartbeats 4000000 in
theorem Reverse_bad  (pa : Option Addr) (pn pc : Nat) (ca : Option Addr) (cn cc : Nat) (ja : Option Addr) (jn jc : Nat) (R : Road) (w : World) (h : RD w w.heap.size pa pn ca cn ja jn R) (hbad : ¬ OK R) :
    Calls Try.prog 34 #[.agg #[.slice pa pn pc, .slice ca cn cc, .slice ja jn jc]] w fun e w' => e = .returned (.tuple #[.agg #[.slice none 0 0, .slice none 0 0, .slice none 0 0], .int .i64 2]) ∧ Below w.heap.size w w' := by
  have hR := Lib.hid h
  have hc := Lib.hid (chk_bad hbad)
  clear h hbad
  obtain ⟨w0, hw0⟩ : ∃ w0, w0 = (w.alloc (.cells #[.slice pa pn pc, .slice ca cn cc, .slice ja jn jc] 26)).alloc (.cells #[.slice none 0 0, .slice none 0 0, .slice none 0 0] 26) := ⟨_, rfl⟩
  have hB0 : Below w.heap.size w w0 := by rw [hw0]; exact ((Below.refl w.heap.size w).alloc (Nat.le_refl _) _).alloc (by simp <;> omega) _
  have hX0 : BK w0 (w.heap.size) 26 #[.slice pa pn pc, .slice ca cn cc, .slice ja jn jc] := by rw [hw0]; exact ((BK.new w 26 #[.slice pa pn pc, .slice ca cn cc, .slice ja jn jc])).alloc _
  have hZ0 : BK w0 (w.heap.size + 1) 26 #[.slice none 0 0, .slice none 0 0, .slice none 0 0] := by rw [hw0]; have := BK.new (w.alloc (.cells #[.slice pa pn pc, .slice ca cn cc, .slice ja jn jc] 26)) 26 #[.slice none 0 0, .slice none 0 0, .slice none 0 0]; rw [World.size_alloc] at this; exact this
  go_enter Try.func34, Try.ntmps34
  go_wp2_with fail
  rw [← hw0]
  clear hw0
  refine (Check_any _ _ _ _ _ _ _ _ _ R _ (hR.out.grow hB0 hB0.size)).mono ?_
  rintro e w1 ⟨rfl, hk0⟩
  rw [hc.out]
  have hB1 := hB0.trans (hk0.mono hB0.size)
  have hZ1 := hZ0.below hk0 hZ0.lt
  have hZF := hZ1.frozen
  have Z_0 := hZ1.cell 0
  have Z_1 := hZ1.cell 1
  have Z_2 := hZ1.cell 2
  simp only [List.getElem?_toArray, List.getElem?_cons_zero, List.getElem?_cons_succ] at Z_0 Z_1 Z_2
  go_wp2_with fail
  have hYF := ((hZ1.set_ 0 (.slice none 0 0)).set_ 1 (.slice none 0 0)).set_ 2 (.slice none 0 0)
  have hBF := ((hB1.setCell (p := ⟨w.heap.size + 1, 0, none⟩) (by simp <;> omega) (.slice none 0 0)).setCell (p := ⟨w.heap.size + 1, 1, none⟩) (by simp <;> omega) (.slice none 0 0)).setCell (p := ⟨w.heap.size + 1, 2, none⟩) (by simp <;> omega) (.slice none 0 0)
  obtain ⟨wF, hwF⟩ : ∃ wF, wF = ((w1.setCell ⟨w.heap.size + 1, 0, none⟩ (.slice none 0 0)).setCell ⟨w.heap.size + 1, 1, none⟩ (.slice none 0 0)).setCell ⟨w.heap.size + 1, 2, none⟩ (.slice none 0 0) := ⟨_, rfl⟩
  rw [← hwF] at hYF hBF ⊢
  clear hwF
  have z0 := hYF.cell 0
  have z1 := hYF.cell 1
  have z2 := hYF.cell 2
  simp at z0 z1 z2
  refine bodyPost_ret (v := .tuple #[.agg #[.slice none 0 0, .slice none 0 0, .slice none 0 0], .int .i64 2]) (by simp [results, Try.results34, go_sem, z0, z1, z2]) rfl ⟨rfl, hBF⟩

set_option maxRecDepth 100000 in
set_option maxHeartbeats 4000000 in
theorem Part_bad (f t : Int) (pa : Option Addr) (pn pc : Nat) (ca : Option Addr) (cn cc : Nat) (ja : Option Addr) (jn jc : Nat) (R : Road) (w : World) (h : RD w w.heap.size pa pn ca cn ja jn R) (hbad : ¬ OK R) :
    Calls Try.prog 44 #[.agg #[.slice pa pn pc, .slice ca cn cc, .slice ja jn jc], .int .i64 f, .int .i64 t] w fun e w' => e = .returned (.tuple #[.agg #[.slice none 0 0, .slice none 0 0, .slice none 0 0], .int .i64 2]) ∧ Below w.heap.size w w' := by
  have hR := Lib.hid h
  have hc := Lib.hid (chk_bad hbad)
  clear h hbad
  obtain ⟨w0, hw0⟩ : ∃ w0, w0 = (((w.alloc (.cells #[.slice pa pn pc, .slice ca cn cc, .slice ja jn jc] 26)).alloc (.cells #[.int .i64 f] 3)).alloc (.cells #[.int .i64 t] 3)).alloc (.cells #[.slice none 0 0, .slice none 0 0, .slice none 0 0] 26) := ⟨_, rfl⟩
  have hB0 : Below w.heap.size w w0 := by rw [hw0]; exact ((((Below.refl w.heap.size w).alloc (Nat.le_refl _) _).alloc (by simp <;> omega) _).alloc (by simp <;> omega) _).alloc (by simp <;> omega) _
  have hX0 : BK w0 (w.heap.size) 26 #[.slice pa pn pc, .slice ca cn cc, .slice ja jn jc] := by rw [hw0]; exact ((((BK.new w 26 #[.slice pa pn pc, .slice ca cn cc, .slice ja jn jc])).alloc _).alloc _).alloc _
  have hF0 : BK w0 (w.heap.size + 1) 3 #[.int .i64 f] := by rw [hw0]; have := BK.new (w.alloc (.cells #[.slice pa pn pc, .slice ca cn cc, .slice ja jn jc] 26)) 3 #[.int .i64 f]; rw [World.size_alloc] at this; exact ((this).alloc _).alloc _
  have hT0 : BK w0 (w.heap.size + 1 + 1) 3 #[.int .i64 t] := by rw [hw0]; have := BK.new ((w.alloc (.cells #[.slice pa pn pc, .slice ca cn cc, .slice ja jn jc] 26)).alloc (.cells #[.int .i64 f] 3)) 3 #[.int .i64 t]; rw [World.size_alloc, World.size_alloc] at this; exact (this).alloc _
  have hZ0 : BK w0 (w.heap.size + 1 + 1 + 1) 26 #[.slice none 0 0, .slice none 0 0, .slice none 0 0] := by rw [hw0]; have := BK.new (((w.alloc (.cells #[.slice pa pn pc, .slice ca cn cc, .slice ja jn jc] 26)).alloc (.cells #[.int .i64 f] 3)).alloc (.cells #[.int .i64 t] 3)) 26 #[.slice none 0 0, .slice none 0 0, .slice none 0 0]; rw [World.size_alloc, World.size_alloc, World.size_alloc] at this; exact this
  go_enter Try.func44, Try.ntmps44
  go_wp2_with fail
  rw [← hw0]
  clear hw0
  refine (Check_any _ _ _ _ _ _ _ _ _ R _ (hR.out.grow hB0 hB0.size)).mono ?_
  rintro e w1 ⟨rfl, hk0⟩
  rw [hc.out]
  have hB1 := hB0.trans (hk0.mono hB0.size)
  have hZ1 := hZ0.below hk0 hZ0.lt
  have hZF := hZ1.frozen
  have Z_0 := hZ1.cell 0
  have Z_1 := hZ1.cell 1
  have Z_2 := hZ1.cell 2
  simp only [List.getElem?_toArray, List.getElem?_cons_zero, List.getElem?_cons_succ] at Z_0 Z_1 Z_2
  go_wp2_with fail
  have hYF := ((hZ1.set_ 0 (.slice none 0 0)).set_ 1 (.slice none 0 0)).set_ 2 (.slice none 0 0)
  have hBF := ((hB1.setCell (p := ⟨w.heap.size + 1 + 1 + 1, 0, none⟩) (by simp <;> omega) (.slice none 0 0)).setCell (p := ⟨w.heap.size + 1 + 1 + 1, 1, none⟩) (by simp <;> omega) (.slice none 0 0)).setCell (p := ⟨w.heap.size + 1 + 1 + 1, 2, none⟩) (by simp <;> omega) (.slice none 0 0)
  obtain ⟨wF, hwF⟩ : ∃ wF, wF = ((w1.setCell ⟨w.heap.size + 1 + 1 + 1, 0, none⟩ (.slice none 0 0)).setCell ⟨w.heap.size + 1 + 1 + 1, 1, none⟩ (.slice none 0 0)).setCell ⟨w.heap.size + 1 + 1 + 1, 2, none⟩ (.slice none 0 0) := ⟨_, rfl⟩
  rw [← hwF] at hYF hBF ⊢
  clear hwF
  have z0 := hYF.cell 0
  have z1 := hYF.cell 1
  have z2 := hYF.cell 2
  simp at z0 z1 z2
  refine bodyPost_ret (v := .tuple #[.agg #[.slice none 0 0, .slice none 0 0, .slice none 0 0], .int .i64 2]) (by simp [results, Try.results44, go_sem, z0, z1, z2]) rfl ⟨rfl, hBF⟩

set_option maxRecDepth 100000 in
set_option maxHeartbeats 4000000 in
theorem surveys_bad (pa : Option Addr) (pn pc : Nat) (ca : Option Addr) (cn cc : Nat) (ja : Option Addr) (jn jc : Nat) (R : Road) (pa2 : Option Addr) (pn2 pc2 : Nat) (ca2 : Option Addr) (cn2 cc2 : Nat) (ja2 : Option Addr) (jn2 jc2 : Nat) (w : World) (h : RD w w.heap.size pa pn ca cn ja jn R) (hbad : ¬ OK R) :
    Calls Try.prog 74 #[.agg #[.slice pa pn pc, .slice ca cn cc, .slice ja jn jc], .agg #[.slice pa2 pn2 pc2, .slice ca2 cn2 cc2, .slice ja2 jn2 jc2]] w fun e w' => e = .returned (.tuple #[.pointer none, .pointer none, .int .i64 2]) ∧ Below w.heap.size w w' := by
  have hR := Lib.hid h
  have hc := Lib.hid (chk_bad hbad)
  clear h hbad
  obtain ⟨w0, hw0⟩ : ∃ w0, w0 = (w.alloc (.cells #[.slice pa pn pc, .slice ca cn cc, .slice ja jn jc] 26)).alloc (.cells #[.slice pa2 pn2 pc2, .slice ca2 cn2 cc2, .slice ja2 jn2 jc2] 26) := ⟨_, rfl⟩
  have hB0 : Below w.heap.size w w0 := by rw [hw0]; exact ((Below.refl w.heap.size w).alloc (Nat.le_refl _) _).alloc (by simp <;> omega) _
  have hX0 : BK w0 (w.heap.size) 26 #[.slice pa pn pc, .slice ca cn cc, .slice ja jn jc] := by rw [hw0]; exact ((BK.new w 26 #[.slice pa pn pc, .slice ca cn cc, .slice ja jn jc])).alloc _
  have hY0 : BK w0 (w.heap.size + 1) 26 #[.slice pa2 pn2 pc2, .slice ca2 cn2 cc2, .slice ja2 jn2 jc2] := by rw [hw0]; have := BK.new (w.alloc (.cells #[.slice pa pn pc, .slice ca cn cc, .slice ja jn jc] 26)) 26 #[.slice pa2 pn2 pc2, .slice ca2 cn2 cc2, .slice ja2 jn2 jc2]; rw [World.size_alloc] at this; exact this
  go_enter Try.func74, Try.ntmps74
  go_wp2_with fail
  rw [← hw0]
  clear hw0
  refine (Check_any _ _ _ _ _ _ _ _ _ R _ (hR.out.grow hB0 hB0.size)).mono ?_
  rintro e w1 ⟨rfl, hk0⟩
  rw [hc.out]
  have hB1 := hB0.trans (hk0.mono hB0.size)
  go_wp2_with fail
  go_ret3
  exact ⟨rfl, hB1⟩

set_option maxRecDepth 100000 in
set_option maxHeartbeats 4000000 in
theorem Compare_bad (tol : Int) (pa : Option Addr) (pn pc : Nat) (ca : Option Addr) (cn cc : Nat) (ja : Option Addr) (jn jc : Nat) (R : Road) (pa2 : Option Addr) (pn2 pc2 : Nat) (ca2 : Option Addr) (cn2 cc2 : Nat) (ja2 : Option Addr) (jn2 jc2 : Nat) (w : World) (h : RD w w.heap.size pa pn ca cn ja jn R) (hbad : ¬ OK R) :
    Calls Try.prog 38 #[.agg #[.slice pa pn pc, .slice ca cn cc, .slice ja jn jc], .agg #[.slice pa2 pn2 pc2, .slice ca2 cn2 cc2, .slice ja2 jn2 jc2], .int .i64 tol] w fun e w' => e = .returned (.tuple #[.slice none 0 0, .int .i64 2]) ∧ Below w.heap.size w w' := by
  have hbad' := Lib.hid hbad
  have hR := Lib.hid h
  clear h hbad
  obtain ⟨w0, hw0⟩ : ∃ w0, w0 = ((w.alloc (.cells #[.slice pa pn pc, .slice ca cn cc, .slice ja jn jc] 26)).alloc (.cells #[.slice pa2 pn2 pc2, .slice ca2 cn2 cc2, .slice ja2 jn2 jc2] 26)).alloc (.cells #[.int .i64 tol] 3) := ⟨_, rfl⟩
  have hB0 : Below w.heap.size w w0 := by rw [hw0]; exact (((Below.refl w.heap.size w).alloc (Nat.le_refl _) _).alloc (by simp <;> omega) _).alloc (by simp <;> omega) _
  have hX0 : BK w0 (w.heap.size) 26 #[.slice pa pn pc, .slice ca cn cc, .slice ja jn jc] := by rw [hw0]; exact (((BK.new w 26 #[.slice pa pn pc, .slice ca cn cc, .slice ja jn jc])).alloc _).alloc _
  have hY0 : BK w0 (w.heap.size + 1) 26 #[.slice pa2 pn2 pc2, .slice ca2 cn2 cc2, .slice ja2 jn2 jc2] := by rw [hw0]; have := BK.new (w.alloc (.cells #[.slice pa pn pc, .slice ca cn cc, .slice ja jn jc] 26)) 26 #[.slice pa2 pn2 pc2, .slice ca2 cn2 cc2, .slice ja2 jn2 jc2]; rw [World.size_alloc] at this; exact (this).alloc _
  have hT0 : BK w0 (w.heap.size + 1 + 1) 3 #[.int .i64 tol] := by rw [hw0]; have := BK.new ((w.alloc (.cells #[.slice pa pn pc, .slice ca cn cc, .slice ja jn jc] 26)).alloc (.cells #[.slice pa2 pn2 pc2, .slice ca2 cn2 cc2, .slice ja2 jn2 jc2] 26)) 3 #[.int .i64 tol]; rw [World.size_alloc, World.size_alloc] at this; exact this
  go_enter Try.func38, Try.ntmps38
  go_wp2_with fail
  rw [← hw0]
  clear hw0
  have X_0 := hX0.cell 0
  have X_1 := hX0.cell 1
  have X_2 := hX0.cell 2
  have Y_0 := hY0.cell 0
  have Y_1 := hY0.cell 1
  have Y_2 := hY0.cell 2
  simp only [List.getElem?_toArray, List.getElem?_cons_zero, List.getElem?_cons_succ] at X_0 X_1 X_2 Y_0 Y_1 Y_2
  go_wp2_with fail
  clear X_0 X_1 X_2 Y_0 Y_1 Y_2
  refine (surveys_bad pa pn pc ca cn cc ja jn jc R pa2 pn2 pc2 ca2 cn2 cc2 ja2 jn2 jc2 _ (hR.out.grow hB0 hB0.size) hbad'.out).mono ?_
  rintro e w1 ⟨rfl, hk0⟩
  have hB1 := hB0.trans (hk0.mono hB0.size)
  go_wp2_with fail
  go_ret2
  exact ⟨rfl, hB1⟩

set_option maxRecDepth 100000 in
set_option maxHeartbeats 4000000 in
theorem Join_bad (pa : Option Addr) (pn pc : Nat) (ca : Option Addr) (cn cc : Nat) (ja : Option Addr) (jn jc : Nat) (R : Road) (pa2 : Option Addr) (pn2 pc2 : Nat) (ca2 : Option Addr) (cn2 cc2 : Nat) (ja2 : Option Addr) (jn2 jc2 : Nat) (w : World) (h : RD w w.heap.size pa pn ca cn ja jn R) (hbad : ¬ OK R) :
    Calls Try.prog 40 #[.agg #[.slice pa pn pc, .slice ca cn cc, .slice ja jn jc], .agg #[.slice pa2 pn2 pc2, .slice ca2 cn2 cc2, .slice ja2 jn2 jc2]] w fun e w' => e = .returned (.tuple #[.agg #[.slice none 0 0, .slice none 0 0, .slice none 0 0], .int .i64 2]) ∧ Below w.heap.size w w' := by
  have hR := Lib.hid h
  have hc := Lib.hid (chk_bad hbad)
  clear h hbad
  obtain ⟨w0, hw0⟩ : ∃ w0, w0 = ((w.alloc (.cells #[.slice pa pn pc, .slice ca cn cc, .slice ja jn jc] 26)).alloc (.cells #[.slice pa2 pn2 pc2, .slice ca2 cn2 cc2, .slice ja2 jn2 jc2] 26)).alloc (.cells #[.slice none 0 0, .slice none 0 0, .slice none 0 0] 26) := ⟨_, rfl⟩
  have hB0 : Below w.heap.size w w0 := by rw [hw0]; exact (((Below.refl w.heap.size w).alloc (Nat.le_refl _) _).alloc (by simp <;> omega) _).alloc (by simp <;> omega) _
  have hX0 : BK w0 (w.heap.size) 26 #[.slice pa pn pc, .slice ca cn cc, .slice ja jn jc] := by rw [hw0]; exact (((BK.new w 26 #[.slice pa pn pc, .slice ca cn cc, .slice ja jn jc])).alloc _).alloc _
  have hY0 : BK w0 (w.heap.size + 1) 26 #[.slice pa2 pn2 pc2, .slice ca2 cn2 cc2, .slice ja2 jn2 jc2] := by rw [hw0]; have := BK.new (w.alloc (.cells #[.slice pa pn pc, .slice ca cn cc, .slice ja jn jc] 26)) 26 #[.slice pa2 pn2 pc2, .slice ca2 cn2 cc2, .slice ja2 jn2 jc2]; rw [World.size_alloc] at this; exact (this).alloc _
  have hZ0 : BK w0 (w.heap.size + 1 + 1) 26 #[.slice none 0 0, .slice none 0 0, .slice none 0 0] := by rw [hw0]; have := BK.new ((w.alloc (.cells #[.slice pa pn pc, .slice ca cn cc, .slice ja jn jc] 26)).alloc (.cells #[.slice pa2 pn2 pc2, .slice ca2 cn2 cc2, .slice ja2 jn2 jc2] 26)) 26 #[.slice none 0 0, .slice none 0 0, .slice none 0 0]; rw [World.size_alloc, World.size_alloc] at this; exact this
  go_enter Try.func40, Try.ntmps40
  go_wp2_with fail
  rw [← hw0]
  clear hw0
  refine (Check_any _ _ _ _ _ _ _ _ _ R _ (hR.out.grow hB0 hB0.size)).mono ?_
  rintro e w1 ⟨rfl, hk0⟩
  rw [hc.out]
  have hB1 := hB0.trans (hk0.mono hB0.size)
  have hZ1 := hZ0.below hk0 hZ0.lt
  have hZF := hZ1.frozen
  have Z_0 := hZ1.cell 0
  have Z_1 := hZ1.cell 1
  have Z_2 := hZ1.cell 2
  simp only [List.getElem?_toArray, List.getElem?_cons_zero, List.getElem?_cons_succ] at Z_0 Z_1 Z_2
  go_wp2_with fail
  have hYF := ((hZ1.set_ 0 (.slice none 0 0)).set_ 1 (.slice none 0 0)).set_ 2 (.slice none 0 0)
  have hBF := ((hB1.setCell (p := ⟨w.heap.size + 1 + 1, 0, none⟩) (by simp <;> omega) (.slice none 0 0)).setCell (p := ⟨w.heap.size + 1 + 1, 1, none⟩) (by simp <;> omega) (.slice none 0 0)).setCell (p := ⟨w.heap.size + 1 + 1, 2, none⟩) (by simp <;> omega) (.slice none 0 0)
  obtain ⟨wF, hwF⟩ : ∃ wF, wF = ((w1.setCell ⟨w.heap.size + 1 + 1, 0, none⟩ (.slice none 0 0)).setCell ⟨w.heap.size + 1 + 1, 1, none⟩ (.slice none 0 0)).setCell ⟨w.heap.size + 1 + 1, 2, none⟩ (.slice none 0 0) := ⟨_, rfl⟩
  rw [← hwF] at hYF hBF ⊢
  clear hwF
  have z0 := hYF.cell 0
  have z1 := hYF.cell 1
  have z2 := hYF.cell 2
  simp at z0 z1 z2
  refine bodyPost_ret (v := .tuple #[.agg #[.slice none 0 0, .slice none 0 0, .slice none 0 0], .int .i64 2]) (by simp [results, Try.results40, go_sem, z0, z1, z2]) rfl ⟨rfl, hBF⟩

set_option maxRecDepth 100000 in
set_option maxHeartbeats 4000000 in
theorem Safer_bad (pa : Option Addr) (pn pc : Nat) (ca : Option Addr) (cn cc : Nat) (ja : Option Addr) (jn jc : Nat) (R : Road) (pa2 : Option Addr) (pn2 pc2 : Nat) (ca2 : Option Addr) (cn2 cc2 : Nat) (ja2 : Option Addr) (jn2 jc2 : Nat) (w : World) (h : RD w w.heap.size pa pn ca cn ja jn R) (hbad : ¬ OK R) :
    Calls Try.prog 46 #[.agg #[.slice pa pn pc, .slice ca cn cc, .slice ja jn jc], .agg #[.slice pa2 pn2 pc2, .slice ca2 cn2 cc2, .slice ja2 jn2 jc2]] w fun e w' => e = .returned (.tuple #[.agg #[.slice none 0 0, .slice none 0 0, .slice none 0 0], .int .i64 2]) ∧ Below w.heap.size w w' := by
  have hbad' := Lib.hid hbad
  have hR := Lib.hid h
  clear h hbad
  obtain ⟨w0, hw0⟩ : ∃ w0, w0 = (((w.alloc (.cells #[.slice pa pn pc, .slice ca cn cc, .slice ja jn jc] 26)).alloc (.cells #[.slice pa2 pn2 pc2, .slice ca2 cn2 cc2, .slice ja2 jn2 jc2] 26)).alloc (.cells #[.slice none 0 0, .slice none 0 0, .slice none 0 0] 26)).alloc (.cells #[.int .i64 0] 29) := ⟨_, rfl⟩
  have hB0 : Below w.heap.size w w0 := by rw [hw0]; exact ((((Below.refl w.heap.size w).alloc (Nat.le_refl _) _).alloc (by simp <;> omega) _).alloc (by simp <;> omega) _).alloc (by simp <;> omega) _
  have hX0 : BK w0 (w.heap.size) 26 #[.slice pa pn pc, .slice ca cn cc, .slice ja jn jc] := by rw [hw0]; exact ((((BK.new w 26 #[.slice pa pn pc, .slice ca cn cc, .slice ja jn jc])).alloc _).alloc _).alloc _
  have hY0 : BK w0 (w.heap.size + 1) 26 #[.slice pa2 pn2 pc2, .slice ca2 cn2 cc2, .slice ja2 jn2 jc2] := by rw [hw0]; have := BK.new (w.alloc (.cells #[.slice pa pn pc, .slice ca cn cc, .slice ja jn jc] 26)) 26 #[.slice pa2 pn2 pc2, .slice ca2 cn2 cc2, .slice ja2 jn2 jc2]; rw [World.size_alloc] at this; exact ((this).alloc _).alloc _
  have hZ0 : BK w0 (w.heap.size + 1 + 1) 26 #[.slice none 0 0, .slice none 0 0, .slice none 0 0] := by rw [hw0]; have := BK.new ((w.alloc (.cells #[.slice pa pn pc, .slice ca cn cc, .slice ja jn jc] 26)).alloc (.cells #[.slice pa2 pn2 pc2, .slice ca2 cn2 cc2, .slice ja2 jn2 jc2] 26)) 26 #[.slice none 0 0, .slice none 0 0, .slice none 0 0]; rw [World.size_alloc, World.size_alloc] at this; exact (this).alloc _
  have hE0 : BK w0 (w.heap.size + 1 + 1 + 1) 29 #[.int .i64 0] := by rw [hw0]; have := BK.new (((w.alloc (.cells #[.slice pa pn pc, .slice ca cn cc, .slice ja jn jc] 26)).alloc (.cells #[.slice pa2 pn2 pc2, .slice ca2 cn2 cc2, .slice ja2 jn2 jc2] 26)).alloc (.cells #[.slice none 0 0, .slice none 0 0, .slice none 0 0] 26)) 29 #[.int .i64 0]; rw [World.size_alloc, World.size_alloc, World.size_alloc] at this; exact this
  go_enter Try.func46, Try.ntmps46
  go_wp2_with fail
  rw [← hw0]
  clear hw0
  have X_0 := hX0.cell 0
  have X_1 := hX0.cell 1
  have X_2 := hX0.cell 2
  have Y_0 := hY0.cell 0
  have Y_1 := hY0.cell 1
  have Y_2 := hY0.cell 2
  simp only [List.getElem?_toArray, List.getElem?_cons_zero, List.getElem?_cons_succ] at X_0 X_1 X_2 Y_0 Y_1 Y_2
  go_wp2_with fail
  clear X_0 X_1 X_2 Y_0 Y_1 Y_2
  refine (surveys_bad pa pn pc ca cn cc ja jn jc R pa2 pn2 pc2 ca2 cn2 cc2 ja2 jn2 jc2 _ (hR.out.grow hB0 hB0.size) hbad'.out).mono ?_
  rintro e w1 ⟨rfl, hk0⟩
  have hB1 := hB0.trans (hk0.mono hB0.size)
  have hZ1 := hZ0.below hk0 hZ0.lt
  have hE1 := hE0.below hk0 hE0.lt
  have hZF := hZ1.frozen
  have hEF := hE1.frozen
  have Z_0 := hZ1.cell 0
  have Z_1 := hZ1.cell 1
  have Z_2 := hZ1.cell 2
  have E_0 := hE1.cell 0
  simp only [List.getElem?_toArray, List.getElem?_cons_zero, List.getElem?_cons_succ] at Z_0 Z_1 Z_2 E_0
  go_wp2_with fail
  have hYF := (((hZ1.set_ 0 (.slice none 0 0)).set_ 1 (.slice none 0 0)).set_ 2 (.slice none 0 0)).far (p := ⟨w.heap.size + 1 + 1 + 1, 0, none⟩) (by simp) (.int .i64 2)
  have hEX := (((hE1.far (p := ⟨w.heap.size + 1 + 1, 0, none⟩) (by simp) (.slice none 0 0)).far (p := ⟨w.heap.size + 1 + 1, 1, none⟩) (by simp) (.slice none 0 0)).far (p := ⟨w.heap.size + 1 + 1, 2, none⟩) (by simp) (.slice none 0 0)).set_ 0 (.int .i64 2)
  have hBF := (((hB1.setCell (p := ⟨w.heap.size + 1 + 1, 0, none⟩) (by simp <;> omega) (.slice none 0 0)).setCell (p := ⟨w.heap.size + 1 + 1, 1, none⟩) (by simp <;> omega) (.slice none 0 0)).setCell (p := ⟨w.heap.size + 1 + 1, 2, none⟩) (by simp <;> omega) (.slice none 0 0)).setCell (p := ⟨w.heap.size + 1 + 1 + 1, 0, none⟩) (by simp <;> omega) (.int .i64 2)
  obtain ⟨wF, hwF⟩ : ∃ wF, wF = (((w1.setCell ⟨w.heap.size + 1 + 1, 0, none⟩ (.slice none 0 0)).setCell ⟨w.heap.size + 1 + 1, 1, none⟩ (.slice none 0 0)).setCell ⟨w.heap.size + 1 + 1, 2, none⟩ (.slice none 0 0)).setCell ⟨w.heap.size + 1 + 1 + 1, 0, none⟩ (.int .i64 2) := ⟨_, rfl⟩
  rw [← hwF] at hYF hEX hBF ⊢
  clear hwF
  have z0 := hYF.cell 0
  have z1 := hYF.cell 1
  have z2 := hYF.cell 2
  have z3 := hEX.cell 0
  simp at z0 z1 z2 z3
  refine bodyPost_ret (v := .tuple #[.agg #[.slice none 0 0, .slice none 0 0, .slice none 0 0], .int .i64 2]) (by simp [results, Try.results46, go_sem, z0, z1, z2, z3]) rfl ⟨rfl, hBF⟩

end Go.Proofs.Ytomloklckpcaiaa
