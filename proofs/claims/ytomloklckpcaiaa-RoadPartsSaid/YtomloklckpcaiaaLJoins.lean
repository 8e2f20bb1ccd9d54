/- The law function RoadJoins, walked: it returns true. -/
import Derived.Test.YtomloklckpcaiaaKnown
import Derived.Test.YtomloklckpcaiaaCorn
import Derived.Test.YtomloklckpcaiaaRJoin
import Derived.Test.YtomloklckpcaiaaRRev
import Derived.Test.YtomloklckpcaiaaRSame
import Derived.Test.YtomloklckpcaiaaBackOk
namespace Go.Proofs.Ytomloklckpcaiaa
open Go.RowKit Go.Shelf Go.Sort Go.Proofs

theorem sum_le40 : ∀ {l : List Piece}, (∀ p ∈ l, p.len ≤ 40) → sumL l ≤ 40 * l.length
  | [], _ => by simp [sumL]
  | p :: l, h => by
    have h1 := h p (List.mem_cons_self ..)
    have h2 := sum_le40 (l := l) (fun q hq => h q (List.mem_cons_of_mem _ hq))
    rw [sumL_cons, List.length_cons]; omega
theorem sml_bd {R : Road} (hv : OK R) (h : sml R = true) : R.ps.length ≤ 20 ∧ R.cs.length ≤ 20 ∧ R.js.length ≤ 20 ∧ sumL R.ps ≤ 800 := by
  simp only [sml, Bool.and_eq_true, decide_eq_true_eq, List.all_eq_true] at h
  obtain ⟨h1, h2, h3, h4⟩ := h
  have h5 := sum_le40 (l := R.ps) (fun p hp => by
    have q1 := h4 p hp
    have q2 := pOk_len (hv.pk p hp)
    simp at q1
    omega)
  exact ⟨h1, h2, h3, by omega⟩
theorem sml_join {R R2 : Road} (hv : OK R) (hv2 : OK R2) (h : sml R = true) (h2 : sml R2 = true) : fitsR (joinR R R2) = true ∧ (joinR R R2).cs.length ≤ 20000 ∧ (joinR R R2).js.length ≤ 20000 := by
  obtain ⟨a1, a2, a3, a4⟩ := sml_bd hv h
  obtain ⟨b1, b2, b3, b4⟩ := sml_bd hv2 h2
  have c1 : (joinR R R2).cs.length ≤ R.cs.length + R2.cs.length := foldC_len _ _ _
  have c2 : (joinR R R2).js.length ≤ R.js.length + R2.js.length := foldJ_len _ _ _
  have c3 : (joinR R R2).ps.length = R.ps.length + R2.ps.length := List.length_append
  have c4 : sumL (joinR R R2).ps = sumL R.ps + sumL R2.ps := sumL_append _ _
  refine ⟨?_, by omega, by omega⟩
  simp only [fitsR, Bool.and_eq_true, decide_eq_true_eq]
  exact ⟨by omega, by omega, by omega, by omega⟩
theorem rev_rev (R : Road) : revR (revR R) = R := by
  have h0 : sumL (revR R).ps = sumL R.ps := sumL_revR R
  have h1 : ((R.ps.map neg).reverse.map neg).reverse = R.ps := by
    rw [List.map_reverse, List.reverse_reverse, List.map_map]
    conv => rhs; rw [← List.map_id R.ps]
    refine List.map_congr_left fun p _ => ?_
    simp [neg]
  have h2 : revC (sumL R.ps) (revC (sumL R.ps) R.cs) = R.cs := by
    unfold revC
    rw [List.map_reverse, List.reverse_reverse, List.map_map]
    conv => rhs; rw [← List.map_id R.cs]
    refine List.map_congr_left fun c _ => ?_
    simp only [Function.comp, id]
    congr 1
    omega
  have h3 : revJ (sumL R.ps) (revJ (sumL R.ps) R.js) = R.js := by
    unfold revJ
    rw [List.map_reverse, List.reverse_reverse, List.map_map]
    conv => rhs; rw [← List.map_id R.js]
    refine List.map_congr_left fun c _ => ?_
    simp only [Function.comp, id]
    congr 1 <;> omega
  show Road.mk _ _ _ = R
  rw [h0]
  have e : revR R = ⟨(R.ps.map neg).reverse, revC (sumL R.ps) R.cs, revJ (sumL R.ps) R.js⟩ := rfl
  rw [e]
  simp only
  rw [h1, h2, h3]
set_option maxRecDepth 100000 in
set_option maxHeartbeats 8000000 in
theorem RoadJoins_walk (pa : Option Addr) (pn pc : Nat) (ca : Option Addr) (cn cc : Nat) (ja : Option Addr) (jn jc : Nat) (R : Road) (pa2 : Option Addr) (pn2 pc2 : Nat) (ca2 : Option Addr) (cn2 cc2 : Nat) (ja2 : Option Addr) (jn2 jc2 : Nat) (R2 : Road) (w : World) (h : RD w w.heap.size pa pn ca cn ja jn R) (h2 : RD w w.heap.size pa2 pn2 ca2 cn2 ja2 jn2 R2) :
    Calls Try.prog 13 #[.agg #[.slice pa pn pc, .slice ca cn cc, .slice ja jn jc], .agg #[.slice pa2 pn2 pc2, .slice ca2 cn2 cc2, .slice ja2 jn2 jc2]] w fun e w' => e = .returned (.bool true) ∧ Below w.heap.size w w' := by
  have hmo : Try.prog.follows .mixedOrders = true := by kernel_rfl
  have hR := Lib.hid h
  have hpl := Lib.hid h.p.1
  have hR2 := Lib.hid h2
  have hpl2 := Lib.hid h2.p.1
  clear h h2
  go_enter Try.func13, Try.ntmps13
  go_wp2_with fail
  obtain ⟨W0, hW0⟩ : ∃ W0, W0 = (w.alloc (.cells #[.slice pa pn pc, .slice ca cn cc, .slice ja jn jc] 26)).alloc (.cells #[.slice pa2 pn2 pc2, .slice ca2 cn2 cc2, .slice ja2 jn2 jc2] 26) := ⟨_, rfl⟩
  have hB0 : Below w.heap.size w W0 := by rw [hW0]; exact ((Below.refl w.heap.size w).alloc (Nat.le_refl _) _).alloc (by simp) _
  have hX0 : BK W0 w.heap.size 26 #[.slice pa pn pc, .slice ca cn cc, .slice ja jn jc] := by rw [hW0]; exact (BK.new w _ _).alloc _
  have hY0 : BK W0 (w.heap.size + 1) 26 #[.slice pa2 pn2 pc2, .slice ca2 cn2 cc2, .slice ja2 jn2 jc2] := by rw [hW0]; have := BK.new (w.alloc (.cells #[.slice pa pn pc, .slice ca cn cc, .slice ja jn jc] 26)) 26 #[.slice pa2 pn2 pc2, .slice ca2 cn2 cc2, .slice ja2 jn2 jc2]; rw [World.size_alloc] at this; exact this
  rw [← hW0]
  clear hW0
  have X_0 := hX0.cell 0
  have X_1 := hX0.cell 1
  have X_2 := hX0.cell 2
  have Y_0 := hY0.cell 0
  have Y_1 := hY0.cell 1
  have Y_2 := hY0.cell 2
  simp only [List.getElem?_toArray, List.getElem?_cons_zero, List.getElem?_cons_succ] at X_0 X_1 X_2 Y_0 Y_1 Y_2
  go_wp2_with fail
  clear X_0 X_1 X_2 Y_0 Y_1 Y_2
  refine (small_any pa pn pc ca cn cc ja jn jc R W0 (hR.out.grow hB0 hB0.size)).mono ?_
  rintro e W1 ⟨rfl, hk0⟩
  have hB1 := hB0.trans (hk0.mono hB0.size)
  have hX1 := hX0.below hk0 hX0.lt
  have hY1 := hY0.below hk0 hY0.lt
  cases hs : sml R
  · have X_0 := hX1.cell 0
    have X_1 := hX1.cell 1
    have X_2 := hX1.cell 2
    have Y_0 := hY1.cell 0
    have Y_1 := hY1.cell 1
    have Y_2 := hY1.cell 2
    simp only [List.getElem?_toArray, List.getElem?_cons_zero, List.getElem?_cons_succ] at X_0 X_1 X_2 Y_0 Y_1 Y_2
    go_wp2_with fail
    clear X_0 X_1 X_2 Y_0 Y_1 Y_2
    refine (known_any W1).mono ?_
    rintro e W2 ⟨rfl, hk1⟩
    have hB2 := hB1.trans (hk1.mono hB1.size)
    have hX2 := hX1.below hk1 hX1.lt
    have hY2 := hY1.below hk1 hY1.lt
    have X_0 := hX2.cell 0
    have X_1 := hX2.cell 1
    have X_2 := hX2.cell 2
    have Y_0 := hY2.cell 0
    have Y_1 := hY2.cell 1
    have Y_2 := hY2.cell 2
    simp only [List.getElem?_toArray, List.getElem?_cons_zero, List.getElem?_cons_succ] at X_0 X_1 X_2 Y_0 Y_1 Y_2
    go_wp2_with fail
    clear X_0 X_1 X_2 Y_0 Y_1 Y_2
    go_ret
    exact ⟨rfl, hB2⟩
  have HS := Lib.hid hs
  clear hs
  have X_0 := hX1.cell 0
  have X_1 := hX1.cell 1
  have X_2 := hX1.cell 2
  have Y_0 := hY1.cell 0
  have Y_1 := hY1.cell 1
  have Y_2 := hY1.cell 2
  simp only [List.getElem?_toArray, List.getElem?_cons_zero, List.getElem?_cons_succ] at X_0 X_1 X_2 Y_0 Y_1 Y_2
  go_wp2_with fail
  clear X_0 X_1 X_2 Y_0 Y_1 Y_2
  refine (small_any pa2 pn2 pc2 ca2 cn2 cc2 ja2 jn2 jc2 R2 W1 (hR2.out.grow hB1 hB1.size)).mono ?_
  rintro e W2 ⟨rfl, hk1⟩
  have hB2 := hB1.trans (hk1.mono hB1.size)
  have hX2 := hX1.below hk1 hX1.lt
  have hY2 := hY1.below hk1 hY1.lt
  cases hs : sml R2
  · have X_0 := hX2.cell 0
    have X_1 := hX2.cell 1
    have X_2 := hX2.cell 2
    have Y_0 := hY2.cell 0
    have Y_1 := hY2.cell 1
    have Y_2 := hY2.cell 2
    simp only [List.getElem?_toArray, List.getElem?_cons_zero, List.getElem?_cons_succ] at X_0 X_1 X_2 Y_0 Y_1 Y_2
    go_wp2_with fail
    clear X_0 X_1 X_2 Y_0 Y_1 Y_2
    refine (known_any W2).mono ?_
    rintro e W3 ⟨rfl, hk2⟩
    have hB3 := hB2.trans (hk2.mono hB2.size)
    have hX3 := hX2.below hk2 hX2.lt
    have hY3 := hY2.below hk2 hY2.lt
    have X_0 := hX3.cell 0
    have X_1 := hX3.cell 1
    have X_2 := hX3.cell 2
    have Y_0 := hY3.cell 0
    have Y_1 := hY3.cell 1
    have Y_2 := hY3.cell 2
    simp only [List.getElem?_toArray, List.getElem?_cons_zero, List.getElem?_cons_succ] at X_0 X_1 X_2 Y_0 Y_1 Y_2
    go_wp2_with fail
    clear X_0 X_1 X_2 Y_0 Y_1 Y_2
    go_ret
    exact ⟨rfl, hB3⟩
  have HS2 := Lib.hid hs
  clear hs
  have X_0 := hX2.cell 0
  have X_1 := hX2.cell 1
  have X_2 := hX2.cell 2
  have Y_0 := hY2.cell 0
  have Y_1 := hY2.cell 1
  have Y_2 := hY2.cell 2
  simp only [List.getElem?_toArray, List.getElem?_cons_zero, List.getElem?_cons_succ] at X_0 X_1 X_2 Y_0 Y_1 Y_2
  go_wp2_with fail
  clear X_0 X_1 X_2 Y_0 Y_1 Y_2
  refine (Valid_any pa pn pc ca cn cc ja jn jc R W2 (hR.out.grow hB2 hB2.size)).mono ?_
  rintro e W3 ⟨rfl, hk2⟩
  have hB3 := hB2.trans (hk2.mono hB2.size)
  have hX3 := hX2.below hk2 hX2.lt
  have hY3 := hY2.below hk2 hY2.lt
  cases hv : val R
  · have X_0 := hX3.cell 0
    have X_1 := hX3.cell 1
    have X_2 := hX3.cell 2
    have Y_0 := hY3.cell 0
    have Y_1 := hY3.cell 1
    have Y_2 := hY3.cell 2
    simp only [List.getElem?_toArray, List.getElem?_cons_zero, List.getElem?_cons_succ] at X_0 X_1 X_2 Y_0 Y_1 Y_2
    go_wp2_with fail
    clear X_0 X_1 X_2 Y_0 Y_1 Y_2
    refine (known_any W3).mono ?_
    rintro e W4 ⟨rfl, hk3⟩
    have hB4 := hB3.trans (hk3.mono hB3.size)
    have hX4 := hX3.below hk3 hX3.lt
    have hY4 := hY3.below hk3 hY3.lt
    have X_0 := hX4.cell 0
    have X_1 := hX4.cell 1
    have X_2 := hX4.cell 2
    have Y_0 := hY4.cell 0
    have Y_1 := hY4.cell 1
    have Y_2 := hY4.cell 2
    simp only [List.getElem?_toArray, List.getElem?_cons_zero, List.getElem?_cons_succ] at X_0 X_1 X_2 Y_0 Y_1 Y_2
    go_wp2_with fail
    clear X_0 X_1 X_2 Y_0 Y_1 Y_2
    go_ret
    exact ⟨rfl, hB4⟩
  have hv' := Lib.hid ((val_iff R).1 hv)
  clear hv
  have X_0 := hX3.cell 0
  have X_1 := hX3.cell 1
  have X_2 := hX3.cell 2
  have Y_0 := hY3.cell 0
  have Y_1 := hY3.cell 1
  have Y_2 := hY3.cell 2
  simp only [List.getElem?_toArray, List.getElem?_cons_zero, List.getElem?_cons_succ] at X_0 X_1 X_2 Y_0 Y_1 Y_2
  go_wp2_with fail
  clear X_0 X_1 X_2 Y_0 Y_1 Y_2
  refine (Valid_any pa2 pn2 pc2 ca2 cn2 cc2 ja2 jn2 jc2 R2 W3 (hR2.out.grow hB3 hB3.size)).mono ?_
  rintro e W4 ⟨rfl, hk3⟩
  have hB4 := hB3.trans (hk3.mono hB3.size)
  have hX4 := hX3.below hk3 hX3.lt
  have hY4 := hY3.below hk3 hY3.lt
  cases hv : val R2
  · have X_0 := hX4.cell 0
    have X_1 := hX4.cell 1
    have X_2 := hX4.cell 2
    have Y_0 := hY4.cell 0
    have Y_1 := hY4.cell 1
    have Y_2 := hY4.cell 2
    simp only [List.getElem?_toArray, List.getElem?_cons_zero, List.getElem?_cons_succ] at X_0 X_1 X_2 Y_0 Y_1 Y_2
    go_wp2_with fail
    clear X_0 X_1 X_2 Y_0 Y_1 Y_2
    refine (known_any W4).mono ?_
    rintro e W5 ⟨rfl, hk4⟩
    have hB5 := hB4.trans (hk4.mono hB4.size)
    have hX5 := hX4.below hk4 hX4.lt
    have hY5 := hY4.below hk4 hY4.lt
    have X_0 := hX5.cell 0
    have X_1 := hX5.cell 1
    have X_2 := hX5.cell 2
    have Y_0 := hY5.cell 0
    have Y_1 := hY5.cell 1
    have Y_2 := hY5.cell 2
    simp only [List.getElem?_toArray, List.getElem?_cons_zero, List.getElem?_cons_succ] at X_0 X_1 X_2 Y_0 Y_1 Y_2
    go_wp2_with fail
    clear X_0 X_1 X_2 Y_0 Y_1 Y_2
    go_ret
    exact ⟨rfl, hB5⟩
  have hv2' := Lib.hid ((val_iff R2).1 hv)
  clear hv
  have hpn : pn ≤ 2000 := by rw [hpl.out]; exact hv'.out.p2
  have hpn2 : pn2 ≤ 2000 := by rw [hpl2.out]; exact hv2'.out.p2
  have hln := hv'.out.len
  have hln2 := hv2'.out.len
  have hsf := sml_join hv'.out hv2'.out HS.out HS2.out
  obtain ⟨hf0, hlc, hlj⟩ := hsf
  have HF := Lib.hid hf0
  have hlv := revR_ok hv'.out
  have HLV := Lib.hid hlv
  have hcn : cn ≤ 1000 := by rw [hR.out.c.1]; exact hv'.out.c1
  have hjn : jn ≤ 200 := by rw [hR.out.j.1]; exact hv'.out.j1
  clear hf0 hlv
  have X_0 := hX4.cell 0
  have X_1 := hX4.cell 1
  have X_2 := hX4.cell 2
  have Y_0 := hY4.cell 0
  have Y_1 := hY4.cell 1
  have Y_2 := hY4.cell 2
  simp only [List.getElem?_toArray, List.getElem?_cons_zero, List.getElem?_cons_succ] at X_0 X_1 X_2 Y_0 Y_1 Y_2
  go_wp2_with fail
  clear X_0 X_1 X_2 Y_0 Y_1 Y_2
  refine (Join_in pa pn pc ca cn cc ja jn jc R pa2 pn2 pc2 ca2 cn2 cc2 ja2 jn2 jc2 R2 W4 (hR.out.grow hB4 hB4.size) (hR2.out.grow hB4 hB4.size) hv'.out hv2'.out).mono ?_
  rintro e W5 ⟨A1, c1, A2, m2, c2, A3, m3, c3, rfl, ⟨o1, o2, o3⟩, hk4⟩
  rw [boundV, if_pos HF.out]
  have hB5 := hB4.trans (hk4.mono hB4.size)
  have hX5 := hX4.below hk4 hX4.lt
  have hY5 := hY4.below hk4 hY4.lt
  have HRP := Lib.hid (RD.mk (o1.sl pC_len) (o2.sl cC_len) (o3.sl jC_len))
  have HM2 := Lib.hid o2.2
  have HM3 := Lib.hid o3.2
  have hm2 : m2 ≤ 20000 := by rw [o2.2]; exact hlc
  have hm3 : m3 ≤ 20000 := by rw [o3.2]; exact hlj
  clear o1 o2 o3 hlc hlj
  have hlX := hX5.lt
  have hlY := hY5.lt
  have X_0 := hX5.cell 0
  have X_1 := hX5.cell 1
  have X_2 := hX5.cell 2
  have Y_0 := hY5.cell 0
  have Y_1 := hY5.cell 1
  have Y_2 := hY5.cell 2
  simp only [List.getElem?_toArray, List.getElem?_cons_zero, List.getElem?_cons_succ] at X_0 X_1 X_2 Y_0 Y_1 Y_2
  go_wp2_with fail
  clear X_0 X_1 X_2 Y_0 Y_1 Y_2
  obtain ⟨W6, hW6⟩ : ∃ W', W' = W5.alloc (.cells #[.slice A1 (pn + pn2) c1, .slice A2 m2 c2, .slice A3 m3 c3] 26) := ⟨_, rfl⟩
  have hk5 : Below W5.heap.size W5 W6 := by rw [hW6]; exact (Below.refl _ _).alloc (Nat.le_refl _) _
  have HZX : BK W6 W5.heap.size 26 #[.slice A1 (pn + pn2) c1, .slice A2 m2 c2, .slice A3 m3 c3] := by rw [hW6]; exact BK.new _ _ _
  rw [← hW6]
  clear hW6
  have hB6 := hB5.trans (hk5.mono hB5.size)
  have hX6 := hX5.below hk5 hX5.lt
  have hY6 := hY5.below hk5 hY5.lt
  have HPN : Hid (BK W6 W5.heap.size 26 #[.slice A1 (pn + pn2) c1, .slice A2 m2 c2, .slice A3 m3 c3]) := HZX
  have hP6 := HPN.out
  have HRP := Lib.hid (HRP.out.grow hk5 hk5.size)
  clear HZX
  refine (rJoin_in pa pn pc ca cn cc ja jn jc R pa2 pn2 pc2 ca2 cn2 cc2 ja2 jn2 jc2 R2 W6 (hR.out.grow hB6 hB6.size) (hR2.out.grow hB6 hB6.size) hv'.out hv2'.out).mono ?_
  rintro e W7 ⟨B1, d1, B2, k2, d2, B3, k3, d3, rfl, ⟨o1, o2, o3⟩, hk6⟩
  have HRP := Lib.hid (HRP.out.grow hk6 hk6.size)
  obtain rfl : k2 = m2 := by rw [o2.2, HM2.out]
  obtain rfl : k3 = m3 := by rw [o3.2, HM3.out]
  have HRQ := Lib.hid (RD.mk (o1.sl pC_len) (o2.sl cC_len) (o3.sl jC_len))
  clear o1 o2 o3 HM2 HM3
  have hB7 := hB6.trans (hk6.mono hB6.size)
  have hX7 := hX6.below hk6 hX6.lt
  have hY7 := hY6.below hk6 hY6.lt
  have hP7 := hP6.below hk6 hP6.lt
  have hlX := hX7.lt
  have hlY := hY7.lt
  have hlP := hP7.lt
  have X_0 := hX7.cell 0
  have X_1 := hX7.cell 1
  have X_2 := hX7.cell 2
  have Y_0 := hY7.cell 0
  have Y_1 := hY7.cell 1
  have Y_2 := hY7.cell 2
  have P_0 := hP7.cell 0
  have P_1 := hP7.cell 1
  have P_2 := hP7.cell 2
  simp only [List.getElem?_toArray, List.getElem?_cons_zero, List.getElem?_cons_succ] at X_0 X_1 X_2 Y_0 Y_1 Y_2 P_0 P_1 P_2
  go_wp2_with fail
  clear X_0 X_1 X_2 Y_0 Y_1 Y_2 P_0 P_1 P_2
  obtain ⟨W8, hW8⟩ : ∃ W', W' = W7.alloc (.cells #[.slice B1 (pn + pn2) d1, .slice B2 k2 d2, .slice B3 k3 d3] 26) := ⟨_, rfl⟩
  have hk7 : Below W7.heap.size W7 W8 := by rw [hW8]; exact (Below.refl _ _).alloc (Nat.le_refl _) _
  have HZX : BK W8 W7.heap.size 26 #[.slice B1 (pn + pn2) d1, .slice B2 k2 d2, .slice B3 k3 d3] := by rw [hW8]; exact BK.new _ _ _
  rw [← hW8]
  clear hW8
  have hB8 := hB7.trans (hk7.mono hB7.size)
  have hX8 := hX7.below hk7 hX7.lt
  have hY8 := hY7.below hk7 hY7.lt
  have hP8 := hP7.below hk7 hP7.lt
  have HQN : Hid (BK W8 W7.heap.size 26 #[.slice B1 (pn + pn2) d1, .slice B2 k2 d2, .slice B3 k3 d3]) := HZX
  have hQ8 := HQN.out
  have HRP := Lib.hid (HRP.out.grow hk7 hk7.size)
  have HRQ := Lib.hid (HRQ.out.grow hk7 hk7.size)
  clear HZX
  refine (Reverse_in pa pn pc ca cn cc ja jn jc R W8 (hR.out.grow hB8 hB8.size) hv'.out).mono ?_
  rintro e W9 ⟨E1, f1, E2, f2, E3, f3, rfl, ⟨o1, o2, o3⟩, hk8⟩
  have HRP := Lib.hid (HRP.out.grow hk8 hk8.size)
  have HRQ := Lib.hid (HRQ.out.grow hk8 hk8.size)
  have HRS := Lib.hid (RD.mk (R := revR R) (o1.sl pC_len) (o2.sl cC_len) (o3.sl jC_len))
  clear o1 o2 o3
  have hB9 := hB8.trans (hk8.mono hB8.size)
  have hX9 := hX8.below hk8 hX8.lt
  have hY9 := hY8.below hk8 hY8.lt
  have hP9 := hP8.below hk8 hP8.lt
  have hQ9 := hQ8.below hk8 hQ8.lt
  have hlX := hX9.lt
  have hlY := hY9.lt
  have hlP := hP9.lt
  have hlQ := hQ9.lt
  have X_0 := hX9.cell 0
  have X_1 := hX9.cell 1
  have X_2 := hX9.cell 2
  have Y_0 := hY9.cell 0
  have Y_1 := hY9.cell 1
  have Y_2 := hY9.cell 2
  have P_0 := hP9.cell 0
  have P_1 := hP9.cell 1
  have P_2 := hP9.cell 2
  have Q_0 := hQ9.cell 0
  have Q_1 := hQ9.cell 1
  have Q_2 := hQ9.cell 2
  simp only [List.getElem?_toArray, List.getElem?_cons_zero, List.getElem?_cons_succ] at X_0 X_1 X_2 Y_0 Y_1 Y_2 P_0 P_1 P_2 Q_0 Q_1 Q_2
  go_wp2_with fail
  clear X_0 X_1 X_2 Y_0 Y_1 Y_2 P_0 P_1 P_2 Q_0 Q_1 Q_2
  obtain ⟨W10, hW10⟩ : ∃ W', W' = W9.alloc (.cells #[.slice E1 pn f1, .slice E2 cn f2, .slice E3 jn f3] 26) := ⟨_, rfl⟩
  have hk9 : Below W9.heap.size W9 W10 := by rw [hW10]; exact (Below.refl _ _).alloc (Nat.le_refl _) _
  have HZX : BK W10 W9.heap.size 26 #[.slice E1 pn f1, .slice E2 cn f2, .slice E3 jn f3] := by rw [hW10]; exact BK.new _ _ _
  rw [← hW10]
  clear hW10
  have hB10 := hB9.trans (hk9.mono hB9.size)
  have hX10 := hX9.below hk9 hX9.lt
  have hY10 := hY9.below hk9 hY9.lt
  have hP10 := hP9.below hk9 hP9.lt
  have hQ10 := hQ9.below hk9 hQ9.lt
  have HSN : Hid (BK W10 W9.heap.size 26 #[.slice E1 pn f1, .slice E2 cn f2, .slice E3 jn f3]) := HZX
  have hS10 := HSN.out
  have HRP := Lib.hid (HRP.out.grow hk9 hk9.size)
  have HRQ := Lib.hid (HRQ.out.grow hk9 hk9.size)
  have HRS := Lib.hid (HRS.out.grow hk9 hk9.size)
  clear HZX
  have X_0 := hX10.cell 0
  have X_1 := hX10.cell 1
  have X_2 := hX10.cell 2
  have Y_0 := hY10.cell 0
  have Y_1 := hY10.cell 1
  have Y_2 := hY10.cell 2
  have P_0 := hP10.cell 0
  have P_1 := hP10.cell 1
  have P_2 := hP10.cell 2
  have Q_0 := hQ10.cell 0
  have Q_1 := hQ10.cell 1
  have Q_2 := hQ10.cell 2
  have S_0 := hS10.cell 0
  have S_1 := hS10.cell 1
  have S_2 := hS10.cell 2
  simp only [List.getElem?_toArray, List.getElem?_cons_zero, List.getElem?_cons_succ] at X_0 X_1 X_2 Y_0 Y_1 Y_2 P_0 P_1 P_2 Q_0 Q_1 Q_2 S_0 S_1 S_2
  go_wp2_with fail
  clear X_0 X_1 X_2 Y_0 Y_1 Y_2 P_0 P_1 P_2 Q_0 Q_1 Q_2 S_0 S_1 S_2
  refine (Reverse_in E1 pn f1 E2 cn f2 E3 jn f3 (revR R) W10 HRS.out HLV.out).mono ?_
  rintro e W11 ⟨F1, e1, F2, e2, F3, e3, rfl, ⟨o1, o2, o3⟩, hk10⟩
  have HRP := Lib.hid (HRP.out.grow hk10 hk10.size)
  have HRQ := Lib.hid (HRQ.out.grow hk10 hk10.size)
  have HRS := Lib.hid (HRS.out.grow hk10 hk10.size)
  rw [rev_rev] at o1 o2 o3
  have HRT := Lib.hid (RD.mk (R := R) (o1.sl pC_len) (o2.sl cC_len) (o3.sl jC_len))
  clear o1 o2 o3
  have hB11 := hB10.trans (hk10.mono hB10.size)
  have hX11 := hX10.below hk10 hX10.lt
  have hY11 := hY10.below hk10 hY10.lt
  have hP11 := hP10.below hk10 hP10.lt
  have hQ11 := hQ10.below hk10 hQ10.lt
  have hS11 := hS10.below hk10 hS10.lt
  have hlX := hX11.lt
  have hlY := hY11.lt
  have hlP := hP11.lt
  have hlQ := hQ11.lt
  have hlS := hS11.lt
  have X_0 := hX11.cell 0
  have X_1 := hX11.cell 1
  have X_2 := hX11.cell 2
  have Y_0 := hY11.cell 0
  have Y_1 := hY11.cell 1
  have Y_2 := hY11.cell 2
  have P_0 := hP11.cell 0
  have P_1 := hP11.cell 1
  have P_2 := hP11.cell 2
  have Q_0 := hQ11.cell 0
  have Q_1 := hQ11.cell 1
  have Q_2 := hQ11.cell 2
  have S_0 := hS11.cell 0
  have S_1 := hS11.cell 1
  have S_2 := hS11.cell 2
  simp only [List.getElem?_toArray, List.getElem?_cons_zero, List.getElem?_cons_succ] at X_0 X_1 X_2 Y_0 Y_1 Y_2 P_0 P_1 P_2 Q_0 Q_1 Q_2 S_0 S_1 S_2
  go_wp2_with fail
  clear X_0 X_1 X_2 Y_0 Y_1 Y_2 P_0 P_1 P_2 Q_0 Q_1 Q_2 S_0 S_1 S_2
  obtain ⟨W12, hW12⟩ : ∃ W', W' = W11.alloc (.cells #[.slice F1 pn e1, .slice F2 cn e2, .slice F3 jn e3] 26) := ⟨_, rfl⟩
  have hk11 : Below W11.heap.size W11 W12 := by rw [hW12]; exact (Below.refl _ _).alloc (Nat.le_refl _) _
  have HZX : BK W12 W11.heap.size 26 #[.slice F1 pn e1, .slice F2 cn e2, .slice F3 jn e3] := by rw [hW12]; exact BK.new _ _ _
  rw [← hW12]
  clear hW12
  have hB12 := hB11.trans (hk11.mono hB11.size)
  have hX12 := hX11.below hk11 hX11.lt
  have hY12 := hY11.below hk11 hY11.lt
  have hP12 := hP11.below hk11 hP11.lt
  have hQ12 := hQ11.below hk11 hQ11.lt
  have hS12 := hS11.below hk11 hS11.lt
  have HTN : Hid (BK W12 W11.heap.size 26 #[.slice F1 pn e1, .slice F2 cn e2, .slice F3 jn e3]) := HZX
  have hT12 := HTN.out
  have HRP := Lib.hid (HRP.out.grow hk11 hk11.size)
  have HRQ := Lib.hid (HRQ.out.grow hk11 hk11.size)
  have HRS := Lib.hid (HRS.out.grow hk11 hk11.size)
  have HRT := Lib.hid (HRT.out.grow hk11 hk11.size)
  clear HZX
  obtain ⟨Wc, hWc⟩ : ∃ Wc, Wc = W12 := ⟨_, rfl⟩
  rw [← hWc] at hB12 hX12 hP12 hQ12 hS12 hT12 HRP HRQ HRS HRT ⊢
  have hXc := hX12
  have hPc := hP12
  have hQc := hQ12
  have hSc := hS12
  have hTc := hT12
  have hBc := hB12
  have hRc := Lib.hid (hR.out.grow hBc hBc.size)
  clear hWc
  have x_0 := fun d os => cell_regrown (hXc.cell 0) d os
  have x_1 := fun d os => cell_regrown (hXc.cell 1) d os
  have x_2 := fun d os => cell_regrown (hXc.cell 2) d os
  have p_0 := fun d os => cell_regrown (hPc.cell 0) d os
  have p_1 := fun d os => cell_regrown (hPc.cell 1) d os
  have p_2 := fun d os => cell_regrown (hPc.cell 2) d os
  have q_0 := fun d os => cell_regrown (hQc.cell 0) d os
  have q_1 := fun d os => cell_regrown (hQc.cell 1) d os
  have q_2 := fun d os => cell_regrown (hQc.cell 2) d os
  have s_0 := fun d os => cell_regrown (hSc.cell 0) d os
  have s_1 := fun d os => cell_regrown (hSc.cell 1) d os
  have s_2 := fun d os => cell_regrown (hSc.cell 2) d os
  have t_0 := fun d os => cell_regrown (hTc.cell 0) d os
  have t_1 := fun d os => cell_regrown (hTc.cell 1) d os
  have t_2 := fun d os => cell_regrown (hTc.cell 2) d os
  go_wp2_with fail
  refine wp_region_ch 29 [5, 7, 11, 14, 15, 17, 21, 24, 26, 27] hmo (by kernel_rfl) ?_
  simp only [List.take_succ_cons, List.take_zero, List.drop_succ_cons, List.drop_zero]
  repeat (refine wpC_q (by decide) (by decide) (fun K hK => ?_); go_simp; refine hK _ ?_; clear hK K)
  refine wpC_cg (ι := Unit) 36 #[.agg #[.slice A1 (pn + pn2) c1, .slice A2 k2 c2, .slice A3 k3 c3], .agg #[.slice B1 (pn + pn2) d1, .slice B2 k2 d2, .slice B3 k3 d3]] (fun _ => .bool true) (fun _ _ => True) (by decide) (by decide) (by go_simp) (fun w => by go_simp) stable_true (fun _ => stable_true) (fun W hW hΦ => ?_) (fun i1 hs1 => ?_)
  · obtain ⟨p, rfl⟩ := hW
    have hb := below_regrown Wc p.d p.os
    refine (rSame_true A1 (pn + pn2) c1 A2 k2 c2 A3 k3 c3 B1 d1 B2 d2 B3 d3 (joinR R R2) _ (HRP.out.grow hb hb.size) (HRQ.out.grow hb hb.size) (by omega) (by omega) (by omega)).mono ?_
    rintro e w' ⟨rfl, hbl⟩
    exact ⟨(), rfl, trivial, hbl⟩
  repeat (refine wpC_q (by decide) (by decide) (fun K hK => ?_); go_simp; refine hK _ ?_; clear hK K)
  refine wpC_v (ι := Unit) (fun _ => .bool true) (fun _ _ => True) (by decide) (by decide) rfl hs1 (fun _ => stable_true) (fun W _ _ => ⟨(), W, by go_simp, trivial, Below.refl _ _⟩) (fun i2 hs2 => ?_)
  repeat (refine wpC_q (by decide) (by decide) (fun K hK => ?_); go_simp; refine hK _ ?_; clear hK K)
  refine wpC_v (ι := Unit) (fun _ => .bool true) (fun _ _ => True) (by decide) (by decide) rfl hs2 (fun _ => stable_true) (fun W _ _ => ⟨(), W, by go_simp, trivial, Below.refl _ _⟩) (fun i3 hs3 => ?_)
  repeat (refine wpC_q (by decide) (by decide) (fun K hK => ?_); go_simp; refine hK _ ?_; clear hK K)
  refine wpC_cg (ι := Value) 43 #[.agg #[.slice pa pn pc, .slice ca cn cc, .slice ja jn jc]] (fun i => i) (fun i x => ∃ a1 b1 a2 b2 a3 b3, i = .agg #[.slice a1 pn b1, .slice a2 cn b2, .slice a3 jn b3] ∧ RD x x.heap.size a1 pn a2 cn a3 jn (revR R)) (by decide) (by decide) (by go_simp) (fun w => by go_simp) hs3 (fun i x y ⟨a1, a2, a3, a4, a5, a6, e, hd⟩ hb => ⟨a1, a2, a3, a4, a5, a6, e, hd.grow hb hb.size⟩) (fun W hW _ => ?_) (fun i4 hs4 => ?_)
  · obtain ⟨p, rfl⟩ := hW
    have hb := below_regrown Wc p.d p.os
    refine (rReverse_in pa pn pc ca cn cc ja jn jc R _ (hRc.out.grow hb hb.size) hv'.out).mono ?_
    rintro e w' ⟨a1, b1, a2, b2, a3, b3, rfl, ⟨o1, o2, o3⟩, hbl⟩
    exact ⟨_, rfl, ⟨a1, b1, a2, b2, a3, b3, rfl, o1.sl pC_len, o2.sl cC_len, o3.sl jC_len⟩, hbl⟩
  refine wpC_cg (ι := Unit) 36 #[.agg #[.slice E1 pn f1, .slice E2 cn f2, .slice E3 jn f3], i4] (fun _ => .bool true) (fun _ _ => True) (by decide) (by decide) (by go_simp) (fun w => by go_simp) hs4 (fun _ => stable_true) (fun W hW hΦ => ?_) (fun i5 hs5 => ?_)
  · obtain ⟨p, rfl⟩ := hW
    have hb := below_regrown Wc p.d p.os
    obtain ⟨-, a1, b1, a2, b2, a3, b3, rfl, hd⟩ := hΦ
    refine (rSame_true E1 pn f1 E2 cn f2 E3 jn f3 a1 b1 a2 b2 a3 b3 (revR R) _ (HRS.out.grow hb hb.size) hd (by omega) (by omega) (by omega)).mono ?_
    rintro e w' ⟨rfl, hbl⟩
    exact ⟨(), rfl, trivial, hbl⟩
  repeat (refine wpC_q (by decide) (by decide) (fun K hK => ?_); go_simp; refine hK _ ?_; clear hK K)
  refine wpC_v (ι := Unit) (fun _ => .bool true) (fun _ _ => True) (by decide) (by decide) rfl hs5 (fun _ => stable_true) (fun W _ _ => ⟨(), W, by go_simp, trivial, Below.refl _ _⟩) (fun i6 hs6 => ?_)
  repeat (refine wpC_q (by decide) (by decide) (fun K hK => ?_); go_simp; refine hK _ ?_; clear hK K)
  refine wpC_v (ι := Unit) (fun _ => .bool true) (fun _ _ => True) (by decide) (by decide) rfl hs6 (fun _ => stable_true) (fun W _ _ => ⟨(), W, by go_simp, trivial, Below.refl _ _⟩) (fun i7 hs7 => ?_)
  repeat (refine wpC_q (by decide) (by decide) (fun K hK => ?_); go_simp; refine hK _ ?_; clear hK K)
  refine wpC_cg (ι := Unit) 36 #[.agg #[.slice F1 pn e1, .slice F2 cn e2, .slice F3 jn e3], .agg #[.slice pa pn pc, .slice ca cn cc, .slice ja jn jc]] (fun _ => .bool true) (fun _ _ => True) (by decide) (by decide) (by go_simp) (fun w => by go_simp) hs7 (fun _ => stable_true) (fun W hW hΦ => ?_) (fun i8 hs8 => ?_)
  · obtain ⟨p, rfl⟩ := hW
    have hb := below_regrown Wc p.d p.os
    refine (rSame_true F1 pn e1 F2 cn e2 F3 jn e3 pa pc ca cc ja jc (R) _ (HRT.out.grow hb hb.size) (hRc.out.grow hb hb.size) (by omega) (by omega) (by omega)).mono ?_
    rintro e w' ⟨rfl, hbl⟩
    exact ⟨(), rfl, trivial, hbl⟩
  repeat (refine wpC_q (by decide) (by decide) (fun K hK => ?_); go_simp; refine hK _ ?_; clear hK K)
  refine wpC_v (ι := Unit) (fun _ => .bool true) (fun _ _ => True) (by decide) (by decide) rfl hs8 (fun _ => stable_true) (fun W _ _ => ⟨(), W, by go_simp, trivial, Below.refl _ _⟩) (fun i9 hs9 => ?_)
  repeat (refine wpC_q (by decide) (by decide) (fun K hK => ?_); go_simp; refine hK _ ?_; clear hK K)
  refine wpC_cg (ι := Unit) 20 #[] (fun _ => .bool true) (fun _ _ => True) (by decide) (by decide) (by go_simp) (fun w => by go_simp) hs9 (fun _ => stable_true) (fun W hW hΦ => ?_) (fun i10 hs10 => ?_)
  · refine (known_any W).mono ?_
    rintro e w' ⟨rfl, hbl⟩
    exact ⟨(), rfl, trivial, hbl⟩
  repeat (refine wpC_q (by decide) (by decide) (fun K hK => ?_); go_simp; refine hK _ ?_; clear hK K)
  refine wpC_nil ?_
  intro We hke _
  clear hs1 hs2 hs3 hs4 hs5 hs6 hs7 hs8 hs9 hs10 x_0 x_1 x_2 p_0 p_1 p_2 q_0 q_1 q_2 s_0 s_1 s_2 t_0 t_1 t_2
  go_wp2_with fail
  go_ret
  exact ⟨rfl, hBc.trans (hke.mono hBc.size)⟩
end Go.Proofs.Ytomloklckpcaiaa
