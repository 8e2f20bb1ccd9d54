/- hairpinref01.Same: two roads that are one road. -/
import Derived.Test.YtomloklckpcaiaaKnown
import Derived.Test.YtomloklckpcaiaaCorn
namespace Go.Proofs.Ytomloklckpcaiaa
open Go.RowKit Go.Shelf Go.Sort Go.Proofs

set_option maxRecDepth 100000 in
set_option maxHeartbeats 4000000 in
theorem rSame_true (pa : Option Addr) (pn pc : Nat) (ca : Option Addr) (cn cc : Nat) (ja : Option Addr) (jn jc : Nat) (pa' : Option Addr) (pc' : Nat) (ca' : Option Addr) (cc' : Nat) (ja' : Option Addr) (jc' : Nat) (R : Road) (w : World)
    (h : RD w w.heap.size pa pn ca cn ja jn R) (h' : RD w w.heap.size pa' pn ca' cn ja' jn R) (hpn : pn ≤ 20000) (hcn : cn ≤ 20000) (hjn : jn ≤ 20000) :
    Calls Try.prog 36 #[.agg #[.slice pa pn pc, .slice ca cn cc, .slice ja jn jc], .agg #[.slice pa' pn pc', .slice ca' cn cc', .slice ja' jn jc']] w fun e w' => e = .returned (.bool true) ∧ Below w.heap.size w w' := by
  have hR := Lib.hid h
  have hR' := Lib.hid h'
  have HL0 := Lib.hid h.p.1
  have HL1 := Lib.hid h.c.1
  have HL2 := Lib.hid h.j.1
  clear h h'
  obtain ⟨W0, hW0⟩ : ∃ W0, W0 = (w.alloc (.cells #[.slice pa pn pc, .slice ca cn cc, .slice ja jn jc] 26)).alloc (.cells #[.slice pa' pn pc', .slice ca' cn cc', .slice ja' jn jc'] 26) := ⟨_, rfl⟩
  have hb : Below w.heap.size w W0 := by rw [hW0]; exact ((Below.refl w.heap.size w).alloc (Nat.le_refl _) _).alloc (by simp) _
  have hX : BK W0 w.heap.size 26 #[.slice pa pn pc, .slice ca cn cc, .slice ja jn jc] := by rw [hW0]; exact (BK.new w _ _).alloc _
  have hY : BK W0 (w.heap.size + 1) 26 #[.slice pa' pn pc', .slice ca' cn cc', .slice ja' jn jc'] := by rw [hW0]; have := BK.new (w.alloc (.cells #[.slice pa pn pc, .slice ca cn cc, .slice ja jn jc] 26)) 26 #[.slice pa' pn pc', .slice ca' cn cc', .slice ja' jn jc']; rw [World.size_alloc] at this; exact this
  go_enter Try.func36, Try.ntmps36
  go_wp2_with fail
  rw [← hW0]
  clear hW0
  obtain ⟨V0, hV0⟩ : ∃ V, V = W0 := ⟨_, rfl⟩
  rw [← hV0] at hX hY hb ⊢
  clear hV0
  have hs0 := hb.size
  have HX0 := Lib.hid hX
  have HY0 := Lib.hid hY
  have HB0 := Lib.hid hb
  clear hX hY hb
  go_loopw [5] (fun i wr => ∃ k : Nat, k ≤ pn ∧ i = .int .i64 k ∧ Below V0.heap.size V0 wr)
    (fun i _ => pn - (intOf i).toNat)
  case atStart => exact ⟨0, Nat.zero_le _, rfl, Below.refl _ _⟩
  case round =>
    obtain ⟨k, hk0, rfl, hbr⟩ := hrel
    have hX := HX0.out.below hbr HX0.out.lt
    have hY := HY0.out.below hbr HY0.out.lt
    have hb := HB0.out.trans (hbr.mono hs0)
    have hsz := hb.size
    have x0 := hX.cell 0
    have x1 := hX.cell 1
    have x2 := hX.cell 2
    have y0 := hY.cell 0
    have y1 := hY.cell 1
    have y2 := hY.cell 2
    simp only [List.getElem?_toArray, List.getElem?_cons_zero, List.getElem?_cons_succ] at x0 x1 x2 y0 y1 y2
    by_cases hlt0 : k < pn
    · have hkl : k < R.ps.length := by rw [← HL0.out]; exact hlt0
      obtain ⟨b, off, hA, hbB, c0, c1, c2, c3, c4⟩ := PS.at_ (hR.out.p.grow hb hsz) (k := k) hkl
      obtain ⟨b', off', hA', hbB', d0, d1, d2, d3, d4⟩ := PS.at_ (hR'.out.p.grow hb hsz) (k := k) hkl
      generalize R.ps[k]'hkl = x at c0 c1 c2 c3 c4 d0 d1 d2 d3 d4
      clear hkl
      have hi1 : (0 : Int) ≤ (k : Int) := by omega
      have hi2 : (k : Int) < (pn : Int) := by omega
      have HXX := Lib.hid hX
      have HYY := Lib.hid hY
      clear hX hY
      subst hA
      subst hA'
      go_wp2_with fail
      go_quiet (fail)
      go_wp2_with fail
      go_roundw
      case rel => exact ⟨k + 1, by omega, by go_num, below_drewN hbr _⟩
      case measure => simp [intOf]; omega
    · obtain rfl : k = pn := by omega
      go_wp2_with fail
      clear x0 x1 x2 y0 y1 y2
      clear hbr
      obtain ⟨V1, hV1⟩ : ∃ V, V = wr := ⟨_, rfl⟩
      rw [← hV1] at hX hY hb ⊢
      clear hV1
      have hs1 := hb.size
      have HX1 := Lib.hid hX
      have HY1 := Lib.hid hY
      have HB1 := Lib.hid hb
      clear hX hY hb
      go_loopw [6] (fun i wr => ∃ m : Nat, m ≤ cn ∧ i = .int .i64 m ∧ Below V1.heap.size V1 wr)
        (fun i _ => cn - (intOf i).toNat)
      case atStart => exact ⟨0, Nat.zero_le _, rfl, Below.refl _ _⟩
      case round =>
        obtain ⟨m, hk1, rfl, hbr⟩ := hrel
        have hX := HX1.out.below hbr HX1.out.lt
        have hY := HY1.out.below hbr HY1.out.lt
        have hb := HB1.out.trans (hbr.mono hs1)
        have hsz := hb.size
        have x0 := hX.cell 0
        have x1 := hX.cell 1
        have x2 := hX.cell 2
        have y0 := hY.cell 0
        have y1 := hY.cell 1
        have y2 := hY.cell 2
        simp only [List.getElem?_toArray, List.getElem?_cons_zero, List.getElem?_cons_succ] at x0 x1 x2 y0 y1 y2
        by_cases hlt1 : m < cn
        · have hkl : m < R.cs.length := by rw [← HL1.out]; exact hlt1
          obtain ⟨b, off, hA, hbB, c0, c1⟩ := CS.at_ (hR.out.c.grow hb hsz) (k := m) hkl
          obtain ⟨b', off', hA', hbB', d0, d1⟩ := CS.at_ (hR'.out.c.grow hb hsz) (k := m) hkl
          generalize R.cs[m]'hkl = x at c0 c1 d0 d1
          clear hkl
          have hi1 : (0 : Int) ≤ (m : Int) := by omega
          have hi2 : (m : Int) < (cn : Int) := by omega
          have HXX := Lib.hid hX
          have HYY := Lib.hid hY
          clear hX hY
          subst hA
          subst hA'
          go_wp2_with fail
          go_quiet (fail)
          go_wp2_with fail
          go_roundw
          case rel => exact ⟨m + 1, by omega, by go_num, below_drewN hbr _⟩
          case measure => simp [intOf]; omega
        · obtain rfl : m = cn := by omega
          go_wp2_with fail
          clear x0 x1 x2 y0 y1 y2
          clear hbr
          obtain ⟨V2, hV2⟩ : ∃ V, V = wr := ⟨_, rfl⟩
          rw [← hV2] at hX hY hb ⊢
          clear hV2
          have hs2 := hb.size
          have HX2 := Lib.hid hX
          have HY2 := Lib.hid hY
          have HB2 := Lib.hid hb
          clear hX hY hb
          go_loopw [7] (fun i wr => ∃ q : Nat, q ≤ jn ∧ i = .int .i64 q ∧ Below V2.heap.size V2 wr)
            (fun i _ => jn - (intOf i).toNat)
          case atStart => exact ⟨0, Nat.zero_le _, rfl, Below.refl _ _⟩
          case round =>
            obtain ⟨q, hk2, rfl, hbr⟩ := hrel
            have hX := HX2.out.below hbr HX2.out.lt
            have hY := HY2.out.below hbr HY2.out.lt
            have hb := HB2.out.trans (hbr.mono hs2)
            have hsz := hb.size
            have x0 := hX.cell 0
            have x1 := hX.cell 1
            have x2 := hX.cell 2
            have y0 := hY.cell 0
            have y1 := hY.cell 1
            have y2 := hY.cell 2
            simp only [List.getElem?_toArray, List.getElem?_cons_zero, List.getElem?_cons_succ] at x0 x1 x2 y0 y1 y2
            by_cases hlt2 : q < jn
            · have hkl : q < R.js.length := by rw [← HL2.out]; exact hlt2
              obtain ⟨b, off, hA, hbB, c0, c1, c2⟩ := JS.at_ (hR.out.j.grow hb hsz) (k := q) hkl
              obtain ⟨b', off', hA', hbB', d0, d1, d2⟩ := JS.at_ (hR'.out.j.grow hb hsz) (k := q) hkl
              generalize R.js[q]'hkl = x at c0 c1 c2 d0 d1 d2
              clear hkl
              have hi1 : (0 : Int) ≤ (q : Int) := by omega
              have hi2 : (q : Int) < (jn : Int) := by omega
              have HXX := Lib.hid hX
              have HYY := Lib.hid hY
              clear hX hY
              subst hA
              subst hA'
              go_wp2_with fail
              go_quiet (fail)
              go_wp2_with fail
              go_roundw
              case rel => exact ⟨q + 1, by omega, by go_num, below_drewN hbr _⟩
              case measure => simp [intOf]; omega
            · obtain rfl : q = jn := by omega
              go_wp2_with fail
              go_ret
              exact ⟨rfl, hb⟩
end Go.Proofs.Ytomloklckpcaiaa
