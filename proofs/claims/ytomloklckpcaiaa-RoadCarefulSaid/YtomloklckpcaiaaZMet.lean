/- careful and met: what RoadCareful asks of the pieces at a place, and of crests and junctions. -/
import Derived.Test.YtomloklckpcaiaaZRCorn
import Derived.Test.YtomloklckpcaiaaZReg
import Derived.Test.YtomloklckpcaiaaZCareM
import Derived.Test.YtomloklckpcaiaaZPG
namespace Go.Proofs.Ytomloklckpcaiaa
open Go.RowKit Go.Shelf Go.Sort Go.Proofs

set_option maxRecDepth 100000 in
/-- Not wider, better or less bent: the law's test says so. -/
theorem careful_true (x z : Piece) (h : carB x z = true) (w : World) :
    Calls Try.prog 48 #[pV x, pV z] w fun e w' => e = .returned (.bool true) ∧ Below w.heap.size w w' := by
  simp only [carB, Bool.and_eq_true, Bool.or_eq_true, decide_eq_true_eq] at h
  obtain ⟨h1, h2, h3⟩ := h
  have g1 : decide (z.wid ≤ x.wid) = true := by simpa using h1
  have g2 : decide (x.sur ≤ z.sur) = true := by simpa using h2
  simp only [pV]
  go_enter Try.func48, Try.ntmps48
  by_cases h4 : x.turn = 0
  · have g3 : (x.turn == 0) = true := by simpa using h4
    clear h1 h2 h3 h4
    go_wp2_with fail
    go_ret
    exact ⟨rfl, ((Below.refl _ _).alloc (Nat.le_refl _) _).alloc (by simp) _⟩
  · obtain ⟨h5, h6⟩ := h3.resolve_left h4
    have g3 : (x.turn == 0) = false := by simpa using h4
    have g4 : (z.turn == x.turn) = true := by simpa using h5
    have g5 : decide (z.rad ≤ x.rad) = true := by simpa using h6
    clear h1 h2 h3 h4 h5 h6
    go_wp2_with fail
    go_ret
    exact ⟨rfl, ((Below.refl _ _).alloc (Nat.le_refl _) _).alloc (by simp) _⟩
set_option maxRecDepth 100000 in
set_option maxHeartbeats 8000000 in
theorem met_true (pa : Option Addr) (pn pc : Nat) (ca : Option Addr) (cn cc : Nat) (ja : Option Addr) (jn jc : Nat) (R : Road) (pa2 : Option Addr) (pn2 pc2 : Nat) (ca2 : Option Addr) (cn2 cc2 : Nat) (ja2 : Option Addr) (jn2 jc2 : Nat) (R2 : Road) (w : World)
    (h : RD w w.heap.size pa pn ca cn ja jn R) (h2 : RD w w.heap.size pa2 pn2 ca2 cn2 ja2 jn2 R2) (hC : ∀ c ∈ R.cs, ∃ z ∈ R2.cs, z.pos = c.pos ∧ c.siz ≤ z.siz) (hJ : ∀ c ∈ R.js, c ∈ R2.js)
    (hcn : cn ≤ 20000) (hjn : jn ≤ 20000) (hcn2 : cn2 ≤ 20000) (hjn2 : jn2 ≤ 20000) :
    Calls Try.prog 49 #[.agg #[.slice pa pn pc, .slice ca cn cc, .slice ja jn jc], .agg #[.slice pa2 pn2 pc2, .slice ca2 cn2 cc2, .slice ja2 jn2 jc2]] w fun e w' => e = .returned (.bool true) ∧ Below w.heap.size w w' := by
  have hR := Lib.hid h
  have hR2 := Lib.hid h2
  have HC := Lib.hid hC
  have HJ := Lib.hid hJ
  have HL1c := Lib.hid h.c.1
  have HL1j := Lib.hid h.j.1
  have HL2c := Lib.hid h2.c.1
  have HL2j := Lib.hid h2.j.1
  have hmo : Try.prog.follows .mixedOrders = true := by kernel_rfl
  clear h h2 hC hJ
  obtain ⟨V0, hV0⟩ : ∃ W0, W0 = (w.alloc (.cells #[.slice pa pn pc, .slice ca cn cc, .slice ja jn jc] 26)).alloc (.cells #[.slice pa2 pn2 pc2, .slice ca2 cn2 cc2, .slice ja2 jn2 jc2] 26) := ⟨_, rfl⟩
  have hb : Below w.heap.size w V0 := by rw [hV0]; exact ((Below.refl w.heap.size w).alloc (Nat.le_refl _) _).alloc (by simp) _
  have HX0 : Hid (BK V0 w.heap.size 26 #[.slice pa pn pc, .slice ca cn cc, .slice ja jn jc]) := by show BK _ _ _ _; rw [hV0]; exact (BK.new w _ _).alloc _
  have HY0 : Hid (BK V0 (w.heap.size + 1) 26 #[.slice pa2 pn2 pc2, .slice ca2 cn2 cc2, .slice ja2 jn2 jc2]) := by show BK _ _ _ _; rw [hV0]; have := BK.new (w.alloc (.cells #[.slice pa pn pc, .slice ca cn cc, .slice ja jn jc] 26)) 26 #[.slice pa2 pn2 pc2, .slice ca2 cn2 cc2, .slice ja2 jn2 jc2]; rw [World.size_alloc] at this; exact this
  go_enter Try.func49, Try.ntmps49
  go_wp2_with fail
  rw [← hV0]
  clear hV0
  have hs0 := hb.size
  have HB0 := Lib.hid hb
  clear hb
  go_loopw [5] (fun i wr => ∃ k : Nat, k ≤ cn ∧ i = .int .i64 k ∧ Below V0.heap.size V0 wr)
    (fun i _ => cn - (intOf i).toNat)
  case atStart => exact ⟨0, Nat.zero_le _, rfl, Below.refl _ _⟩
  case round =>
    obtain ⟨i, hi, rfl, hbr⟩ := hrel
    have hX := HX0.out.below hbr HX0.out.lt
    have hY := HY0.out.below hbr HY0.out.lt
    have hb := HB0.out.trans (hbr.mono hs0)
    have hsz := hbr.size
    have x0 := hX.cell 0
    have x1 := hX.cell 1
    have x2 := hX.cell 2
    have y0 := hY.cell 0
    have y1 := hY.cell 1
    have y2 := hY.cell 2
    simp only [List.getElem?_toArray, List.getElem?_cons_zero, List.getElem?_cons_succ] at x0 x1 x2 y0 y1 y2
    by_cases hlt : i < cn
    · have hil : i < R.cs.length := by rw [← HL1c.out]; exact hlt
      obtain ⟨m, hm, hwit⟩ : ∃ m, ∃ hm : m < R2.cs.length, R2.cs[m].pos = R.cs[i].pos ∧ R.cs[i].siz ≤ R2.cs[m].siz := by
        obtain ⟨z, hz, e1, e2⟩ := HC.out _ (List.getElem_mem hil)
        obtain ⟨m, hm, rfl⟩ := List.getElem_of_mem hz
        exact ⟨m, hm, e1, e2⟩
      generalize hva : R.cs[i]'hil = va at hwit
      have HW : Hid (∀ j (hj : j < R2.cs.length), j = m → R2.cs[j].pos = va.pos ∧ va.siz ≤ R2.cs[j].siz) := fun j hj e => by subst e; exact hwit
      have hmn : m < cn2 := by rw [HL2c.out]; exact hm
      have hi1 : (0 : Int) ≤ (i : Int) := by omega
      have hi2 : (i : Int) < (cn : Int) := by omega
      clear hwit hm
      go_wp2_with fail
      go_loopw [6, 7] (fun f q wq => ∃ (k : Nat) (bo : Bool), k ≤ cn2 ∧ q = .int .i64 k ∧ f = .bool bo ∧ Hid (m < k → bo = true) ∧ Below wr.heap.size wr wq)
        (fun _ q _ => cn2 - (intOf q).toNat)
      case atStart => exact ⟨0, false, Nat.zero_le _, rfl, rfl, fun h => absurd h (Nat.not_lt_zero _), Below.refl _ _⟩
      case round =>
        obtain ⟨k, bo, hk, rfl, rfl, hfo, hbq⟩ := hrel
        clear hX hY hb x0 x1 x2 y0 y1 y2
        have hbq' := hbr.trans (hbq.mono hsz)
        have hX := HX0.out.below hbq' HX0.out.lt
        have hY := HY0.out.below hbq' HY0.out.lt
        have hb := HB0.out.trans (hbq'.mono hs0)
        have hsq := hb.size
        have x0 := hX.cell 0
        have x1 := hX.cell 1
        have x2 := hX.cell 2
        have y0 := hY.cell 0
        have y1 := hY.cell 1
        have y2 := hY.cell 2
        simp only [List.getElem?_toArray, List.getElem?_cons_zero, List.getElem?_cons_succ] at x0 x1 x2 y0 y1 y2
        by_cases hlt2 : k < cn2
        · have hk1 : (0 : Int) ≤ (k : Int) := by omega
          have hk2 : (k : Int) < (cn2 : Int) := by omega
          cases bo
          case true =>
            go_wp2_with fail
            go_quiet (fail)
            go_wp2_with fail
            go_roundw
            case rel => exact ⟨k + 1, true, by omega, by go_num, rfl, fun _ => rfl, below_drewN hbq _⟩
            case measure => simp [intOf]; omega
          case false =>
            have hkl : k < R2.cs.length := by rw [← HL2c.out]; exact hlt2
            obtain ⟨b, off, hA, hbB, c0, c1⟩ := CS.at_ (hR.out.c.grow hb hsq) (k := i) hil
            obtain ⟨b', off', hA', hbB', d0, d1⟩ := CS.at_ (hR2.out.c.grow hb hsq) (k := k) hkl
            rw [hva] at c0 c1
            generalize hvb : R2.cs[k]'hkl = vb at d0 d1
            subst hA
            subst hA'
            by_cases e1 : vb.pos = va.pos
            · have g1 : (vb.pos == va.pos) = true := by simpa using e1
              by_cases e2 : va.siz ≤ vb.siz
              · have g2 : decide (va.siz ≤ vb.siz) = true := by simpa using e2
                clear e1 e2
                go_wp2_with fail
                go_quiet (fail)
                go_wp2_with fail
                go_roundw
                case rel => exact ⟨k + 1, true, by omega, by go_num, rfl, fun _ => rfl, below_drewN hbq _⟩
                case measure => simp [intOf]; omega
              · have g2 : decide (va.siz ≤ vb.siz) = false := by simpa using e2
                have HNO : Hid (k ≠ m) := fun h => e2 (by rw [← hvb]; exact (HW.out k hkl h).2)
                clear e1 e2
                go_wp2_with fail
                go_quiet (fail)
                go_wp2_with fail
                go_roundw
                case rel => exact ⟨k + 1, false, by omega, by go_num, rfl, fun h => by have h1 := HNO.out; by_cases h2 : m < k; exact hfo.out h2; omega, below_drewN hbq _⟩
                case measure => simp [intOf]; omega
            · have g1 : (vb.pos == va.pos) = false := by simpa using e1
              have HNO : Hid (k ≠ m) := fun h => e1 (by rw [← hvb]; exact (HW.out k hkl h).1)
              clear e1
              go_wp2_with fail
              go_quiet (fail)
              go_wp2_with fail
              go_roundw
              case rel => exact ⟨k + 1, false, by omega, by go_num, rfl, fun h => by have h1 := HNO.out; by_cases h2 : m < k; exact hfo.out h2; omega, below_drewN hbq _⟩
              case measure => simp [intOf]; omega
        · obtain rfl : k = cn2 := by omega
          obtain rfl : bo = true := hfo.out hmn
          go_wp2_with fail
          go_roundw
          case rel => exact ⟨i + 1, by omega, by go_num, hbq'⟩
          case measure => simp [intOf]; omega
    · obtain rfl : i = cn := by omega
      go_wp2_with fail
      clear x0 x1 x2 y0 y1 y2 hbr
      obtain ⟨V1, hV1⟩ : ∃ V, V = wr := ⟨_, rfl⟩
      rw [← hV1] at hX hY hb ⊢
      clear hV1 hsz hs0 HX0 HY0 HB0
      have hs0 : w.heap.size ≤ V1.heap.size := hb.size
      have HX0 := Lib.hid hX
      have HY0 := Lib.hid hY
      have HB0 := Lib.hid hb
      clear hX hY hb
      go_loopw [8] (fun i wr => ∃ k : Nat, k ≤ jn ∧ i = .int .i64 k ∧ Below V1.heap.size V1 wr)
        (fun i _ => jn - (intOf i).toNat)
      case atStart => exact ⟨0, Nat.zero_le _, rfl, Below.refl _ _⟩
      case round =>
        obtain ⟨i, hi, rfl, hbr⟩ := hrel
        have hX := HX0.out.below hbr HX0.out.lt
        have hY := HY0.out.below hbr HY0.out.lt
        have hb := HB0.out.trans (hbr.mono hs0)
        have hsz := hbr.size
        have x0 := hX.cell 0
        have x1 := hX.cell 1
        have x2 := hX.cell 2
        have y0 := hY.cell 0
        have y1 := hY.cell 1
        have y2 := hY.cell 2
        simp only [List.getElem?_toArray, List.getElem?_cons_zero, List.getElem?_cons_succ] at x0 x1 x2 y0 y1 y2
        by_cases hlt : i < jn
        · have hil : i < R.js.length := by rw [← HL1j.out]; exact hlt
          obtain ⟨m, hm, hwit⟩ : ∃ m, ∃ hm : m < R2.js.length, R2.js[m] = R.js[i] := by
            obtain ⟨m, hm, e1⟩ := List.getElem_of_mem (HJ.out _ (List.getElem_mem hil))
            exact ⟨m, hm, e1⟩
          generalize hva : R.js[i]'hil = va at hwit
          have HW : Hid (∀ j (hj : j < R2.js.length), j = m → R2.js[j] = va) := fun j hj e => by subst e; exact hwit
          have hmn : m < jn2 := by rw [HL2j.out]; exact hm
          have hi1 : (0 : Int) ≤ (i : Int) := by omega
          have hi2 : (i : Int) < (jn : Int) := by omega
          clear hwit hm
          go_wp2_with fail
          go_loopw [9, 10] (fun f q wq => ∃ (k : Nat) (bo : Bool), k ≤ jn2 ∧ q = .int .i64 k ∧ f = .bool bo ∧ Hid (m < k → bo = true) ∧ Below wr.heap.size wr wq)
            (fun _ q _ => jn2 - (intOf q).toNat)
          case atStart => exact ⟨0, false, Nat.zero_le _, rfl, rfl, fun h => absurd h (Nat.not_lt_zero _), Below.refl _ _⟩
          case round =>
            obtain ⟨k, bo, hk, rfl, rfl, hfo, hbq⟩ := hrel
            clear hX hY hb x0 x1 x2 y0 y1 y2
            have hbq' := hbr.trans (hbq.mono hsz)
            have hX := HX0.out.below hbq' HX0.out.lt
            have hY := HY0.out.below hbq' HY0.out.lt
            have hb := HB0.out.trans (hbq'.mono hs0)
            have hsq := hb.size
            have x0 := hX.cell 0
            have x1 := hX.cell 1
            have x2 := hX.cell 2
            have y0 := hY.cell 0
            have y1 := hY.cell 1
            have y2 := hY.cell 2
            simp only [List.getElem?_toArray, List.getElem?_cons_zero, List.getElem?_cons_succ] at x0 x1 x2 y0 y1 y2
            by_cases hlt2 : k < jn2
            · have hk1 : (0 : Int) ≤ (k : Int) := by omega
              have hk2 : (k : Int) < (jn2 : Int) := by omega
              cases bo
              case true =>
                go_wp2_with fail
                go_quiet (fail)
                go_wp2_with fail
                go_roundw
                case rel => exact ⟨k + 1, true, by omega, by go_num, rfl, fun _ => rfl, below_drewN hbq _⟩
                case measure => simp [intOf]; omega
              case false =>
                have hkl : k < R2.js.length := by rw [← HL2j.out]; exact hlt2
                obtain ⟨b, off, hA, hbB, c0, c1, c2⟩ := JS.at_ (hR.out.j.grow hb hsq) (k := i) hil
                obtain ⟨b', off', hA', hbB', d0, d1, d2⟩ := JS.at_ (hR2.out.j.grow hb hsq) (k := k) hkl
                rw [hva] at c0 c1 c2
                generalize hvb : R2.js[k]'hkl = vb at d0 d1 d2
                subst hA
                subst hA'
                by_cases e1 : vb.pos = va.pos
                · have g1 : (vb.pos == va.pos) = true := by simpa using e1
                  by_cases e2 : vb.arms = va.arms
                  · have g2 : (vb.arms == va.arms) = true := by simpa using e2
                    by_cases e3 : vb.way = va.way
                    · have g3 : (vb.way == va.way) = true := by simpa using e3
                      clear e1 e2 e3
                      go_wp2_with fail
                      go_quiet (fail)
                      go_wp2_with fail
                      go_roundw
                      case rel => exact ⟨k + 1, true, by omega, by go_num, rfl, fun _ => rfl, below_drewN hbq _⟩
                      case measure => simp [intOf]; omega
                    · have g3 : (vb.way == va.way) = false := by simpa using e3
                      have HNO : Hid (k ≠ m) := fun h => e3 (by rw [← hvb, HW.out k hkl h])
                      clear e1 e2 e3
                      go_wp2_with fail
                      go_quiet (fail)
                      go_wp2_with fail
                      go_roundw
                      case rel => exact ⟨k + 1, false, by omega, by go_num, rfl, fun h => by have h1 := HNO.out; by_cases h2 : m < k; exact hfo.out h2; omega, below_drewN hbq _⟩
                      case measure => simp [intOf]; omega
                  · have g2 : (vb.arms == va.arms) = false := by simpa using e2
                    have HNO : Hid (k ≠ m) := fun h => e2 (by rw [← hvb, HW.out k hkl h])
                    clear e1 e2
                    go_wp2_with fail
                    go_quiet (fail)
                    go_wp2_with fail
                    go_roundw
                    case rel => exact ⟨k + 1, false, by omega, by go_num, rfl, fun h => by have h1 := HNO.out; by_cases h2 : m < k; exact hfo.out h2; omega, below_drewN hbq _⟩
                    case measure => simp [intOf]; omega
                · have g1 : (vb.pos == va.pos) = false := by simpa using e1
                  have HNO : Hid (k ≠ m) := fun h => e1 (by rw [← hvb, HW.out k hkl h])
                  clear e1
                  go_wp2_with fail
                  go_quiet (fail)
                  go_wp2_with fail
                  go_roundw
                  case rel => exact ⟨k + 1, false, by omega, by go_num, rfl, fun h => by have h1 := HNO.out; by_cases h2 : m < k; exact hfo.out h2; omega, below_drewN hbq _⟩
                  case measure => simp [intOf]; omega
            · obtain rfl : k = jn2 := by omega
              obtain rfl : bo = true := hfo.out hmn
              go_wp2_with fail
              go_roundw
              case rel => exact ⟨i + 1, by omega, by go_num, hbq'⟩
              case measure => simp [intOf]; omega
        · obtain rfl : i = jn := by omega
          go_wp2_with fail
          go_ret
          exact ⟨rfl, hb⟩
end Go.Proofs.Ytomloklckpcaiaa
