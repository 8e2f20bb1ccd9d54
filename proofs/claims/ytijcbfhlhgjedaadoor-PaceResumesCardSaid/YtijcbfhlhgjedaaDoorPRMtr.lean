/- The document's times: meter and Between. -/
import Derived.Test.YtijcbfhlhgjedaaDoorPCBBase
import Derived.Test.YtijcbfhlhgjedaaDoorPCBRoad
import Derived.Test.YtijcbfhlhgjedaaDoorPCBLeaf
import Derived.Test.YtijcbfhlhgjedaaDoorPCBCheck
import Derived.Test.YtijcbfhlhgjedaaDoorPCBValid
import Derived.Test.YtijcbfhlhgjedaaDoorPCBFind
import Derived.Test.YtijcbfhlhgjedaaDoorPCBReg
import Derived.Test.YtijcbfhlhgjedaaDoorPCBGrouped
import Derived.Test.YtijcbfhlhgjedaaDoorPCBPG
import Derived.Test.YtijcbfhlhgjedaaDoorPCBBackM
import Derived.Test.YtijcbfhlhgjedaaDoorPCBStr
import Derived.Test.YtijcbfhlhgjedaaDoorPCBOpen
import Derived.Test.YtijcbfhlhgjedaaDoorPCBReg7
import Derived.Test.YtijcbfhlhgjedaaDoorPCSpd
import Derived.Test.YtijcbfhlhgjedaaDoorPCPRow
import Derived.Test.YtijcbfhlhgjedaaDoorPCMtr
import Derived.Test.YtijcbfhlhgjedaaDoorPCReg8
import Derived.Test.YtijcbfhlhgjedaaDoorPCSpCk
import Derived.Test.YtijcbfhlhgjedaaDoorPCPlanM
import Derived.Test.YtijcbfhlhgjedaaDoorPCLast
import Derived.Test.YtijcbfhlhgjedaaDoorPCBeg
import Derived.Test.YtijcbfhlhgjedaaDoorPCBegB
import Derived.Test.YtijcbfhlhgjedaaDoorPCRoom
import Derived.Test.YtijcbfhlhgjedaaDoorPCCallsB
import Derived.Test.YtijcbfhlhgjedaaDoorPCPlan
import Derived.Test.YtijcbfhlhgjedaaDoorPCBetw
import Derived.Test.YtijcbfhlhgjedaaDoorPCKn03P
import Derived.Test.YtijcbfhlhgjedaaDoorPCRef3
import Derived.Test.YtijcbfhlhgjedaaDoorPCRCallsB
namespace Go.Proofs.YtijcbfhlhgjedaaDoor
open Go.RowKit Go.Shelf Go.Sort Go.Proofs

theorem at_ex {ps : List Piece} {x : Int} (h0 : 0 ≤ x) (h1 : x < sumL ps) : ∃ i, At ps x i := by
  have key : ∀ k, k ≤ ps.length → x < sumL (ps.take k) → ∃ i, At ps x i := by
    intro k
    induction k with
    | zero => intro _ hx; simp [sumL] at hx; omega
    | succ k ih =>
      intro hk hx
      by_cases hy : x < sumL (ps.take k)
      · exact ih (by omega) hy
      · exact ⟨k, by omega, by omega, hx⟩
  exact key ps.length (Nat.le_refl _) (by rw [List.take_length]; exact h1)
set_option maxRecDepth 100000 in
set_option maxHeartbeats 8000000 in
theorem meter_any (place : Nat) (x : Piece) (pa : Option Addr) (pn pc : Nat) (ca : Option Addr) (cn cc : Nat) (ja : Option Addr) (jn jc : Nat) (R : Road) (ra : Option Addr) (rn rc : Nat) (sa : Option Addr) (sn sc : Nat) (S : Spd) (w : World)
    (h : RD w w.heap.size pa pn ca cn ja jn R) (hD : SD w w.heap.size ra rn sa sn S) (hv : OK R) (hS : SOK S) (hx : (units R.ps)[place]? = some x) :
    Calls Tryd.prog 66 #[.agg #[.slice pa pn pc, .slice ca cn cc, .slice ja jn jc], .agg #[.int .i64 S.least, .int .i64 S.most, .slice ra rn rc, .slice sa sn sc], .int .i64 place] w fun e w' =>
      e = .returned (.tuple #[.int .i64 (mQ S x), .int .i64 (mSl S x)]) ∧ Below w.heap.size w w' := by
  have HR := Lib.hid h
  have HD := Lib.hid hD
  have HV := Lib.hid hv
  have HS := Lib.hid hS
  have hpl : (place : Int) < sumL R.ps := by
    have h1 := (List.getElem?_eq_some_iff.1 hx).1
    have h2 := units_len (fun q hq => by have := (pOk_len (hv.pk q hq)).1; omega) (ps := R.ps)
    omega
  have hn1 := hv.n1
  obtain ⟨i0, hat⟩ := at_ex (x := (place : Int)) (by omega) hpl
  obtain ⟨hil, hlo, hhi⟩ := hat
  have hpi := List.getElem?_eq_getElem hil
  have hux := at_units (fun q hq => by have := pOk_len (hv.pk q hq); omega) (by omega) ⟨hil, hlo, hhi⟩ hpi
  rw [Int.toNat_natCast] at hux
  have hxe : x = one R.ps[i0] := by rw [hx] at hux; exact Option.some.inj hux
  have hsu := sumL_take R.ps i0 hil
  obtain ⟨p, hpe⟩ : ∃ p, R.ps[i0]'hil = p := ⟨_, rfl⟩
  have hp : pOk p = true := by rw [← hpe]; exact hv.pk _ (List.getElem_mem hil)
  obtain ⟨lo, hi, hrw⟩ : ∃ lo hi, rowS S p = (lo, hi) := ⟨_, _, rfl⟩
  obtain ⟨sw, hsw⟩ : ∃ sw, surS S p = sw := ⟨_, rfl⟩
  have HX : Hid (mQ S x = 10000000 / ((hi * sw + 99) / 100) ∧ mSl S x = (10000000 + max 1 (lo * sw / 100) - 1) / max 1 (lo * sw / 100)) := by
    rw [hxe, hpe]
    show mQ S p = _ ∧ mSl S p = _
    unfold mQ mSl
    rw [hrw, hsw]
    exact ⟨rfl, rfl⟩
  obtain ⟨a1, a2, a3⟩ := rowS_bd hS p
  obtain ⟨b1, b2⟩ := surS_bd hS hp
  rw [hrw] at a1 a2 a3
  rw [hsw] at b1 b2
  dsimp only at a1 a2 a3
  have hsur : 1 ≤ p.sur ∧ p.sur ≤ 9 := by
    have hp2 := hp
    simp only [pOk, inR, Bool.and_eq_true, decide_eq_true_eq] at hp2
    exact hp2.2.2.2.1
  obtain ⟨s1, s2⟩ := hsur
  have hsn : sn = 9 := by rw [hD.s.1]; exact hS.s9
  obtain ⟨q, hq⟩ : ∃ q : Nat, p.sur = (q : Int) + 1 := ⟨(p.sur - 1).toNat, by omega⟩
  have hi1 : (0 : Int) ≤ (q : Int) := by omega
  have hi2 : (q : Int) < (sn : Int) := by omega
  have hws : IntKind.i64.wrap (p.sur - 1) = (q : Int) := by rw [hq]; exact (IntWalk.i64_in _ (by omega)).trans (by omega)
  have hsl : q < S.surf.length := by rw [hS.s9]; omega
  have HSU : Hid (S.surf[q]'hsl = sw) := by show _ = _; rw [← hsw]; unfold surS; rw [show (p.sur - 1).toNat = q by omega, List.getD, List.getElem?_eq_getElem hsl]; rfl
  have hl1 : lo * sw ≤ 70000 := by have := Int.mul_le_mul (show lo ≤ 700 by omega) b2 (by omega) (by omega); omega
  have hl0 : 1 ≤ lo * sw := by have := Int.mul_le_mul (show 1 ≤ lo by omega) b1 (by omega) (by omega); omega
  have hh1 : hi * sw ≤ 70000 := by have := Int.mul_le_mul a3 b2 (by omega) (by omega); omega
  have hh0 : 1 ≤ hi * sw := by have := Int.mul_le_mul (show 1 ≤ hi by omega) b1 (by omega) (by omega); omega
  have hwl : IntKind.i64.wrap (lo * sw) = lo * sw := IntWalk.i64_in _ (by omega)
  have hwh : IntKind.i64.wrap (hi * sw) = hi * sw := IntWalk.i64_in _ (by omega)
  have hmx : (if 1 < lo * sw / 100 then lo * sw / 100 else 1) = max 1 (lo * sw / 100) := by rw [Int.max_def]; split <;> split <;> omega
  have HRW := Lib.hid hrw
  have HPE : Hid (∀ hk : i0 < R.ps.length, R.ps[i0]'hk = p) := fun _ => hpe
  have HLP := Lib.hid h.p.1
  have HLR := Lib.hid hD.r.1
  have hrn : rn ≤ 30 := by rw [hD.r.1]; exact hS.r2
  have HLO := Lib.hid hlo
  have HHI : Hid ((place : Int) < sumL (R.ps.take i0) + p.len) := by show _ < _; rw [← hpe, ← hsu]; exact hhi
  have HIL := Lib.hid hil
  have hps : pn ≤ 2000 := by rw [h.p.1]; exact hv.p2
  have hpk := pOk_len hp
  clear h hD hv hS hx hpi hux hxe hsu hlo hhi hrw hsw hpe hp hq hsn
  obtain ⟨w0, hw0⟩ : ∃ w0, w0 = (w.alloc (.cells #[.slice pa pn pc, .slice ca cn cc, .slice ja jn jc] 26)).alloc (.cells #[.int .i64 S.least, .int .i64 S.most, .slice ra rn rc, .slice sa sn sc] 30) := ⟨_, rfl⟩
  have hB0 : Below w.heap.size w w0 := by rw [hw0]; exact ((Below.refl w.heap.size w).alloc (Nat.le_refl _) _).alloc (by simp) _
  have hX0 : BK w0 w.heap.size 26 #[.slice pa pn pc, .slice ca cn cc, .slice ja jn jc] := by rw [hw0]; exact (BK.new w _ _).alloc _
  have hY0 : BK w0 (w.heap.size + 1) 30 #[.int .i64 S.least, .int .i64 S.most, .slice ra rn rc, .slice sa sn sc] := by
    rw [hw0]; have := BK.new (w.alloc (.cells #[.slice pa pn pc, .slice ca cn cc, .slice ja jn jc] 26)) 30 #[.int .i64 S.least, .int .i64 S.most, .slice ra rn rc, .slice sa sn sc]; rw [World.size_alloc] at this; exact this
  go_enter Tryd.func66, Tryd.ntmps66
  go_wp2_with fail
  rw [← hw0]
  clear hw0
  have x0 := hX0.cell 0
  have x1 := hX0.cell 1
  have x2 := hX0.cell 2
  simp only [List.getElem?_toArray, List.getElem?_cons_zero, List.getElem?_cons_succ] at x0 x1 x2
  have hlX := hX0.lt
  have hlY := hY0.lt
  go_loopw [2, 8] (fun pl i wr => ∃ (k : Nat) (v : Int), k ≤ i0 ∧ i = .int .i64 k ∧ pl = .int .i64 v ∧ Hid (v = place - sumL (R.ps.take k)) ∧ w0 = wr)
    (fun _ i _ => i0 - (intOf i).toNat)
  case atStart => exact ⟨0, place, Nat.zero_le _, rfl, rfl, by show _ = _; simp [sumL], rfl⟩
  case round =>
    obtain ⟨k, v, hk, rfl, rfl, hv', rfl⟩ := hrel
    have hkl : k < R.ps.length := by have := HIL.out; omega
    obtain ⟨b, off, hA, hbB, c0, c1, c2, c3, c4⟩ := PS.at_ (HR.out.p.grow hB0 hB0.size) (k := k) hkl
    have hk1 : (0 : Int) ≤ (k : Int) := by omega
    have hk2 : (k : Int) < (pn : Int) := by have := HLP.out; omega
    have hstep := sumL_take R.ps k hkl
    have hpk2 := pOk_len (HV.out.pk _ (List.getElem_mem hkl))
    have hb1 := sumL_mono HV.out.pk (i := k) (j := i0) hk
    have hb0 := sumL_mono HV.out.pk (i := 0) (j := k) (Nat.zero_le _)
    rw [List.take_zero, sumL_nil] at hb0
    have hve := hv'.out
    have hlo := HLO.out
    have hvb : 0 ≤ v ∧ v ≤ 100000 := by omega
    obtain ⟨vb1, vb2⟩ := hvb
    by_cases hlt : k < i0
    · have hb2 := sumL_mono HV.out.pk (i := k + 1) (j := i0) hlt
      have hge : (R.ps[k]'hkl).len ≤ v := by omega
      have hnew : Hid (v - (R.ps[k]'hkl).len = place - sumL (R.ps.take (k + 1))) := by show _ = _; omega
      generalize (R.ps[k]'hkl).len = len at c0 hge hnew hpk2
      have g1 : decide (len ≤ v) = true := by simpa using hge
      obtain ⟨p1, p2⟩ := hpk2
      clear hstep hb1 hb2 hve hlo hge hkl c1 c2 c3 c4
      subst hA
      go_wp2_with fail
      go_roundw
      case rel => exact ⟨k + 1, v - len, by omega, by go_num, rfl, hnew, by trivial⟩
      case measure => simp [intOf]; omega
    obtain rfl : i0 = k := by omega
    have hge : v < p.len := by have := HHI.out; omega
    rw [HPE.out hkl] at c0 c1 c2 c3 c4
    have g1 : decide (p.len ≤ v) = false := by simp; omega
    clear hstep hb1 hve hlo hge hkl hb0 hpk2
    obtain ⟨w1, hw1⟩ : ∃ w1, w1 = w0.alloc (.cells #[.int .i64 p.len, .int .i64 p.turn, .int .i64 p.rad, .int .i64 p.wid, .int .i64 p.sur] 105) := ⟨_, rfl⟩
    have hB1 : Below w.heap.size w w1 := by rw [hw1]; exact hB0.alloc hB0.size _
    have hY1 : BK w1 (w.heap.size + 1) 30 #[.int .i64 S.least, .int .i64 S.most, .slice ra rn rc, .slice sa sn sc] := by rw [hw1]; exact hY0.alloc _
    have hZ1 : BK w1 w0.heap.size 105 #[.int .i64 p.len, .int .i64 p.turn, .int .i64 p.rad, .int .i64 p.wid, .int .i64 p.sur] := by rw [hw1]; exact BK.new _ _ _
    have t0 := hY1.cell 0
    have t1 := hY1.cell 1
    have t2 := hY1.cell 2
    have t3 := hY1.cell 3
    have p0 := hZ1.cell 0
    have p1 := hZ1.cell 1
    have p2 := hZ1.cell 2
    have p3 := hZ1.cell 3
    have p4 := hZ1.cell 4
    simp only [List.getElem?_toArray, List.getElem?_cons_zero, List.getElem?_cons_succ] at t0 t1 t2 t3 p0 p1 p2 p3 p4
    subst hA
    go_wp2_with fail
    rw [← hw1]
    clear hw1 x0 x1 x2 c0 c1 c2 c3 c4
    go_quiet (fail)
    clear t0 t1 t2 t3 p0 p1 p2 p3 p4
    have hYq := hY1.drewN nq
    have hZq := hZ1.drewN nq
    have hBq := below_drewN hB1 nq
    clear hY1 hZ1
    generalize w1.drewN nq = w2 at *
    have hz2 := hYq.lt
    have t0 := hYq.cell 0
    have t1 := hYq.cell 1
    have t2 := hYq.cell 2
    have t3 := hYq.cell 3
    have p0 := hZq.cell 0
    have p1 := hZq.cell 1
    have p2 := hZq.cell 2
    have p3 := hZq.cell 3
    have p4 := hZq.cell 4
    simp only [List.getElem?_toArray, List.getElem?_cons_zero, List.getElem?_cons_succ] at t0 t1 t2 t3 p0 p1 p2 p3 p4
    by_cases htu : p.turn = 0
    · have g2 : (p.turn == 0) = true := by simpa using htu
      have hrs := HRW.out
      unfold rowS at hrs
      rw [if_pos htu] at hrs
      have hlo := (Prod.mk.inj hrs).1
      have hhi := (Prod.mk.inj hrs).2
      have hYT := hYq
      have hZT := hZq
      have hBT := hBq
      rw [hlo, hhi] at hYT
      rw [hlo, hhi]
      clear htu hrs t0 t1 t2 t3
      have t0 := hYT.cell 0
      have t1 := hYT.cell 1
      have t2 := hYT.cell 2
      have t3 := hYT.cell 3
      have p0 := hZT.cell 0
      have p1 := hZT.cell 1
      have p2 := hZT.cell 2
      have p3 := hZT.cell 3
      have p4 := hZT.cell 4
      simp only [List.getElem?_toArray, List.getElem?_cons_zero, List.getElem?_cons_succ] at t0 t1 t2 t3 p0 p1 p2 p3 p4
      obtain ⟨bs, offs, hAs, hbs, d0⟩ := IS.at_ (HD.out.grow hBT hBT.size).s (k := q) hsl
      rw [HSU.out] at d0
      subst hAs
      go_wp2_with fail
      go_quiet (fail)
      clear t0 t1 t2 t3 p0 p1 p2 p3 p4 d0
      go_wp2_with fail
      go_ret2
      exact ⟨by rw [HX.out.1, HX.out.2]; rfl, below_drewN hBT _⟩

    have g2 : (p.turn == 0) = false := by simpa using htu
    have hfin := rowL_all S p htu
    clear htu
    go_wp2_with fail
    clear t0 t1 t2 t3 p0 p1 p2 p3 p4
    go_loopw [10, 11, 12] (fun l m i wr => ∃ k : Nat, k ≤ rn ∧ i = .int .i64 k ∧ l = .int .i64 (rowL S (S.rows.take k) p.rad).1 ∧ m = .int .i64 (rowL S (S.rows.take k) p.rad).2 ∧ Below w2.heap.size w2 wr)
      (fun _ _ i _ => rn - (intOf i).toNat)
    case atStart => exact ⟨0, Nat.zero_le _, rfl, rfl, rfl, Below.refl _ _⟩
    case round =>
      obtain ⟨k, hk, rfl, rfl, rfl, hbr⟩ := hrel
      have hBT := hBq.trans (hbr.mono hBq.size)
      have hYT := hYq.below hbr hYq.lt
      have hZT := hZq.below hbr hZq.lt
      by_cases hlt : k < rn
      · have hkl : k < S.rows.length := by rw [← HLR.out]; exact hlt
        have t0 := hYT.cell 0
        have t1 := hYT.cell 1
        have t2 := hYT.cell 2
        have t3 := hYT.cell 3
        have p0 := hZT.cell 0
        have p1 := hZT.cell 1
        have p2 := hZT.cell 2
        have p3 := hZT.cell 3
        have p4 := hZT.cell 4
        simp only [List.getElem?_toArray, List.getElem?_cons_zero, List.getElem?_cons_succ] at t0 t1 t2 t3 p0 p1 p2 p3 p4
        obtain ⟨br, offr, hAr, hbr2, d0, d1, d2⟩ := SR.at_ (HD.out.grow hBT hBT.size).r (k := k) hkl
        have hst := Lib.hid (show rowL S (S.rows.take (k + 1)) p.rad = if (S.rows[k]'hkl).rad ≤ p.rad then ((S.rows[k]'hkl).least, (S.rows[k]'hkl).most) else rowL S (S.rows.take k) p.rad by rw [List.take_succ_eq_append_getElem hkl, rowL_snoc])
        have hj1 : (0 : Int) ≤ (k : Int) := by omega
        have hj2 : (k : Int) < (rn : Int) := by omega
        generalize S.rows[k]'hkl = r at d0 d1 d2 hst
        clear hkl
        subst hAr
        by_cases hgt : r.rad ≤ p.rad
        · have g3 : decide (r.rad ≤ p.rad) = true := by simpa using hgt
          have hst2 := Lib.hid (hst.out.trans (if_pos hgt))
          clear hgt hst
          go_wp2_with fail
          go_quiet (fail)
          go_wp2_with fail
          go_quiet (fail)
          go_wp2_with fail
          go_roundw
          case rel => exact ⟨k + 1, by omega, by go_num, by rw [hst2.out], by rw [hst2.out], below_drewN hbr _⟩
          case measure => simp [intOf]; omega
        · have g3 : decide (r.rad ≤ p.rad) = false := by simpa using hgt
          have hst2 := Lib.hid (hst.out.trans (if_neg hgt))
          clear hgt hst
          go_wp2_with fail
          go_quiet (fail)
          go_wp2_with fail
          go_roundw
          case rel => exact ⟨k + 1, by omega, by go_num, by rw [hst2.out], by rw [hst2.out], below_drewN hbr _⟩
          case measure => simp [intOf]; omega
      obtain rfl : rn = k := by omega
      have hrl : rowL S (S.rows.take rn) p.rad = (lo, hi) := by rw [HLR.out, List.take_length, hfin, HRW.out]
      rw [hrl]
      clear hrl hfin hlt
      dsimp only
      have t0 := hYT.cell 0
      have t1 := hYT.cell 1
      have t2 := hYT.cell 2
      have t3 := hYT.cell 3
      have p0 := hZT.cell 0
      have p1 := hZT.cell 1
      have p2 := hZT.cell 2
      have p3 := hZT.cell 3
      have p4 := hZT.cell 4
      simp only [List.getElem?_toArray, List.getElem?_cons_zero, List.getElem?_cons_succ] at t0 t1 t2 t3 p0 p1 p2 p3 p4
      obtain ⟨bs, offs, hAs, hbs, d0⟩ := IS.at_ (HD.out.grow hBT hBT.size).s (k := q) hsl
      rw [HSU.out] at d0
      subst hAs
      go_wp2_with fail
      go_quiet (fail)
      clear t0 t1 t2 t3 p0 p1 p2 p3 p4 d0
      go_wp2_with fail
      go_ret2
      exact ⟨by rw [HX.out.1, HX.out.2]; rfl, below_drewN hBT _⟩
theorem tQS_bd {S : Spd} {R : Road} (hS : SOK S) (hv : OK R) (k : Nat) (hk : (k : Int) ≤ sumL R.ps) : (0 ≤ tQ S R.ps k ∧ tQ S R.ps k ≤ 10000000 * k) ∧ 0 ≤ tSl S R.ps k ∧ tSl S R.ps k ≤ 10000700 * k := by
  have hlen := units_len (fun q hq => by have := (pOk_len (hv.pk q hq)).1; omega) (ps := R.ps)
  have key : ∀ j : Nat, (j : Int) ≤ sumL R.ps → (0 ≤ tQ S R.ps j ∧ tQ S R.ps j ≤ 10000000 * j) ∧ 0 ≤ tSl S R.ps j ∧ tSl S R.ps j ≤ 10000700 * j := by
    intro j
    induction j with
    | zero => intro _; simp [tQ, tSl]
    | succ j ih =>
      intro hj
      have h1 := ih (by omega)
      have hjl : j < (units R.ps).length := by omega
      have hx := List.getElem?_eq_getElem hjl
      obtain ⟨i, hat⟩ := at_ex (ps := R.ps) (x := (j : Int)) (by omega) (by omega)
      have hpi := List.getElem?_eq_getElem hat.1
      have hux := at_units (fun q hq => by have := pOk_len (hv.pk q hq); omega) (by omega) hat hpi
      rw [Int.toNat_natCast] at hux
      have hp := hv.pk _ (List.getElem_mem hat.1)
      rw [tQ_succ S R.ps hux, tSl_succ S R.ps hux, mQ_one, mSl_one]
      have h2 := mQ_bd hS hp
      have h3 := mSl_bd hS hp
      omega
  exact key k hk
set_option maxRecDepth 100000 in
set_option maxHeartbeats 4000000 in
theorem R3Between_any (f t : Nat) (pa : Option Addr) (pn pc : Nat) (ca : Option Addr) (cn cc : Nat) (ja : Option Addr) (jn jc : Nat) (R : Road) (ra : Option Addr) (rn rc : Nat) (sa : Option Addr) (sn sc : Nat) (S : Spd) (w : World)
    (h : RD w w.heap.size pa pn ca cn ja jn R) (hD : SD w w.heap.size ra rn sa sn S) (hv : OK R) (hS : SOK S) (hft : f ≤ t) (ht : (t : Int) ≤ sumL R.ps) :
    Calls Tryd.prog 24 #[.agg #[.slice pa pn pc, .slice ca cn cc, .slice ja jn jc], .agg #[.int .i64 S.least, .int .i64 S.most, .slice ra rn rc, .slice sa sn sc], .int .i64 f, .int .i64 t] w fun e w' =>
      e = .returned (.tuple #[.int .i64 (tQ S R.ps t - tQ S R.ps f), .int .i64 (tSl S R.ps t - tSl S R.ps f)]) ∧ Below w.heap.size w w' := by
  have HR := Lib.hid h
  have HD := Lib.hid hD
  have HV := Lib.hid hv
  have HS := Lib.hid hS
  have HT := Lib.hid ht
  have hlen := units_len (fun q hq => by have := (pOk_len (hv.pk q hq)).1; omega) (ps := R.ps)
  have HLN : Hid (∀ k : Nat, k < t → k < (units R.ps).length) := fun k hk => by omega
  have htt : t ≤ 100000 := by have := hv.n1; omega
  clear h hD hv hS ht hlen
  obtain ⟨w0, hw0⟩ : ∃ w0, w0 = (w.alloc (.cells #[.slice pa pn pc, .slice ca cn cc, .slice ja jn jc] 26)).alloc (.cells #[.int .i64 S.least, .int .i64 S.most, .slice ra rn rc, .slice sa sn sc] 30) := ⟨_, rfl⟩
  have hB0 : Below w.heap.size w w0 := by rw [hw0]; exact ((Below.refl w.heap.size w).alloc (Nat.le_refl _) _).alloc (by simp) _
  have hX0 : BK w0 w.heap.size 26 #[.slice pa pn pc, .slice ca cn cc, .slice ja jn jc] := by rw [hw0]; exact (BK.new w _ _).alloc _
  have hY0 : BK w0 (w.heap.size + 1) 30 #[.int .i64 S.least, .int .i64 S.most, .slice ra rn rc, .slice sa sn sc] := by
    rw [hw0]; have := BK.new (w.alloc (.cells #[.slice pa pn pc, .slice ca cn cc, .slice ja jn jc] 26)) 30 #[.int .i64 S.least, .int .i64 S.most, .slice ra rn rc, .slice sa sn sc]; rw [World.size_alloc] at this; exact this
  go_enter Tryd.func24, Tryd.ntmps24
  go_wp2_with fail
  rw [← hw0]
  clear hw0
  have hlX := hX0.lt
  have hlY := hY0.lt
  have hz0 := hB0.size
  go_loopw [10, 11, 12] (fun a b p wr => ∃ (k : Nat) (x y : Int), f ≤ k ∧ k ≤ t ∧ p = .int .i64 k ∧ a = .int .i64 x ∧ b = .int .i64 y ∧ Hid (x = tQ S R.ps k - tQ S R.ps f ∧ y = tSl S R.ps k - tSl S R.ps f) ∧ Below w0.heap.size w0 wr)
    (fun _ _ p _ => t - (intOf p).toNat)
  case atStart => exact ⟨f, 0, 0, Nat.le_refl _, hft, rfl, rfl, rfl, ⟨by omega, by omega⟩, Below.refl _ _⟩
  case round =>
    obtain ⟨k, x, y, hk1, hk2, rfl, rfl, rfl, hxy, hbr⟩ := hrel
    have hBr := hB0.trans (hbr.mono hz0)
    have hXr := hX0.below hbr hX0.lt
    have hYr := hY0.below hbr hY0.lt
    by_cases hlt : k < t
    · have x0 := hXr.cell 0
      have x1 := hXr.cell 1
      have x2 := hXr.cell 2
      have y0 := hYr.cell 0
      have y1 := hYr.cell 1
      have y2 := hYr.cell 2
      have y3 := hYr.cell 3
      simp only [List.getElem?_toArray, List.getElem?_cons_zero, List.getElem?_cons_succ] at x0 x1 x2 y0 y1 y2 y3
      have hul := HLN.out k hlt
      obtain ⟨u, hu⟩ : ∃ u, (units R.ps)[k]? = some u := ⟨_, List.getElem?_eq_getElem hul⟩
      have hbd := tQS_bd HS.out HV.out k (by have := HT.out; omega)
      have hbd2 := tQS_bd HS.out HV.out (k + 1) (by have := HT.out; omega)
      have hbf := tQS_bd HS.out HV.out f (by have := HT.out; omega)
      rw [tQ_succ S R.ps hu, tSl_succ S R.ps hu] at hbd2
      have hx := hxy.out.1
      have hy := hxy.out.2
      have b1 : -1000000000000 ≤ x ∧ x ≤ 1000000000000 := by omega
      have b2 : -1000070000000 ≤ y ∧ y ≤ 1000070000000 := by omega
      have b3 : -1000000000000 ≤ mQ S u ∧ mQ S u ≤ 1000000000000 := by omega
      have b4 : -1000070000000 ≤ mSl S u ∧ mSl S u ≤ 1000070000000 := by omega
      have hnew : Hid (x + mQ S u = tQ S R.ps (k + 1) - tQ S R.ps f ∧ y + mSl S u = tSl S R.ps (k + 1) - tSl S R.ps f) := by
        show _ ∧ _
        rw [tQ_succ S R.ps hu, tSl_succ S R.ps hu]
        exact ⟨by omega, by omega⟩
      have HU := Lib.hid hu
      clear hbd hbd2 hbf hx hy hxy hul hu
      obtain ⟨q1, q2⟩ := b1
      obtain ⟨q3, q4⟩ := b2
      obtain ⟨q5, q6⟩ := b3
      obtain ⟨q7, q8⟩ := b4
      go_wp2_with fail
      clear x0 x1 x2 y0 y1 y2 y3
      refine (meter_any k u _ _ _ _ _ _ _ _ _ R _ _ _ _ _ _ S wr (HR.out.grow hBr hBr.size) (HD.out.grow hBr hBr.size) HV.out HS.out HU.out).mono ?_
      rintro e w' ⟨rfl, hb'⟩
      generalize mQ S u = mq at *
      generalize mSl S u = ms at *
      go_wp2_with fail
      go_roundw
      case rel => exact ⟨k + 1, x + mq, y + ms, by omega, by omega, by go_num, by go_num, by go_num, hnew, hbr.trans (hb'.mono hbr.size)⟩
      case measure => simp [intOf]; omega
    obtain rfl : t = k := by omega
    go_wp2_with fail
    go_ret2
    exact ⟨by rw [hxy.out.1, hxy.out.2]; rfl, hBr⟩
end Go.Proofs.YtijcbfhlhgjedaaDoor
