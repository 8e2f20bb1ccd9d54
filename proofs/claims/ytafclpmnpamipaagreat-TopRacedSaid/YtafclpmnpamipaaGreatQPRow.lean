/- The table of speeds: the row of a piece, the least and the most time of a meter. -/
import Derived.Test.YtafclpmnpamipaaGreatQSpd
namespace Go.Proofs.YtafclpmnpamipaaGreat
open Go.RowKit Go.Shelf Go.Sort Go.Proofs

set_option maxRecDepth 100000 in
set_option maxHeartbeats 4000000 in
theorem row_any (ra : Option Addr) (rn rc : Nat) (sa : Option Addr) (sn sc : Nat) (S : Spd) (p : Piece) (w : World) (h : SD w w.heap.size ra rn sa sn S) (hS : SOK S) (hp : pOk p = true) :
    Calls Tryz.prog 161 #[.agg #[.int .i64 S.least, .int .i64 S.most, .slice ra rn rc, .slice sa sn sc], .agg #[.int .i64 p.len, .int .i64 p.turn, .int .i64 p.rad, .int .i64 p.wid, .int .i64 p.sur]] w fun e w' => e = .returned (.tuple #[.int .i64 (rowS S p).1, .int .i64 (rowS S p).2]) ∧ Below w.heap.size w w' := by
  have HR := Lib.hid h.r
  have HLR := Lib.hid h.r.1
  have HS := Lib.hid hS
  have hr1 : 1 ≤ rn := by rw [h.r.1]; exact hS.r1
  have hr2 : rn ≤ 30 := by rw [h.r.1]; exact hS.r2
  have hrad5 := fun ht => pOk_rad5 hp ht
  clear h hS hp
  obtain ⟨w0, hw0⟩ : ∃ w0, w0 = (w.alloc (.cells #[.int .i64 S.least, .int .i64 S.most, .slice ra rn rc, .slice sa sn sc] 161)).alloc (.cells #[.int .i64 p.len, .int .i64 p.turn, .int .i64 p.rad, .int .i64 p.wid, .int .i64 p.sur] 89) := ⟨_, rfl⟩
  have hB0 : Below w.heap.size w w0 := by rw [hw0]; exact ((Below.refl w.heap.size w).alloc (Nat.le_refl _) _).alloc (by simp) _
  have hT0 : BK w0 w.heap.size 161 #[.int .i64 S.least, .int .i64 S.most, .slice ra rn rc, .slice sa sn sc] := by rw [hw0]; exact (BK.new w _ _).alloc _
  have hP0 : BK w0 (w.heap.size + 1) 89 #[.int .i64 p.len, .int .i64 p.turn, .int .i64 p.rad, .int .i64 p.wid, .int .i64 p.sur] := by rw [hw0]; have := BK.new (w.alloc (.cells #[.int .i64 S.least, .int .i64 S.most, .slice ra rn rc, .slice sa sn sc] 161)) 89 #[.int .i64 p.len, .int .i64 p.turn, .int .i64 p.rad, .int .i64 p.wid, .int .i64 p.sur]; rw [World.size_alloc] at this; exact this
  by_cases ht : p.turn = 0
  · have g1 : (p.turn == 0) = true := by simpa using ht
    have hrs : rowS S p = (S.least, S.most) := by unfold rowS; rw [if_pos ht]
    rw [hrs]
    clear ht hrs hrad5
    go_enter Tryz.func161, Tryz.ntmps161
    go_wp2_with fail
    rw [← hw0]
    clear hw0
    have t0 := hT0.cell 0
    have t1 := hT0.cell 1
    have t2 := hT0.cell 2
    have t3 := hT0.cell 3
    have p0 := hP0.cell 0
    have p1 := hP0.cell 1
    have p2 := hP0.cell 2
    have p3 := hP0.cell 3
    have p4 := hP0.cell 4
    simp only [List.getElem?_toArray, List.getElem?_cons_zero, List.getElem?_cons_succ] at t0 t1 t2 t3 p0 p1 p2 p3 p4
    go_wp2_with fail
    go_quiet (fail)
    clear t0 t1 t2 t3 p0 p1 p2 p3 p4
    go_wp2_with fail
    go_ret2
    exact ⟨rfl, below_drewN hB0 _⟩
  have g1 : (p.turn == 0) = false := by simpa using ht
  have h5 := hrad5 ht
  have hrs : Hid (∀ x, rowF S.rows p.rad = some x → rowS S p = (x.least, x.most)) := fun x hx => by unfold rowS; rw [if_neg ht, hx]
  clear ht hrad5
  go_enter Tryz.func161, Tryz.ntmps161
  go_wp2_with fail
  rw [← hw0]
  clear hw0
  have t0 := hT0.cell 0
  have t1 := hT0.cell 1
  have t2 := hT0.cell 2
  have t3 := hT0.cell 3
  have p0 := hP0.cell 0
  have p1 := hP0.cell 1
  have p2 := hP0.cell 2
  have p3 := hP0.cell 3
  have p4 := hP0.cell 4
  simp only [List.getElem?_toArray, List.getElem?_cons_zero, List.getElem?_cons_succ] at t0 t1 t2 t3 p0 p1 p2 p3 p4
  go_wp2_with fail
  clear t0 t1 t2 t3 p0 p1 p2 p3 p4
  have HT0 := Lib.hid hT0
  have HP0 := Lib.hid hP0
  have hz0 := hB0.size
  clear hT0 hP0
  go_loopw [6] (fun i wr => ∃ k : Nat, k < rn ∧ i = .int .i64 k ∧ Below w0.heap.size w0 wr ∧ Hid (rowF S.rows p.rad = rowF (S.rows.take (k + 1)) p.rad))
    (fun i _ => (intOf i).toNat)
  case atStart => exact ⟨rn - 1, by omega, by go_num, Below.refl _ _, by show _ = _; rw [show rn - 1 + 1 = S.rows.length by rw [← HLR.out]; omega, List.take_length]⟩
  case round =>
    obtain ⟨k, hk, rfl, hbr, hrow⟩ := hrel
    have hBr := hB0.trans (hbr.mono hz0)
    have hTr := HT0.out.below hbr HT0.out.lt
    have hPr := HP0.out.below hbr HP0.out.lt
    have t0 := hTr.cell 0
    have t1 := hTr.cell 1
    have t2 := hTr.cell 2
    have t3 := hTr.cell 3
    have p0 := hPr.cell 0
    have p1 := hPr.cell 1
    have p2 := hPr.cell 2
    have p3 := hPr.cell 3
    have p4 := hPr.cell 4
    simp only [List.getElem?_toArray, List.getElem?_cons_zero, List.getElem?_cons_succ] at t0 t1 t2 t3 p0 p1 p2 p3 p4
    have hkl : k < S.rows.length := by rw [← HLR.out]; exact hk
    obtain ⟨b, off, hA, hbB, c0, c1, c2⟩ := SR.at_ (HR.out.grow hBr hBr.size) (k := k) hkl
    have hst := Lib.hid (show rowF (S.rows.take (k + 1)) p.rad = if (S.rows[k]'hkl).rad ≤ p.rad then some (S.rows[k]'hkl) else rowF (S.rows.take k) p.rad by rw [List.take_succ_eq_append_getElem hkl, rowF_snoc])
    have hk1 : (0 : Int) ≤ (k : Int) := by omega
    have hk2 : (k : Int) < (rn : Int) := by omega
    have h00 : Hid (k = 0 → (S.rows[k]'hkl).rad = 5) := fun h0 => by subst h0; exact HS.out.r0 _ (List.getElem?_eq_getElem hkl)
    generalize S.rows[k]'hkl = r at c0 c1 c2 hst h00
    clear hkl
    subst hA
    by_cases hgt : p.rad < r.rad
    · have g2 : decide (p.rad < r.rad) = true := by simpa using hgt
      have hk0 : 0 < k := by
        rcases Nat.eq_zero_or_pos k with h0 | h0
        · have := h00.out h0; omega
        · exact h0
      have hnew : Hid (rowF S.rows p.rad = rowF (S.rows.take (k - 1 + 1)) p.rad) := by
        show _ = _
        rw [hrow.out, hst.out, if_neg (by omega), show k - 1 + 1 = k by omega]
      clear hgt
      go_wp2_with fail
      go_quiet (fail)
      go_wp2_with fail
      go_roundw
      case rel => exact ⟨k - 1, by omega, by go_num, below_drewN hbr _, hnew⟩
      case measure => simp [intOf]; omega
    · have g2 : decide (p.rad < r.rad) = false := by simpa using hgt
      have hfin : Hid (rowS S p = (r.least, r.most)) := by
        show _ = _
        exact hrs.out r (by rw [hrow.out, hst.out, if_pos (by omega)])
      clear hgt
      go_wp2_with fail
      go_quiet (fail)
      go_wp2_with fail
      go_quiet (fail)
      clear t0 t1 t2 t3 p0 p1 p2 p3 p4 c0 c1 c2
      go_wp2_with fail
      go_ret2
      exact ⟨by rw [hfin.out]; rfl, below_drewN (below_drewN hBr _) _⟩
set_option maxRecDepth 100000 in
set_option maxHeartbeats 4000000 in
theorem quick_any (ra : Option Addr) (rn rc : Nat) (sa : Option Addr) (sn sc : Nat) (S : Spd) (p : Piece) (w : World) (h : SD w w.heap.size ra rn sa sn S) (hS : SOK S) (hp : pOk p = true) :
    Calls Tryz.prog 130 #[.agg #[.int .i64 S.least, .int .i64 S.most, .slice ra rn rc, .slice sa sn sc], .agg #[.int .i64 p.len, .int .i64 p.turn, .int .i64 p.rad, .int .i64 p.wid, .int .i64 p.sur]] w fun e w' => e = .returned (.int .i64 (mQ S p)) ∧ Below w.heap.size w w' := by
  have HD := Lib.hid h
  have HS := Lib.hid hS
  have HP := Lib.hid hp
  obtain ⟨a1, a2, a3⟩ := rowS_bd hS p
  obtain ⟨b1, b2⟩ := surS_bd hS hp
  have hsur : 1 ≤ p.sur ∧ p.sur ≤ 9 := by
    simp only [pOk, inR, Bool.and_eq_true, decide_eq_true_eq] at hp
    exact hp.2.2.2.1
  obtain ⟨s1, s2⟩ := hsur
  have hsn : sn = 9 := by rw [h.s.1]; exact hS.s9
  have HSL := Lib.hid h.s.1
  obtain ⟨q, hq⟩ : ∃ q : Nat, p.sur = (q : Int) + 1 := ⟨(p.sur - 1).toNat, by omega⟩
  have hi1 : (0 : Int) ≤ (q : Int) := by omega
  have hi2 : (q : Int) < (sn : Int) := by omega
  have hws : IntKind.i64.wrap (p.sur - 1) = (q : Int) := by rw [hq]; exact (IntWalk.i64_in _ (by omega)).trans (by omega)
  have hil : q < S.surf.length := by rw [hS.s9]; omega
  have hsu : S.surf[q]'hil = surS S p := by unfold surS; rw [show (p.sur - 1).toNat = q by omega, List.getD, List.getElem?_eq_getElem hil]; rfl
  have HSU := Lib.hid hsu
  have hm1 : (rowS S p).2 * surS S p ≤ 70000 := by have := Int.mul_le_mul a3 b2 (by omega) (by omega); omega
  have hm0 : 1 ≤ (rowS S p).2 * surS S p := by have := Int.mul_le_mul (show 1 ≤ (rowS S p).2 by omega) b1 (by omega) (by omega); omega
  have hwm : IntKind.i64.wrap ((rowS S p).2 * surS S p) = (rowS S p).2 * surS S p := IntWalk.i64_in _ (by omega)
  clear h hS hp hsu hsn hq
  obtain ⟨w0, hw0⟩ : ∃ w0, w0 = (w.alloc (.cells #[.int .i64 S.least, .int .i64 S.most, .slice ra rn rc, .slice sa sn sc] 161)).alloc (.cells #[.int .i64 p.len, .int .i64 p.turn, .int .i64 p.rad, .int .i64 p.wid, .int .i64 p.sur] 89) := ⟨_, rfl⟩
  have hB0 : Below w.heap.size w w0 := by rw [hw0]; exact ((Below.refl w.heap.size w).alloc (Nat.le_refl _) _).alloc (by simp) _
  have hT0 : BK w0 w.heap.size 161 #[.int .i64 S.least, .int .i64 S.most, .slice ra rn rc, .slice sa sn sc] := by rw [hw0]; exact (BK.new w _ _).alloc _
  have hP0 : BK w0 (w.heap.size + 1) 89 #[.int .i64 p.len, .int .i64 p.turn, .int .i64 p.rad, .int .i64 p.wid, .int .i64 p.sur] := by rw [hw0]; have := BK.new (w.alloc (.cells #[.int .i64 S.least, .int .i64 S.most, .slice ra rn rc, .slice sa sn sc] 161)) 89 #[.int .i64 p.len, .int .i64 p.turn, .int .i64 p.rad, .int .i64 p.wid, .int .i64 p.sur]; rw [World.size_alloc] at this; exact this
  go_enter Tryz.func130, Tryz.ntmps130
  go_wp2_with fail
  rw [← hw0]
  clear hw0
  have t0 := hT0.cell 0
  have t1 := hT0.cell 1
  have t2 := hT0.cell 2
  have t3 := hT0.cell 3
  have p0 := hP0.cell 0
  have p1 := hP0.cell 1
  have p2 := hP0.cell 2
  have p3 := hP0.cell 3
  have p4 := hP0.cell 4
  simp only [List.getElem?_toArray, List.getElem?_cons_zero, List.getElem?_cons_succ] at t0 t1 t2 t3 p0 p1 p2 p3 p4
  go_wp2_with fail
  clear t0 t1 t2 t3 p0 p1 p2 p3 p4
  refine (row_any ra rn rc sa sn sc S p _ (HD.out.grow hB0 hB0.size) HS.out HP.out).mono ?_
  rintro e w1 ⟨rfl, hk0⟩
  have hB1 := hB0.trans (hk0.mono hB0.size)
  have hT1 := hT0.below hk0 hT0.lt
  have hP1 := hP0.below hk0 hP0.lt
  clear hT0 hP0
  have t0 := hT1.cell 0
  have t1 := hT1.cell 1
  have t2 := hT1.cell 2
  have t3 := hT1.cell 3
  have p0 := hP1.cell 0
  have p1 := hP1.cell 1
  have p2 := hP1.cell 2
  have p3 := hP1.cell 3
  have p4 := hP1.cell 4
  simp only [List.getElem?_toArray, List.getElem?_cons_zero, List.getElem?_cons_succ] at t0 t1 t2 t3 p0 p1 p2 p3 p4
  obtain ⟨b, off, hA, hbB, c0⟩ := IS.at_ (HD.out.grow hB1 hB1.size).s (k := q) hil
  rw [HSU.out] at c0
  generalize hrw : rowS S p = rw2 at *
  generalize hsw : surS S p = sw at *
  obtain ⟨lo, hi⟩ := rw2
  dsimp only at a1 a2 a3 hm1 hm0 hwm ⊢
  clear HSU hil
  subst hA
  go_wp2_with fail
  go_ret
  exact ⟨by unfold mQ; rw [hrw, hsw]; rfl, hB1⟩
set_option maxRecDepth 100000 in
set_option maxHeartbeats 4000000 in
theorem slow_any (ra : Option Addr) (rn rc : Nat) (sa : Option Addr) (sn sc : Nat) (S : Spd) (p : Piece) (w : World) (h : SD w w.heap.size ra rn sa sn S) (hS : SOK S) (hp : pOk p = true) :
    Calls Tryz.prog 131 #[.agg #[.int .i64 S.least, .int .i64 S.most, .slice ra rn rc, .slice sa sn sc], .agg #[.int .i64 p.len, .int .i64 p.turn, .int .i64 p.rad, .int .i64 p.wid, .int .i64 p.sur]] w fun e w' => e = .returned (.int .i64 (mSl S p)) ∧ Below w.heap.size w w' := by
  have HD := Lib.hid h
  have HS := Lib.hid hS
  have HP := Lib.hid hp
  obtain ⟨a1, a2, a3⟩ := rowS_bd hS p
  obtain ⟨b1, b2⟩ := surS_bd hS hp
  have hsur : 1 ≤ p.sur ∧ p.sur ≤ 9 := by
    simp only [pOk, inR, Bool.and_eq_true, decide_eq_true_eq] at hp
    exact hp.2.2.2.1
  obtain ⟨s1, s2⟩ := hsur
  have hsn : sn = 9 := by rw [h.s.1]; exact hS.s9
  have HSL := Lib.hid h.s.1
  obtain ⟨q, hq⟩ : ∃ q : Nat, p.sur = (q : Int) + 1 := ⟨(p.sur - 1).toNat, by omega⟩
  have hi1 : (0 : Int) ≤ (q : Int) := by omega
  have hi2 : (q : Int) < (sn : Int) := by omega
  have hws : IntKind.i64.wrap (p.sur - 1) = (q : Int) := by rw [hq]; exact (IntWalk.i64_in _ (by omega)).trans (by omega)
  have hil : q < S.surf.length := by rw [hS.s9]; omega
  have hsu : S.surf[q]'hil = surS S p := by unfold surS; rw [show (p.sur - 1).toNat = q by omega, List.getD, List.getElem?_eq_getElem hil]; rfl
  have HSU := Lib.hid hsu
  have hm1 : (rowS S p).1 * surS S p ≤ 70000 := by have := Int.mul_le_mul (show (rowS S p).1 ≤ 700 by omega) b2 (by omega) (by omega); omega
  have hm0 : 1 ≤ (rowS S p).1 * surS S p := by have := Int.mul_le_mul (show 1 ≤ (rowS S p).1 by omega) b1 (by omega) (by omega); omega
  have hwm : IntKind.i64.wrap ((rowS S p).1 * surS S p) = (rowS S p).1 * surS S p := IntWalk.i64_in _ (by omega)
  have hmx : (if 1 < (rowS S p).1 * surS S p / 100 then (rowS S p).1 * surS S p / 100 else 1) = max 1 ((rowS S p).1 * surS S p / 100) := by rw [Int.max_def]; split <;> split <;> omega
  clear h hS hp hsu hsn hq
  obtain ⟨w0, hw0⟩ : ∃ w0, w0 = (w.alloc (.cells #[.int .i64 S.least, .int .i64 S.most, .slice ra rn rc, .slice sa sn sc] 161)).alloc (.cells #[.int .i64 p.len, .int .i64 p.turn, .int .i64 p.rad, .int .i64 p.wid, .int .i64 p.sur] 89) := ⟨_, rfl⟩
  have hB0 : Below w.heap.size w w0 := by rw [hw0]; exact ((Below.refl w.heap.size w).alloc (Nat.le_refl _) _).alloc (by simp) _
  have hT0 : BK w0 w.heap.size 161 #[.int .i64 S.least, .int .i64 S.most, .slice ra rn rc, .slice sa sn sc] := by rw [hw0]; exact (BK.new w _ _).alloc _
  have hP0 : BK w0 (w.heap.size + 1) 89 #[.int .i64 p.len, .int .i64 p.turn, .int .i64 p.rad, .int .i64 p.wid, .int .i64 p.sur] := by rw [hw0]; have := BK.new (w.alloc (.cells #[.int .i64 S.least, .int .i64 S.most, .slice ra rn rc, .slice sa sn sc] 161)) 89 #[.int .i64 p.len, .int .i64 p.turn, .int .i64 p.rad, .int .i64 p.wid, .int .i64 p.sur]; rw [World.size_alloc] at this; exact this
  go_enter Tryz.func131, Tryz.ntmps131
  go_wp2_with fail
  rw [← hw0]
  clear hw0
  have t0 := hT0.cell 0
  have t1 := hT0.cell 1
  have t2 := hT0.cell 2
  have t3 := hT0.cell 3
  have p0 := hP0.cell 0
  have p1 := hP0.cell 1
  have p2 := hP0.cell 2
  have p3 := hP0.cell 3
  have p4 := hP0.cell 4
  simp only [List.getElem?_toArray, List.getElem?_cons_zero, List.getElem?_cons_succ] at t0 t1 t2 t3 p0 p1 p2 p3 p4
  go_wp2_with fail
  clear t0 t1 t2 t3 p0 p1 p2 p3 p4
  refine (row_any ra rn rc sa sn sc S p _ (HD.out.grow hB0 hB0.size) HS.out HP.out).mono ?_
  rintro e w1 ⟨rfl, hk0⟩
  have hB1 := hB0.trans (hk0.mono hB0.size)
  have hT1 := hT0.below hk0 hT0.lt
  have hP1 := hP0.below hk0 hP0.lt
  clear hT0 hP0
  have t0 := hT1.cell 0
  have t1 := hT1.cell 1
  have t2 := hT1.cell 2
  have t3 := hT1.cell 3
  have p0 := hP1.cell 0
  have p1 := hP1.cell 1
  have p2 := hP1.cell 2
  have p3 := hP1.cell 3
  have p4 := hP1.cell 4
  simp only [List.getElem?_toArray, List.getElem?_cons_zero, List.getElem?_cons_succ] at t0 t1 t2 t3 p0 p1 p2 p3 p4
  obtain ⟨b, off, hA, hbB, c0⟩ := IS.at_ (HD.out.grow hB1 hB1.size).s (k := q) hil
  rw [HSU.out] at c0
  generalize hrw : rowS S p = rw2 at *
  generalize hsw : surS S p = sw at *
  obtain ⟨lo, hi⟩ := rw2
  dsimp only at a1 a2 a3 hm1 hm0 hwm hmx ⊢
  clear HSU hil
  subst hA
  go_wp2_with fail
  go_ret
  exact ⟨by unfold mSl; rw [hrw, hsw]; rfl, hB1⟩
end Go.Proofs.YtafclpmnpamipaaGreat
