/- The times of a road's meters: what the iterator of a table of speeds hands to a loop's body, for every body that keeps old memory and the iterator's own boxes. -/
import Derived.LoopNIn
import Derived.Laws.EntriesVeiled
import Derived.LoopIn
import Derived.TacticsInMore
import Derived.Test.YtafclpmnpamipaaGreatQPRow
namespace Go.Proofs.YtafclpmnpamipaaGreat
open Go.RowKit Go.Shelf Go.Sort Go.Proofs

attribute [local go_sem] Oper.semAt_some

/-- The two times of a meter, in range. -/
abbrev BT := { x : Int × Int // (0 ≤ x.1 ∧ x.1 ≤ 10000000) ∧ 0 ≤ x.2 ∧ x.2 ≤ 10000700 }
def btV (x : BT) : Array Value := #[.agg #[.int .i64 x.1.1, .int .i64 x.1.2]]
def mtp (S : Spd) (p : Piece) : Int × Int := (mQ S p, mSl S p)
/-- The times of a road's meters. -/
def mtrs (S : Spd) (ps : List Piece) : List (Int × Int) := (units ps).map (mtp S)
theorem mtrs_snoc (S : Spd) (ps : List Piece) (p : Piece) : mtrs S (ps ++ [p]) = mtrs S ps ++ List.replicate p.len.toNat (mtp S p) := by
  unfold mtrs
  rw [units_append, units_one, List.map_append, List.map_replicate]
  rfl
theorem mtrs_append (S : Spd) (a b : List Piece) : mtrs S (a ++ b) = mtrs S a ++ mtrs S b := by unfold mtrs; rw [units_append, List.map_append]
theorem mtrs_pre {S : Spd} {ps : List Piece} {k : Nat} {p : Piece} (hst : ps.take (k + 1) = ps.take k ++ [p]) {j : Nat} (hj : (j : Int) ≤ p.len) : mtrs S (ps.take k) ++ List.replicate j (mtp S p) <+: mtrs S ps := by
  have h1 : mtrs S ps = mtrs S (ps.take k) ++ List.replicate p.len.toNat (mtp S p) ++ mtrs S (ps.drop (k + 1)) := by
    rw [← mtrs_snoc, ← hst, ← mtrs_append, List.take_append_drop]
  have h2 : List.replicate p.len.toNat (mtp S p) = List.replicate j (mtp S p) ++ List.replicate (p.len.toNat - j) (mtp S p) := by
    rw [List.replicate_append_replicate]; congr 1; omega
  rw [h1, h2]
  exact ⟨List.replicate (p.len.toNat - j) (mtp S p) ++ mtrs S (ps.drop (k + 1)), by simp only [List.append_assoc]⟩
theorem mtrs_len {S : Spd} {ps : List Piece} (h : ∀ p ∈ ps, pOk p = true) : ((mtrs S ps).length : Int) = sumL ps := by
  unfold mtrs
  rw [List.length_map, units_len (fun q hq => by have := (pOk_len (h q hq)).1; omega)]
theorem sides0 (a b : Value) (w : World) : (Instr.index 200 (.agg #[a, b]) (.int .i64 0)).run Tryz.prog w = .ok a w := by kernel_rfl
theorem sides1 (a b : Value) (w : World) : (Instr.index 200 (.agg #[a, b]) (.int .i64 1)).run Tryz.prog w = .ok b w := by kernel_rfl
set_option maxRecDepth 100000 in
set_option maxHeartbeats 4000000 in
theorem mtr1_in (n : Nat) (hn : 1 ≤ n) (l tb rb n0 s0 : Nat) (ra : Option Addr) (rn rc : Nat) (sa : Option Addr) (sn sc : Nat) (S : Spd) (pa : Option Addr) (pn pc : Nat) (ca : Option Addr) (cn cc : Nat) (ja : Option Addr) (jn jc : Nat) (R : Road) (N : Nat)
    (hl : pn ≤ 100000) (hk : ∀ p ∈ R.ps, pOk p = true) (hS : SOK S) (hN : sumL R.ps = N) (J Jx : List BT → World → Prop)
    (hJA : ∀ (s : List BT) (A B : World), J s A → A.grownBy B none → J s B)
    (hY : ∀ pre x W, J pre W → pre.length < N → YieldAt Fence.wide (n - 1) Tryz.prog l (btV x) W fun e W' =>
      (e = .returned (.bool true) ∧ J (pre ++ [x]) W' ∧ KM n0 s0 W W') ∨ (e = .returned (.bool false) ∧ Jx (pre ++ [x]) W'))
    (W : World) (ht : BK W tb 161 #[.int .i64 S.least, .int .i64 S.most, .slice ra rn rc, .slice sa sn sc])
    (hr : BK W rb 26 #[.slice pa pn pc, .slice ca cn cc, .slice ja jn jc])
    (hD : SD W n0 ra rn sa sn S) (hP : PS W n0 pa pn R.ps) (hn0 : n0 ≤ s0) (hs0 : s0 ≤ W.heap.size) (h0 : J [] W) :
    CallsIn Fence.wide n Tryz.prog 129 #[.func (.yield l) #[] #[], .pointer (some ⟨tb, 0, none⟩), .pointer (some ⟨rb, 0, none⟩)] W fun e W' => (∃ v, e = .returned v) ∧
      ((∃ ys : List BT, ys.map (·.1) = mtrs S R.ps ∧ J ys W') ∨ (∃ pre : List BT, (∃ k, k ≤ N ∧ pre.map (·.1) = (mtrs S R.ps).take k) ∧ Jx pre W')) := by
  have HLP := Lib.hid hP.1
  have HP := Lib.hid hP
  have HD := Lib.hid hD
  have HK := Lib.hid hk
  have HS := Lib.hid hS
  have HN := Lib.hid hN
  have t0 := ht.cell 0
  have t1 := ht.cell 1
  have t2 := ht.cell 2
  have t3 := ht.cell 3
  have r0 := hr.cell 0
  have hz1 := ht.lt
  have hz2 := hr.lt
  simp only [List.getElem?_toArray, List.getElem?_cons_zero, List.getElem?_cons_succ] at t0 t1 t2 t3 r0
  clear hP hD hk hS hN ht hr
  obtain ⟨sd, hsd⟩ : ∃ sd : Array Value, sd = #[.func (.func 130) #[.agg #[.int .i64 S.least, .int .i64 S.most, .slice ra rn rc, .slice sa sn sc]] #[], .func (.func 131) #[.agg #[.int .i64 S.least, .int .i64 S.most, .slice ra rn rc, .slice sa sn sc]] #[]] := ⟨_, rfl⟩
  have HSD := Lib.hid hsd
  clear hsd
  refine callsIn_of_wp Tryz.func129 rfl trivial ?_ rfl
  simp only [Tryz.ntmps129, List.size_toArray, List.length_cons, List.length_nil, Nat.reduceAdd, Nat.reduceSub, Array.replicate_succ, Array.replicate_zero, List.push_toArray, List.append_toArray, List.nil_append, List.cons_append]
  gi_wp2_with fail
  rw [← HSD.out]
  obtain ⟨W1, hW1⟩ : ∃ W1, W1 = W.alloc (.cells sd 200) := ⟨_, rfl⟩
  have hbA : Below W.heap.size W W1 := by rw [hW1]; exact (Below.refl W.heap.size W).alloc (Nat.le_refl _) _
  have hS1 : BK W1 W.heap.size 200 sd := by rw [hW1]; exact BK.new W _ _
  have h01 : J [] W1 := hJA [] W W1 h0 (grownBy_of_below hbA)
  rw [← hW1]
  clear hW1 t0 t1 t2 t3 r0 h0
  gi_loopw [18] (fun i wr => ∃ (k : Nat) (pre : List BT), k ≤ pn ∧ i = .int .i64 k ∧ Hid (pre.map (·.1) = mtrs S (R.ps.take k)) ∧ J pre wr ∧ Below n0 W wr ∧ BK wr W.heap.size 200 sd)
    (fun i _ => pn - (intOf i).toNat)
  case atStart => exact ⟨0, [], Nat.zero_le _, rfl, rfl, h01, hbA.mono (by omega), hS1⟩
  case round =>
    obtain ⟨k, pre, hkn, rfl, hpre, hJs, hbr, hS⟩ := hrel
    by_cases hlt : k < pn
    · have hkl : k < R.ps.length := by rw [← HLP.out]; exact hlt
      obtain ⟨b, off, hA, hbB, c0, c1, c2, c3, c4⟩ := PS.at_ (HP.out.grow hbr (Nat.le_refl _)) (k := k) hkl
      have hpk := Lib.hid (HK.out _ (List.getElem_mem hkl))
      have hst := Lib.hid (List.take_succ_eq_append_getElem hkl)
      have hpl := pOk_len hpk.out
      generalize R.ps[k]'hkl = p at c0 c1 c2 c3 c4 hpk hst hpl
      obtain ⟨hp1, hp2⟩ := hpl
      have hzS := hS.lt
      have hi1 : (0 : Int) ≤ (k : Int) := by omega
      have hi2 : (k : Int) < (pn : Int) := by omega
      have d0 := hS.cell 0
      have d1 := hS.cell 1
      rw [HSD.out] at d0 d1
      simp only [List.getElem?_toArray, List.getElem?_cons_zero, List.getElem?_cons_succ] at d0 d1
      subst hA
      gi_wp2_with fail
      obtain ⟨w2, hw2⟩ : ∃ w2, w2 = (wr.alloc (.cells #[.int .i64 p.len, .int .i64 p.turn, .int .i64 p.rad, .int .i64 p.wid, .int .i64 p.sur] 89)).alloc (.cells #[.int .i64 0, .int .i64 0] 157) := ⟨_, rfl⟩
      have hb2 : Below wr.heap.size wr w2 := by rw [hw2]; exact ((Below.refl wr.heap.size wr).alloc (Nat.le_refl _) _).alloc (by simp) _
      have hP2 : BK w2 wr.heap.size 89 #[.int .i64 p.len, .int .i64 p.turn, .int .i64 p.rad, .int .i64 p.wid, .int .i64 p.sur] := by rw [hw2]; exact (BK.new wr _ _).alloc _
      have hM2 : BK w2 (wr.heap.size + 1) 157 #[.int .i64 0, .int .i64 0] := by
        rw [hw2]; have := BK.new (wr.alloc (.cells #[.int .i64 p.len, .int .i64 p.turn, .int .i64 p.rad, .int .i64 p.wid, .int .i64 p.sur] 89)) 157 #[.int .i64 0, .int .i64 0]; rw [World.size_alloc] at this; exact this
      have hJ2 : J pre w2 := hJA pre wr w2 hJs (grownBy_of_below hb2)
      rw [← hw2]
      clear hw2 c0 c1 c2 c3 c4
      have p0 := hP2.cell 0
      have p1 := hP2.cell 1
      have p2 := hP2.cell 2
      have p3 := hP2.cell 3
      have p4 := hP2.cell 4
      simp only [List.getElem?_toArray, List.getElem?_cons_zero, List.getElem?_cons_succ] at p0 p1 p2 p3 p4
      have x0 := sides0
      have x1 := sides1
      refine wpIn_loop_rounds 3 ?_
      rw [roundsIn_succ]
      gi_wp2_with fail
      have hbW2 := hbr.trans (hb2.mono (Nat.le_trans hn0 (Nat.le_trans hs0 (Nat.le_trans (Nat.le_of_lt hzS) (Nat.le_refl _)))))
      have hnW : n0 ≤ w2.heap.size := by have := hb2.size; omega
      refine cin ((quick_any ra rn rc sa sn sc S p _ (HD.out.grow hbW2 hnW) HS.out hpk.out).mono ?_)
      rintro e w3 ⟨rfl, hb3⟩
      have hP3 := hP2.below hb3 hP2.lt
      have hM3 := hM2.below hb3 hM2.lt
      have hz3 := hM3.lt
      have hbW3 := hbW2.trans (hb3.mono hnW)
      have m0 := hM3.cell 0
      have f0 := hM3.frozen 0
      simp only [List.getElem?_toArray, List.getElem?_cons_zero] at m0
      obtain ⟨tq, htq⟩ : ∃ tq, tq = mQ S p := ⟨_, rfl⟩
      rw [← htq]
      have HTQ := Lib.hid htq
      clear htq p0 p1 p2 p3 p4
      have p0 := hP3.cell 0
      have p1 := hP3.cell 1
      have p2 := hP3.cell 2
      have p3 := hP3.cell 3
      have p4 := hP3.cell 4
      simp only [List.getElem?_toArray, List.getElem?_cons_zero, List.getElem?_cons_succ] at p0 p1 p2 p3 p4
      gi_wp2_with fail
      clear p0 p1 p2 p3 p4 m0 f0
      obtain ⟨w4, hw4⟩ : ∃ w4, w4 = w3.setCell ⟨wr.heap.size + 1, 0, none⟩ (.int .i64 tq) := ⟨_, rfl⟩
      have hP4 : BK w4 wr.heap.size 89 #[.int .i64 p.len, .int .i64 p.turn, .int .i64 p.rad, .int .i64 p.wid, .int .i64 p.sur] := by rw [hw4]; exact hP3.far (p := ⟨wr.heap.size + 1, 0, none⟩) (by simp) _
      have hM4 : BK w4 (wr.heap.size + 1) 157 #[.int .i64 tq, .int .i64 0] := by rw [hw4]; exact hM3.set_ 0 _
      have hbW4 : Below n0 W w4 := by rw [hw4]; exact hbW3.setCell (p := ⟨wr.heap.size + 1, 0, none⟩) (by simp; omega) _
      have hbR4 : Below wr.heap.size wr w4 := by rw [hw4]; exact (hb2.trans (hb3.mono hb2.size)).setCell (p := ⟨wr.heap.size + 1, 0, none⟩) (by simp) _
      rw [← hw4]
      clear hw4
      rw [roundsIn_succ]
      have p0 := hP4.cell 0
      have p1 := hP4.cell 1
      have p2 := hP4.cell 2
      have p3 := hP4.cell 3
      have p4 := hP4.cell 4
      simp only [List.getElem?_toArray, List.getElem?_cons_zero, List.getElem?_cons_succ] at p0 p1 p2 p3 p4
      gi_wp2_with fail
      have hnW4 := Nat.le_trans hn0 (Nat.le_trans hs0 hbW4.size)
      refine cin ((slow_any ra rn rc sa sn sc S p _ (HD.out.grow hbW4 hnW4) HS.out hpk.out).mono ?_)
      rintro e w5 ⟨rfl, hb5⟩
      have hP5 := hP4.below hb5 hP4.lt
      have hM5 := hM4.below hb5 hM4.lt
      have hz5 := hM5.lt
      have hbW5 := hbW4.trans (hb5.mono hnW4)
      have m0 := hM5.cell 1
      have f0 := hM5.frozen 1
      simp only [List.getElem?_toArray, List.getElem?_cons_zero, List.getElem?_cons_succ] at m0
      obtain ⟨ts, hts⟩ : ∃ ts, ts = mSl S p := ⟨_, rfl⟩
      rw [← hts]
      have HTS := Lib.hid hts
      clear hts p0 p1 p2 p3 p4
      gi_wp2_with fail
      clear m0 f0
      obtain ⟨w6, hw6⟩ : ∃ w6, w6 = w5.setCell ⟨wr.heap.size + 1, 1, none⟩ (.int .i64 ts) := ⟨_, rfl⟩
      have hP6 : BK w6 wr.heap.size 89 #[.int .i64 p.len, .int .i64 p.turn, .int .i64 p.rad, .int .i64 p.wid, .int .i64 p.sur] := by rw [hw6]; exact hP5.far (p := ⟨wr.heap.size + 1, 1, none⟩) (by simp) _
      have hM6 : BK w6 (wr.heap.size + 1) 157 #[.int .i64 tq, .int .i64 ts] := by rw [hw6]; exact hM5.set_ 1 _
      have hbR6 : Below wr.heap.size wr w6 := by rw [hw6]; exact (hbR4.trans (hb5.mono hbR4.size)).setCell (p := ⟨wr.heap.size + 1, 1, none⟩) (by simp) _
      rw [← hw6]
      clear hw6
      rw [roundsIn_succ]
      have p0 := hP6.cell 0
      simp only [List.getElem?_toArray, List.getElem?_cons_zero] at p0
      gi_wp2_with fail
      have hJ6 : J pre w6 := hJA pre wr w6 hJs (grownBy_of_below hbR6)
      have hS6 : BK w6 W.heap.size 200 sd := hS.below hbR6 hzS
      have hbW6 := hbr.trans (hbR6.mono (by omega))
      have hz6 := hM6.lt
      have hnW6 : n0 ≤ w6.heap.size := by omega
      clear hP2 hP3 hP4 hP5 hP6 hM2 hM3 hM4 hM5 hJ2 hJs hbW2 hbW3 hbW4 hbW5 hbR4 hb2 hb3 hb5 p0 hS x0 x1 d0 d1 hi1 hi2
      have hb1 : 0 ≤ tq ∧ tq ≤ 10000000 := by rw [HTQ.out]; exact mQ_bd HS.out hpk.out
      have hb2 : 0 ≤ ts ∧ ts ≤ 10000700 := by rw [HTS.out]; have := mSl_bd HS.out hpk.out; omega
      obtain ⟨x, hx⟩ : ∃ x : BT, x.1 = (tq, ts) := ⟨⟨(tq, ts), hb1, hb2⟩, rfl⟩
      have HX := Lib.hid hx
      have HM : Hid (mtp S p = (tq, ts)) := by show (mQ S p, mSl S p) = _; rw [← HTQ.out, ← HTS.out]
      clear hx hb1 hb2
      gi_loopw [35] (fun i wx => ∃ (j : Nat) (pre' : List BT), (j : Int) ≤ p.len ∧ i = .int .i64 j ∧ Hid (pre'.map (·.1) = mtrs S (R.ps.take k) ++ List.replicate j (mtp S p)) ∧ J pre' wx ∧ KM n0 s0 w6 wx)
        (fun i _ => (p.len - intOf i).toNat)
      case atStart => exact ⟨0, pre, by omega, rfl, by show _ = _; rw [hpre.out]; simp, hJ6, KM.refl _ _ _⟩
      case round =>
        obtain ⟨j, pre', hj, rfl, hpre', hJ', hK⟩ := hrel
        have hMx := hK.bk hM6 (by omega)
        have m0 := hMx.cell 0
        have m1 := hMx.cell 1
        simp only [List.getElem?_toArray, List.getElem?_cons_zero, List.getElem?_cons_succ] at m0 m1
        by_cases hlt2 : (j : Int) < p.len
        · have hlen : pre'.length < N := by
            have h1 := (mtrs_pre (S := S) hst.out (j := j + 1) (by omega)).length_le
            have h2 := mtrs_len (S := S) HK.out
            have h3 := congrArg List.length hpre'.out
            have h4 := HN.out
            simp only [List.length_map, List.length_append, List.length_replicate] at h1 h3
            omega
          have hpx : Hid ((pre' ++ [x]).map (·.1) = mtrs S (R.ps.take k) ++ List.replicate (j + 1) (mtp S p)) := by
            show _ = _
            rw [List.map_append, hpre'.out, List.replicate_succ', HM.out, ← HX.out]
            simp
          have hy2 := hY pre' x _ hJ' hlen
          have hy3 := hy2.mono (R' := fun e W' => ∃ b : Bool, e = .returned (.bool b) ∧ (b = true → J (pre' ++ [x]) W' ∧ KM n0 s0 w6 W') ∧ (b = false → Jx (pre' ++ [x]) W')) (by
            rintro e W' (⟨rfl, h1, h2⟩ | ⟨rfl, h1⟩)
            · exact ⟨true, rfl, fun _ => ⟨h1, hK.t h2⟩, (fun h => by cases h)⟩
            · exact ⟨false, rfl, (fun h => by cases h), fun _ => h1⟩)
          obtain ⟨fn, tmps, assign, body, hy, hR⟩ := hy3
          have HR := Lib.hid hR
          simp only [btV, HX.out] at hy
          clear hR hy2
          gi_wp2_with fail
          refine HR.out.mono ?_
          rintro e W3 ⟨b, rfl, hpost⟩
          have hpost' := Lib.hid hpost
          clear hpost
          cases b
          · gi_wp2_with fail
            refine bodyPost_ret (results_none rfl _ _ _) rfl ?_
            refine ⟨⟨_, rfl⟩, .inr ⟨pre' ++ [x], ?_, hpost'.out.2 (by trivial)⟩⟩
            have hp := mtrs_pre (S := S) hst.out (j := j + 1) (by omega)
            rw [← hpx.out] at hp
            refine ⟨(pre' ++ [x]).length, by simp; omega, ?_⟩
            have := List.prefix_iff_eq_take.1 hp
            rwa [List.length_map] at this
          · have h1 := (hpost'.out.1 (by trivial)).1
            have h2 := (hpost'.out.1 (by trivial)).2
            gi_wp2_with fail
            go_roundw
            case rel => exact ⟨j + 1, pre' ++ [x], by omega, by go_num, hpx, h1, h2⟩
            case measure => simp [intOf]; omega
        · have hjp : (j : Int) = p.len := by omega
          have hjn : p.len.toNat = j := by omega
          have hfin : Hid (pre'.map (·.1) = mtrs S (R.ps.take (k + 1))) := by
            show _ = _
            rw [hst.out, mtrs_snoc, hjn]; exact hpre'.out
          have hbX := hbW6.trans hK.1
          have hSX := hK.bk hS6 hs0
          clear hjp hjn
          gi_wp2_with fail
          go_roundw
          case rel => exact ⟨k + 1, pre', by omega, by go_num, hfin, hJ', hbX, hSX⟩
          case measure => simp [intOf]; omega
    · obtain rfl : k = pn := by omega
      have hall : Hid (pre.map (·.1) = mtrs S R.ps) := by
        have := hpre.out
        rw [HLP.out, List.take_of_length_le (Nat.le_refl _)] at this
        exact this
      gi_wp2_with fail
      go_end0
      exact ⟨⟨_, rfl⟩, .inl ⟨pre, hall.out, hJs⟩⟩
/-- The iterator's contract. -/
theorem mtr_stops (n : Nat) (hn : 1 ≤ n) (tb rb n0 : Nat) (ra : Option Addr) (rn rc : Nat) (sa : Option Addr) (sn sc : Nat) (S : Spd) (pa : Option Addr) (pn pc : Nat) (ca : Option Addr) (cn cc : Nat) (ja : Option Addr) (jn jc : Nat) (R : Road) (N : Nat)
    (hl : pn ≤ 100000) (hk : ∀ p ∈ R.ps, pOk p = true) (hS : SOK S) (hN : sumL R.ps = N)
    (w : World) (ht : BK w tb 161 #[.int .i64 S.least, .int .i64 S.most, .slice ra rn rc, .slice sa sn sc])
    (hr : BK w rb 26 #[.slice pa pn pc, .slice ca cn cc, .slice ja jn jc])
    (hD : SD w n0 ra rn sa sn S) (hP : PS w n0 pa pn R.ps) (hn0 : n0 ≤ w.heap.size) :
    SeqStopsK Fence.wide n Tryz.prog 129 #[.pointer (some ⟨tb, 0, none⟩), .pointer (some ⟨rb, 0, none⟩)] btV (KM n0 w.heap.size) (fun ys => ys.map (·.1) = mtrs S R.ps) (fun pre => ∃ k, k ≤ N ∧ pre.map (·.1) = (mtrs S R.ps).take k) N w := by
  intro l J Jx W hW hJ hJx hY h0
  have hb := hW.mono hn0
  exact mtr1_in n hn l tb rb n0 w.heap.size ra rn rc sa sn sc S pa pn pc ca cn cc ja jn jc R N hl hk hS hN J Jx (fun s A B hs hg => hJ s A B none hs hg (fun r e => by cases e)) hY W (ht.below hW ht.lt) (hr.below hW hr.lt) (hD.grow hb (Nat.le_refl _)) (hP.grow hb (Nat.le_refl _)) hn0 hW.size h0
/-- t.meters(r): a function value that has captured the boxes of t and r. -/
theorem meters_any (ra : Option Addr) (rn rc : Nat) (sa : Option Addr) (sn sc : Nat) (S : Spd) (pa : Option Addr) (pn pc : Nat) (ca : Option Addr) (cn cc : Nat) (ja : Option Addr) (jn jc : Nat) (w : World) :
    Calls Tryz.prog 81 #[.agg #[.int .i64 S.least, .int .i64 S.most, .slice ra rn rc, .slice sa sn sc], .agg #[.slice pa pn pc, .slice ca cn cc, .slice ja jn jc]] w fun e w' =>
      e = .returned (.func (.func 129) #[] #[.pointer (some ⟨w.heap.size, 0, none⟩), .pointer (some ⟨w.heap.size + 1, 0, none⟩)]) ∧
      w' = (w.alloc (.cells #[.int .i64 S.least, .int .i64 S.most, .slice ra rn rc, .slice sa sn sc] 161)).alloc (.cells #[.slice pa pn pc, .slice ca cn cc, .slice ja jn jc] 26) := by
  go_enter Tryz.func81, Tryz.ntmps81
  go_wp2
  go_ret
  exact ⟨rfl, rfl⟩
end Go.Proofs.YtafclpmnpamipaaGreat
