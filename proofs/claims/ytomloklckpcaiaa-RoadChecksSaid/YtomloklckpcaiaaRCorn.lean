/- The reference's Corners, walked. -/
import Derived.Test.YtomloklckpcaiaaCorn
namespace Go.Proofs.Ytomloklckpcaiaa
open Go.RowKit Go.Shelf Go.Sort Go.Proofs

theorem flat_setF {α : Type} {f : α → List Value} {sz : Nat} (hf : ∀ x, (f x).length = sz) : ∀ (xs : List α) (i j : Nat) (x y : α) (v : Value), xs[i]? = some x → j < sz → f y = (f x).set j v → (xs.set i y).flatMap f = (xs.flatMap f).set (i * sz + j) v
  | [], i, _, _, _, _, h, _, _ => by simp at h
  | a :: xs, 0, j, x, y, v, h, hj, hy => by
    simp at h; subst h
    rw [List.set_cons_zero, List.flatMap_cons, List.flatMap_cons, hy, Nat.zero_mul, Nat.zero_add, List.set_append_left _ _ (by rw [hf]; exact hj)]
  | a :: xs, i + 1, j, x, y, v, h, hj, hy => by
    have e : (i + 1) * sz + j = sz + (i * sz + j) := by rw [Nat.succ_mul]; omega
    rw [List.set_cons_succ, List.flatMap_cons, List.flatMap_cons, flat_setF hf xs i j x y v (by simpa using h) hj hy, e, List.set_append_right _ _ (by rw [hf]; omega), hf, Nat.add_sub_cancel_left]
/-- One cell of an element of an own row is written. -/
theorem OW.setF {α : Type} {f : α → List Value} {sz : Nat} {e : TypeId} {base : Nat} {w : World} {b n c : Nat} {xs : List α} (h : OW f sz e base w (some ⟨b, 0, none⟩) n c xs) (hf : ∀ x, (f x).length = sz) (i j : Nat) {x y : α} {v : Value}
    (hx : xs[i]? = some x) (hj : j < sz) (hy : f y = (f x).set j v) : OW f sz e base (w.setCell ⟨b, i * sz + j, none⟩ v) (some ⟨b, 0, none⟩) n c (xs.set i y) := by
  refine ⟨⟨by rw [flat_setF hf xs i j x y v hx hj hy]; simpa using h.1.1, ?_⟩, by simpa using h.2⟩
  rcases h.1.2 with ⟨h3, _⟩ | ⟨g, cap, cur, h3, hb, hg, hn, hc, hs, ht⟩
  · cases h3
  · injection h3 with h3 h4 h5
    injection h3 with h3
    injection h3 with h3
    subst h3 h5
    refine .inr ⟨b, c, cur.setIfInBounds (i * sz + j) v, rfl, hb, ?_, hn, hc, by simpa using hs, ?_⟩
    · simp [World.setCell, Array.getElem?_modify, hg]
    · rw [Array.toList_setIfInBounds, List.take_set, ht, flat_setF hf xs i j x y v hx hj hy]

theorem kc_set1 (c : Corner) (t : Int) : kC { c with til := t } = (kC c).set 1 (.int .i64 t) := rfl
theorem kc_set3 (c : Corner) (t : Int) : kC { c with rad := t } = (kC c).set 3 (.int .i64 t) := rfl
theorem kc_set5 (c : Corner) (t : Int) : kC { c with out := t } = (kC c).set 5 (.int .i64 t) := rfl

theorem bds_memk {gap : Int} {ps : List Piece} {k : Nat} (hk : ∀ p ∈ ps.take k, pOk p = true) {g : List Bd} {e : Bd} (hg : g ∈ gsk gap ps k) (he : e ∈ g) : (0 ≤ e.1 ∧ e.1 + e.2.len ≤ sumL (ps.take k)) ∧ pOk e.2 = true ∧ (1 ≤ e.2.len ∧ e.2.len ≤ 5000) := by
  have h1 := grp_mem hg he
  obtain ⟨h2, h3⟩ := List.mem_filter.1 h1
  have h4 := its_mem (ps.take k) 0 e (fun p hp => by have := pOk_len (hk p hp); omega) h2
  have h5 := pOk_len (hk _ h4.2.2)
  exact ⟨⟨h4.1, by omega⟩, hk _ h4.2.2, h5⟩

set_option maxRecDepth 100000 in
set_option maxHeartbeats 4000000 in
theorem rCorners_in (gap least : Int) (pa : Option Addr) (pn pc : Nat) (ca : Option Addr) (cn cc : Nat) (ja : Option Addr) (jn jc : Nat) (R : Road) (w : World)
    (h : RD w w.heap.size pa pn ca cn ja jn R) (hv : OK R) (he : bendsOk' gap least = true) :
    Calls Try.prog 29 #[.agg #[.slice pa pn pc, .slice ca cn cc, .slice ja jn jc], .agg #[.int .i64 gap, .int .i64 least]] w fun e w' => ∃ A n c, e = .returned (.slice A n c) ∧ SL kC 7 w' w'.heap.size A n (crns gap least R) ∧ Below w.heap.size w w' := by
  have hR := Lib.hid h
  have hv' := Lib.hid hv
  have hpl := Lib.hid h.p.1
  have hpn : pn ≤ 2000 := by rw [h.p.1]; exact hv.p2
  simp only [bendsOk', inR, Bool.and_eq_true, decide_eq_true_eq] at he
  obtain ⟨⟨he1, he2⟩, he3, he4⟩ := he
  have hmo : Try.prog.follows .mixedOrders = true := by kernel_rfl
  clear h hv
  obtain ⟨w0, hw0⟩ : ∃ w0, w0 = (w.alloc (.cells #[.slice pa pn pc, .slice ca cn cc, .slice ja jn jc] 26)).alloc (.cells #[.int .i64 gap, .int .i64 least] 41) := ⟨_, rfl⟩
  have hW0 : Below w.heap.size w w0 := by rw [hw0]; exact ((Below.refl w.heap.size w).alloc (Nat.le_refl _) _).alloc (by simp) _
  have b0 : BK w0 w.heap.size 26 #[.slice pa pn pc, .slice ca cn cc, .slice ja jn jc] := by rw [hw0]; exact (BK.new w _ _).alloc _
  have b1 : BK w0 (w.heap.size + 1) 41 #[.int .i64 gap, .int .i64 least] := by rw [hw0]; have := (BK.new (w.alloc (.cells #[.slice pa pn pc, .slice ca cn cc, .slice ja jn jc] 26)) 41 #[.int .i64 gap, .int .i64 least]); rw [World.size_alloc] at this; exact this
  have hz0 : w0.heap.size = w.heap.size + 2 := by rw [hw0]; simp
  have HZ0 := Lib.hid hz0
  have hz1 : w.heap.size + 2 ≤ w0.heap.size := by omega
  clear hz0
  go_enter Try.func29, Try.ntmps29
  go_wp2_with fail
  rw [← hw0]
  clear hw0
  have HG0 : Hid ((gsk gap R.ps 0).map crn0 = []) := by simp [Hid, gsk, its, bds, grp]
  go_loopw [5, 6, 7] (fun o at' i wr => ∃ (k : Nat) (A : Option Addr) (n c : Nat), k ≤ pn ∧ i = .int .i64 k ∧ at' = .int .i64 (sumL (R.ps.take k)) ∧ o = .slice A n c ∧ OW kC 7 50 (w.heap.size + 2) wr A n c ((gsk gap R.ps k).map crn0) ∧ Below (w.heap.size + 2) w0 wr)
    (fun _ _ i _ => pn - (intOf i).toNat)
  case atStart => exact ⟨0, none, 0, 0, Nat.zero_le _, rfl, rfl, rfl, by rw [HG0.out]; exact OW.nil_, Below.refl _ _⟩
  case round =>
    obtain ⟨k, A, n, c, hk, rfl, rfl, rfl, hO, hb⟩ := hrel
    have hsz := hb.size
    have hbr : Below w.heap.size w wr := hW0.trans (hb.mono (by omega))
    have r0 := (bc hb (b := w.heap.size) (o := 0) (by omega)).trans (b0.cell 0)
    have r1 := (bc hb (b := w.heap.size) (o := 1) (by omega)).trans (b0.cell 1)
    have r2 := (bc hb (b := w.heap.size) (o := 2) (by omega)).trans (b0.cell 2)
    have r3 := (bc hb (b := w.heap.size + 1) (o := 0) (by omega)).trans (b1.cell 0)
    have r4 := (bc hb (b := w.heap.size + 1) (o := 1) (by omega)).trans (b1.cell 1)
    simp only [List.getElem?_toArray, List.getElem?_cons_zero, List.getElem?_cons_succ] at r0 r1 r2 r3 r4
    have hbd := sumL_take_bd R.ps k (fun p hp => hv'.out.pk p (List.mem_of_mem_take hp)) hv'.out.p2
    have hnk : n ≤ k := by have := hO.len; rw [List.length_map] at this; have := gsk_len gap R.ps k; omega
    have hq0 : w.heap.size < wr.heap.size := by omega
    have hq1 : w.heap.size + 1 < wr.heap.size := by omega
    by_cases hlt : k < pn
    · have hkl : k < R.ps.length := by rw [← hpl.out]; exact hlt
      obtain ⟨b, off, hA, hbB, c0, c1, c2, c3, c4⟩ := PS.at_ (hR.out.p.grow hbr hbr.size) (k := k) hkl
      have hpk := hv'.out.pk _ (List.getElem_mem hkl)
      have hpl' := pOk_len hpk
      have hst := Lib.hid (sumL_take R.ps k hkl)
      have hgs := Lib.hid (gsk_succ gap R.ps k hkl)
      generalize R.ps[k]'hkl = p at c0 c1 c2 c3 c4 hpk hpl' hst hgs
      obtain ⟨S, hS⟩ : ∃ S, S = sumL (R.ps.take k) := ⟨_, rfl⟩
      rw [← hS] at hst hgs hbd ⊢
      obtain ⟨hbd1, hbd2⟩ := hbd
      obtain ⟨hpl1, hpl2⟩ := hpl'
      subst hA
      have HSS := Lib.hid hS
      clear hkl hS
      by_cases ht : p.turn = 0
      · have hg2 : Hid (gsk gap R.ps (k + 1) = gsk gap R.ps k) := by rw [hgs.out, if_pos ht]; exact rfl
        clear hgs
        have ht' := Lib.hid ht
        rw [ht] at c1
        clear ht
        go_wp2_with fail
        go_roundw
        case rel => exact ⟨k + 1, _, _, _, by omega, by go_num, by rw [hst.out], rfl, by rw [hg2.out]; exact hO.alloc _, hb.alloc (by omega) _⟩
        case measure => simp [intOf]; omega
      · have hne : (p.turn == 0) = false := by simpa using ht
        have hg2 : Hid (gsk gap R.ps (k + 1) = addB gap (gsk gap R.ps k) (S, p)) := by rw [hgs.out, if_neg ht]; exact rfl
        clear hgs ht
        have hwn : IntKind.i64.wrap ((n : Int) - 1) = (n : Int) - 1 := IntWalk.i64_in _ (by omega)
        have HO := Lib.hid hO
        by_cases hn0 : n = 0
        · have hgn : gsk gap R.ps k = [] := by
            have := hO.len
            rw [List.length_map, hn0] at this
            exact List.eq_nil_of_length_eq_zero this.symm
          have hnew : Hid ((gsk gap R.ps (k + 1)).map crn0 = (gsk gap R.ps k).map crn0 ++ [⟨S, S + p.len, p.turn, p.rad, p.rad, p.rad, 0⟩]) := by
            rw [hg2.out, hgn, addB_nil, List.map_cons, crn0_one]; exact rfl
          have hg1 : decide ((0 : Int) ≤ (n : Int) - 1) = false := by simp; omega
          have hg3 : decide ((1 : Int) ≤ (n : Int)) = false := by simp; omega
          clear hg2 hgn hn0 hO
          go_wp2_with fail
          go_quiet (fail)
          obtain ⟨w2, hw2⟩ : ∃ w2, w2 = (wr.alloc (.cells #[.int .i64 p.len, .int .i64 p.turn, .int .i64 p.rad, .int .i64 p.wid, .int .i64 p.sur] 52)).drewN nq := ⟨_, rfl⟩
          have hb2 : Below wr.heap.size wr w2 := by rw [hw2]; exact below_drewN ((Below.refl _ _).alloc (Nat.le_refl _) _) _
          have hX2 : BK w2 wr.heap.size 52 #[.int .i64 p.len, .int .i64 p.turn, .int .i64 p.rad, .int .i64 p.wid, .int .i64 p.sur] := by rw [hw2]; exact (BK.new wr _ _).drewN nq
          rw [← hw2]
          clear hw2
          have hb2' := Below.trans hb (hb2.mono (by omega))
          have hO2 := HO.out.call hb2
          have hN1 := BK.new w2 50 #[.int .i64 S, .int .i64 (S + p.len), .int .i64 p.turn, .int .i64 p.rad, .int .i64 p.rad, .int .i64 p.rad, .int .i64 0]
          have x0 := hX2.cell 0
          have x1 := hX2.cell 1
          have x2 := hX2.cell 2
          have x3 := hX2.cell 3
          have x4 := hX2.cell 4
          simp only [List.getElem?_toArray, List.getElem?_cons_zero, List.getElem?_cons_succ] at x0 x1 x2 x3 x4
          have hz2 := hb2.size
          have hxl := hX2.lt
          go_wp2_with (at_builtin; refine wpList_app rfl _ _ 42 rfl (w.heap.size + 2) 50 _ 7 56 Try.underlying42 infoCorner rfl (by decide) kC A n c ((gsk gap R.ps k).map crn0) rfl (hO2.alloc _) ⟨S, S + p.len, p.turn, p.rad, p.rad, p.rad, 0⟩ #[.int .i64 S, .int .i64 (S + p.len), .int .i64 p.turn, .int .i64 p.rad, .int .i64 p.rad, .int .i64 p.rad, .int .i64 0] rfl rfl 50 w2.heap.size rfl hN1 (by simp [kC, Value.oneCell']) (by omega) (by omega) (by simp; omega) ?_; intro g'' c'' w9 hap; have HAP := Lib.hid hap; clear hap; have hx9 : w9.cell? ⟨wr.heap.size, 0, none⟩ = some (.int .i64 p.len) := (World.cell?_of_block (HAP.out.far wr.heap.size (by simp; omega) (fun g hg => by have := (HO.out.lt hg).2; omega))).trans (((hX2.alloc (.cells #[.int .i64 S, .int .i64 (S + p.len), .int .i64 p.turn, .int .i64 p.rad, .int .i64 p.rad, .int .i64 p.rad, .int .i64 0] 50)).cell 0)))
          go_roundw
          case rel =>
            have hap := HAP.out
            exact ⟨k + 1, _, _, _, by omega, by go_num, by rw [hst.out], rfl, by rw [hnew.out]; exact hap.own, (hb2'.alloc (by omega) _).trans hap.bel⟩
          case measure => simp [intOf]; omega
        · obtain ⟨DS, G, hDG⟩ : ∃ DS G, gsk gap R.ps k = DS ++ [G] := by
            have hne2 : gsk gap R.ps k ≠ [] := fun e => hn0 (by have := hO.len; rw [e] at this; simpa using this)
            exact ⟨_, _, (List.dropLast_concat_getLast hne2).symm⟩
          have hGm : G ∈ gsk gap R.ps k := by rw [hDG]; simp
          obtain ⟨gi, y, hGy⟩ : ∃ gi y, G = gi ++ [y] := ⟨_, _, (List.dropLast_concat_getLast (grp_ne _ _ G hGm)).symm⟩
          have hym := bds_memk (fun q hq => hv'.out.pk q (List.mem_of_mem_take hq)) (e := y) hGm (by rw [hGy]; simp)
          rw [← HSS.out] at hym
          obtain ⟨C, hC⟩ : ∃ C, C = crn0 G := ⟨_, rfl⟩
          obtain ⟨x, gt, gi', y', h0', h1'⟩ := ends (grp_ne _ _ G hGm)
          obtain rfl : y = y' := by have := List.append_inj' (hGy.symm.trans h1') rfl; simpa using this.2
          have hCt : C.turn = y.2.turn ∧ C.til = y.1 + y.2.len := by rw [hC, crn0, crn_of h0' h1']; exact ⟨rfl, rfl⟩
          have hMap : (gsk gap R.ps k).map crn0 = DS.map crn0 ++ [C] := by rw [hDG, List.map_append, hC]; rfl
          have hnD : n = DS.length + 1 := by have := hO.len; rw [hMap] at this; simpa using this
          have hatn : ((gsk gap R.ps k).map crn0)[n - 1]? = some C := by rw [hMap, hnD]; simp
          obtain ⟨a0, hA0⟩ : ∃ a0, A = some a0 := by
            cases A with
            | none => have := hO.none_.1; omega
            | some a0 => exact ⟨a0, rfl⟩
          obtain ⟨b0', rfl, hb0l, hbb0, hfz, hrow⟩ := hO.at_ kC_len a0 hA0
          have hadr : ∀ j, (0 + (n - 1) * 7 + j) = (n - 1) * 7 + j := fun j => by omega
          have d1 := hrow _ C hatn 1 _ rfl
          have d2 := hrow _ C hatn 2 _ rfl
          have d3 := hrow _ C hatn 3 _ rfl
          have d5 := hrow _ C hatn 5 _ rfl
          rw [hadr] at d1 d2 d3 d5
          have hf1 := hfz ((n - 1) * 7 + 1)
          have hf3 := hfz ((n - 1) * 7 + 3)
          have hf5 := hfz ((n - 1) * 7 + 5)
          have hadd : addB gap (gsk gap R.ps k) (S, p) = if tog gap y (S, p) then DS ++ [gi ++ [y] ++ [(S, p)]] else DS ++ [gi ++ [y]] ++ [[(S, p)]] := by rw [hDG, hGy, addB_at]
          have hg1 : decide ((0 : Int) ≤ (n : Int) - 1) = true := by simp; omega
          have hg3 : decide ((1 : Int) ≤ (n : Int)) = true := by simp; omega
          have hi1 : (1 : Int) ≤ (n : Int) := by omega
          have hi2 : (n : Int) - 1 < n := by omega
          have hi3 : ((n : Int) - 1).toNat = n - 1 := by omega
          have hi4 : (0 : Int) ≤ (n : Int) - 1 := by omega
          have hwt : IntKind.i64.wrap (S - C.til) = S - C.til := IntWalk.i64_in _ (by rw [hCt.2]; omega)
          have hnoT : Hid (tog gap y (S, p) = false → (gsk gap R.ps (k + 1)).map crn0 = (gsk gap R.ps k).map crn0 ++ [⟨S, S + p.len, p.turn, p.rad, p.rad, p.rad, 0⟩]) := by
            intro hq
            rw [hg2.out, hadd, hq, hDG, hGy]
            simp only [Bool.false_eq_true, if_false, List.map_append, List.map_cons, List.map_nil, crn0_one]
          subst hA0
          by_cases htq : C.turn = p.turn
          · by_cases hgq : S - C.til ≤ gap
            · have hT1 : (C.turn == p.turn) = true := by simpa using htq
              have hT2 : decide (S - C.til ≤ gap) = true := by simpa using hgq
              obtain ⟨M1, hM1⟩ : ∃ M1, M1 = min C.rad p.rad := ⟨_, rfl⟩
              have hite : (if p.rad < C.rad then p.rad else C.rad) = M1 := by rw [hM1]; split <;> omega
              have hnew : Hid ((gsk gap R.ps (k + 1)).map crn0 = DS.map crn0 ++ [{ C with til := S + p.len, rad := M1, out := p.rad }]) := by
                have htog : tog gap y (S, p) = true := by
                  rw [hCt.1] at htq; rw [hCt.2] at hgq
                  simp [tog, htq]; omega
                have hj := crn0_join (g := gi) (x := (S, p)) (y := y) (by rw [← hCt.1]; exact htq)
                rw [hg2.out, hadd, htog, if_pos rfl, List.map_append, List.map_cons, List.map_nil, hj, hM1, hC, hGy]
                exact rfl
              have hset : ∀ D : Corner, (DS.map crn0 ++ [C]).set (n - 1) D = DS.map crn0 ++ [D] := fun D => by rw [hnD]; simp
              have hset2 : ∀ D D' : Corner, (DS.map crn0 ++ [D]).set (n - 1) D' = DS.map crn0 ++ [D'] := fun D D' => by rw [hnD]; simp
              have hget : ∀ D : Corner, (DS.map crn0 ++ [D])[n - 1]? = some D := fun D => by rw [hnD]; simp
              have HSET := Lib.hid hset
              have HSET2 := Lib.hid hset2
              have HGET := Lib.hid hget
              have HMAP := Lib.hid hMap
              clear hnoT hg2 hCt hMap hDG hGm hGy hC h0' h1' hadd hatn hnD hadr htq hgq hn0 hO hrow hfz hym hset hset2 hget hM1
              go_wp2_with fail
              obtain ⟨w1, hw1⟩ : ∃ w1, w1 = wr.alloc (.cells #[.int .i64 p.len, .int .i64 p.turn, .int .i64 p.rad, .int .i64 p.wid, .int .i64 p.sur] 52) := ⟨_, rfl⟩
              have hb1' : Below wr.heap.size wr w1 := by rw [hw1]; exact (Below.refl _ _).alloc (Nat.le_refl _) _
              have hX1 : BK w1 wr.heap.size 52 #[.int .i64 p.len, .int .i64 p.turn, .int .i64 p.rad, .int .i64 p.wid, .int .i64 p.sur] := by rw [hw1]; exact BK.new wr _ _
              rw [← hw1]
              clear hw1
              replace d1 := (bc hb1' hb0l).trans d1
              replace d2 := (bc hb1' hb0l).trans d2
              replace d3 := (bc hb1' hb0l).trans d3
              replace d5 := (bc hb1' hb0l).trans d5
              replace hf1 := (bf hb1' hb0l).trans hf1
              replace hf3 := (bf hb1' hb0l).trans hf3
              replace hf5 := (bf hb1' hb0l).trans hf5
              replace r3 := (bc hb1' hq1).trans r3
              have x0 := hX1.cell 0
              have x1 := hX1.cell 1
              have x2 := hX1.cell 2
              simp only [List.getElem?_toArray, List.getElem?_cons_zero, List.getElem?_cons_succ] at x0 x1 x2
              go_quiet (fail)
              obtain ⟨w2, hw2⟩ : ∃ w2, w2 = w1.drewN nq := ⟨_, rfl⟩
              have hb2 : Below wr.heap.size wr w2 := by rw [hw2]; exact below_drewN hb1' _
              have hX2 : BK w2 wr.heap.size 52 #[.int .i64 p.len, .int .i64 p.turn, .int .i64 p.rad, .int .i64 p.wid, .int .i64 p.sur] := by rw [hw2]; exact hX1.drewN nq
              have h12 : Below w1.heap.size w1 w2 := by rw [hw2]; exact below_drewN (Below.refl _ _) _
              rw [← hw2]
              clear hw2
              have hl1 := Nat.lt_of_lt_of_le hb0l hb1'.size
              replace d1 := (bc h12 hl1).trans d1
              replace d3 := (bc h12 hl1).trans d3
              replace d5 := (bc h12 hl1).trans d5
              replace hf1 := (bf h12 hl1).trans hf1
              replace hf3 := (bf h12 hl1).trans hf3
              replace hf5 := (bf h12 hl1).trans hf5
              replace x0 := (bc h12 hX1.lt).trans x0
              replace x1 := (bc h12 hX1.lt).trans x1
              replace x2 := (bc h12 hX1.lt).trans x2
              clear d2 r3 hT1 hT2 hwt
              go_wp2_with fail
              obtain ⟨w3, hw3⟩ : ∃ w3, w3 = w2.setCell ⟨b0', (n - 1) * 7 + 1, none⟩ (.int .i64 (S + p.len)) := ⟨_, rfl⟩
              have hO3 : OW kC 7 50 (w.heap.size + 2) w3 (some ⟨b0', 0, none⟩) n c (DS.map crn0 ++ [{ C with til := S + p.len }]) := by
                have h1 := HO.out.call hb2
                rw [HMAP.out] at h1
                have h2 := h1.setF kC_len (n - 1) 1 (y := { C with til := S + p.len }) (v := .int .i64 (S + p.len)) (HGET.out C) (by omega) (kc_set1 C _)
                rw [HSET.out] at h2
                rw [hw3]
                exact h2
              have hb3 : Below (w.heap.size + 2) wr w3 := by rw [hw3]; exact (hb2.mono (by omega)).setCell hbb0 _
              have hX3 : BK w3 wr.heap.size 52 #[.int .i64 p.len, .int .i64 p.turn, .int .i64 p.rad, .int .i64 p.wid, .int .i64 p.sur] := by rw [hw3]; exact hX2.far (by show wr.heap.size ≠ b0'; omega) _
              rw [← hw3]
              have hl3 : b0' < w3.heap.size := by rw [hw3]; simp; have := hb2.size; omega
              clear hw3 d1 d3 d5 hf1 hf3 hf5 x0 x1 x2
              obtain ⟨b2', hb2', _, _, hfz3, hrow3⟩ := hO3.at_ kC_len _ rfl
              cases hb2'
              have hadr : ∀ j, (0 + (n - 1) * 7 + j) = (n - 1) * 7 + j := fun j => by omega
              have d3 := hrow3 _ _ (HGET.out _) 3 _ rfl
              rw [hadr] at d3
              have hf3 := hfz3 ((n - 1) * 7 + 3)
              have x2 := hX3.cell 2
              simp only [List.getElem?_toArray, List.getElem?_cons_zero, List.getElem?_cons_succ] at x2
              clear hrow3 hfz3 hadr
              refine wp_region_qt 10 hmo (by kernel_rfl) ?_
              simp only [List.take_succ_cons, List.take_zero, List.drop_succ_cons, List.drop_zero]
              have k1 := fun d os => cell_regrown d3 d os
              have k2 := fun d os => cell_regrown x2 d os
              repeat (quiet_step (fail))
              refine wpQuiet_nil ?_
              intro w4 hb4
              clear k1 k2 hite
              replace d3 := (bc hb4 hl3).trans d3
              replace hf3 := (bf hb4 hl3).trans hf3
              clear x2
              go_upto_region 13 with fail
              obtain ⟨w5, hw5⟩ : ∃ w5, w5 = w4.setCell ⟨b0', (n - 1) * 7 + 3, none⟩ (.int .i64 M1) := ⟨_, rfl⟩
              have hO5 : OW kC 7 50 (w.heap.size + 2) w5 (some ⟨b0', 0, none⟩) n c (DS.map crn0 ++ [{ C with til := S + p.len, rad := M1 }]) := by
                have h1 := hO3.call hb4
                have h2 := h1.setF kC_len (n - 1) 3 (y := { C with til := S + p.len, rad := M1 }) (v := .int .i64 M1) (HGET.out _) (by omega) (kc_set3 { C with til := S + p.len } M1)
                rw [HSET2.out] at h2
                rw [hw5]
                exact h2
              have hb5 : Below (w.heap.size + 2) wr w5 := by rw [hw5]; exact (hb3.trans (hb4.mono (by have := hb3.size; omega))).setCell hbb0 _
              have hX5 : BK w5 wr.heap.size 52 #[.int .i64 p.len, .int .i64 p.turn, .int .i64 p.rad, .int .i64 p.wid, .int .i64 p.sur] := by rw [hw5]; exact (hX3.below hb4 hX3.lt).far (by show wr.heap.size ≠ b0'; omega) _
              have hl5 : b0' < w5.heap.size := by rw [hw5]; simp; have := hb4.size; omega
              rw [← hw5]
              clear hw5 d3 hf3 hb4
              obtain ⟨b3', hb3', _, _, hfz5, hrow5⟩ := hO5.at_ kC_len _ rfl
              cases hb3'
              have hadr : ∀ j, (0 + (n - 1) * 7 + j) = (n - 1) * 7 + j := fun j => by omega
              have d5 := hrow5 _ _ (HGET.out _) 5 _ rfl
              rw [hadr] at d5
              have hf5 := hfz5 ((n - 1) * 7 + 5)
              have x0 := hX5.cell 0
              have x2 := hX5.cell 2
              have xl := hX5.lt
              have hne1 : ¬ b0' = wr.heap.size := by omega
              have hne2 : ¬ wr.heap.size = b0' := by omega
              simp only [List.getElem?_toArray, List.getElem?_cons_zero, List.getElem?_cons_succ] at x0 x2
              clear hrow5 hfz5 hadr
              go_wp2_with fail
              go_roundw
              case rel =>
                have h2 := hO5.setF kC_len (n - 1) 5 (y := { C with til := S + p.len, rad := M1, out := p.rad }) (v := .int .i64 p.rad) (HGET.out _) (by omega) (kc_set5 { C with til := S + p.len, rad := M1 } p.rad)
                rw [HSET2.out, ← hnew.out] at h2
                exact ⟨k + 1, _, _, _, by omega, by go_num, by rw [hst.out], rfl, h2, (hb.trans hb5).setCell hbb0 _⟩
              case measure => simp [intOf]; omega
            · have hnew := Lib.hid (hnoT.out (by rw [hCt.2] at hgq; simp [tog]; intro _; omega))
              have hT1 : (C.turn == p.turn) = true := by simpa using htq
              have hT2 : decide (S - C.til ≤ gap) = false := by simpa using hgq
              clear hnoT hg2 hCt hMap hDG hGm hGy hC h0' h1' hadd hatn hnD hadr htq hgq hn0 hO hrow hfz hym
              go_wp2_with fail
              obtain ⟨w1, hw1⟩ : ∃ w1, w1 = wr.alloc (.cells #[.int .i64 p.len, .int .i64 p.turn, .int .i64 p.rad, .int .i64 p.wid, .int .i64 p.sur] 52) := ⟨_, rfl⟩
              have hb1' : Below wr.heap.size wr w1 := by rw [hw1]; exact (Below.refl _ _).alloc (Nat.le_refl _) _
              have hX1 : BK w1 wr.heap.size 52 #[.int .i64 p.len, .int .i64 p.turn, .int .i64 p.rad, .int .i64 p.wid, .int .i64 p.sur] := by rw [hw1]; exact BK.new wr _ _
              rw [← hw1]
              clear hw1
              replace d1 := (bc hb1' hb0l).trans d1
              replace d2 := (bc hb1' hb0l).trans d2
              replace r3 := (bc hb1' hq1).trans r3
              have x1 := hX1.cell 1
              simp only [List.getElem?_toArray, List.getElem?_cons_zero, List.getElem?_cons_succ] at x1
              go_quiet (fail)
              obtain ⟨w2, hw2⟩ : ∃ w2, w2 = w1.drewN nq := ⟨_, rfl⟩
              have hb2 : Below wr.heap.size wr w2 := by rw [hw2]; exact below_drewN hb1' _
              have hX2 : BK w2 wr.heap.size 52 #[.int .i64 p.len, .int .i64 p.turn, .int .i64 p.rad, .int .i64 p.wid, .int .i64 p.sur] := by rw [hw2]; exact hX1.drewN nq
              rw [← hw2]
              clear hw2 hb1' hX1 x1 d1 d2 r3
              have hb2' := Below.trans hb (hb2.mono (by omega))
              have hO2 := HO.out.call hb2
              have hN1 := BK.new w2 50 #[.int .i64 S, .int .i64 (S + p.len), .int .i64 p.turn, .int .i64 p.rad, .int .i64 p.rad, .int .i64 p.rad, .int .i64 0]
              have x0 := hX2.cell 0
              have x1 := hX2.cell 1
              have x2 := hX2.cell 2
              have x3 := hX2.cell 3
              have x4 := hX2.cell 4
              simp only [List.getElem?_toArray, List.getElem?_cons_zero, List.getElem?_cons_succ] at x0 x1 x2 x3 x4
              have hz2 := hb2.size
              have hxl := hX2.lt
              go_wp2_with (at_builtin; refine wpList_app rfl _ _ 42 rfl (w.heap.size + 2) 50 _ 7 56 Try.underlying42 infoCorner rfl (by decide) kC _ n c ((gsk gap R.ps k).map crn0) rfl (hO2.alloc _) ⟨S, S + p.len, p.turn, p.rad, p.rad, p.rad, 0⟩ #[.int .i64 S, .int .i64 (S + p.len), .int .i64 p.turn, .int .i64 p.rad, .int .i64 p.rad, .int .i64 p.rad, .int .i64 0] rfl rfl 50 w2.heap.size rfl hN1 (by simp [kC, Value.oneCell']) (by omega) (by omega) (by simp; omega) ?_; intro g'' c'' w9 hap; have HAP := Lib.hid hap; clear hap; have hx9 : w9.cell? ⟨wr.heap.size, 0, none⟩ = some (.int .i64 p.len) := (World.cell?_of_block (HAP.out.far wr.heap.size (by simp; omega) (fun g hg => by have := (HO.out.lt hg).2; omega))).trans (((hX2.alloc (.cells #[.int .i64 S, .int .i64 (S + p.len), .int .i64 p.turn, .int .i64 p.rad, .int .i64 p.rad, .int .i64 p.rad, .int .i64 0] 50)).cell 0)))
              go_roundw
              case rel =>
                have hap := HAP.out
                exact ⟨k + 1, _, _, _, by omega, by go_num, by rw [hst.out], rfl, by rw [hnew.out]; exact hap.own, (hb2'.alloc (by omega) _).trans hap.bel⟩
              case measure => simp [intOf]; omega
          · have hnew := Lib.hid (hnoT.out (by rw [hCt.1] at htq; simp [tog, htq]))
            have hT1 : (C.turn == p.turn) = false := by simpa using htq
            clear hnoT hg2 hCt hMap hDG hGm hGy hC h0' h1' hadd hatn hnD hadr htq hn0 hO hrow hfz hym
            go_wp2_with fail
            obtain ⟨w1, hw1⟩ : ∃ w1, w1 = wr.alloc (.cells #[.int .i64 p.len, .int .i64 p.turn, .int .i64 p.rad, .int .i64 p.wid, .int .i64 p.sur] 52) := ⟨_, rfl⟩
            have hb1' : Below wr.heap.size wr w1 := by rw [hw1]; exact (Below.refl _ _).alloc (Nat.le_refl _) _
            have hX1 : BK w1 wr.heap.size 52 #[.int .i64 p.len, .int .i64 p.turn, .int .i64 p.rad, .int .i64 p.wid, .int .i64 p.sur] := by rw [hw1]; exact BK.new wr _ _
            rw [← hw1]
            clear hw1
            replace d1 := (bc hb1' hb0l).trans d1
            replace d2 := (bc hb1' hb0l).trans d2
            replace r3 := (bc hb1' hq1).trans r3
            have x1 := hX1.cell 1
            simp only [List.getElem?_toArray, List.getElem?_cons_zero, List.getElem?_cons_succ] at x1
            go_quiet (fail)
            obtain ⟨w2, hw2⟩ : ∃ w2, w2 = w1.drewN nq := ⟨_, rfl⟩
            have hb2 : Below wr.heap.size wr w2 := by rw [hw2]; exact below_drewN hb1' _
            have hX2 : BK w2 wr.heap.size 52 #[.int .i64 p.len, .int .i64 p.turn, .int .i64 p.rad, .int .i64 p.wid, .int .i64 p.sur] := by rw [hw2]; exact hX1.drewN nq
            rw [← hw2]
            clear hw2 hb1' hX1 x1 d1 d2 r3
            have hb2' := Below.trans hb (hb2.mono (by omega))
            have hO2 := HO.out.call hb2
            have hN1 := BK.new w2 50 #[.int .i64 S, .int .i64 (S + p.len), .int .i64 p.turn, .int .i64 p.rad, .int .i64 p.rad, .int .i64 p.rad, .int .i64 0]
            have x0 := hX2.cell 0
            have x1 := hX2.cell 1
            have x2 := hX2.cell 2
            have x3 := hX2.cell 3
            have x4 := hX2.cell 4
            simp only [List.getElem?_toArray, List.getElem?_cons_zero, List.getElem?_cons_succ] at x0 x1 x2 x3 x4
            have hz2 := hb2.size
            have hxl := hX2.lt
            go_wp2_with (at_builtin; refine wpList_app rfl _ _ 42 rfl (w.heap.size + 2) 50 _ 7 56 Try.underlying42 infoCorner rfl (by decide) kC _ n c ((gsk gap R.ps k).map crn0) rfl (hO2.alloc _) ⟨S, S + p.len, p.turn, p.rad, p.rad, p.rad, 0⟩ #[.int .i64 S, .int .i64 (S + p.len), .int .i64 p.turn, .int .i64 p.rad, .int .i64 p.rad, .int .i64 p.rad, .int .i64 0] rfl rfl 50 w2.heap.size rfl hN1 (by simp [kC, Value.oneCell']) (by omega) (by omega) (by simp; omega) ?_; intro g'' c'' w9 hap; have HAP := Lib.hid hap; clear hap; have hx9 : w9.cell? ⟨wr.heap.size, 0, none⟩ = some (.int .i64 p.len) := (World.cell?_of_block (HAP.out.far wr.heap.size (by simp; omega) (fun g hg => by have := (HO.out.lt hg).2; omega))).trans (((hX2.alloc (.cells #[.int .i64 S, .int .i64 (S + p.len), .int .i64 p.turn, .int .i64 p.rad, .int .i64 p.rad, .int .i64 p.rad, .int .i64 0] 50)).cell 0)))
            go_roundw
            case rel =>
              have hap := HAP.out
              exact ⟨k + 1, _, _, _, by omega, by go_num, by rw [hst.out], rfl, by rw [hnew.out]; exact hap.own, (hb2'.alloc (by omega) _).trans hap.bel⟩
            case measure => simp [intOf]; omega
    · obtain rfl : k = pn := by omega
      have hG : Hid (gsk gap R.ps k = gsk gap R.ps R.ps.length) := by rw [hpl.out]; exact rfl
      obtain ⟨GS', hGS'⟩ : ∃ GS', GS' = gsk gap R.ps k := ⟨_, rfl⟩
      rw [← hGS'] at hO hG
      have hGm : Hid (∀ g ∈ GS', ∃ x gt gi y, crn g = ⟨x.1, y.1 + y.2.len, y.2.turn, minR y.2.rad g, x.2.rad, y.2.rad, max (angS g) (-(angS g))⟩ ∧ (0 ≤ x.1 ∧ x.1 ≤ 100000) ∧ (0 ≤ y.1 + y.2.len ∧ y.1 + y.2.len ≤ 100000) ∧ g = x :: gt ∧ g = gi ++ [y]) := by
        intro g hg
        rw [hGS'] at hg
        obtain ⟨x, gt, gi, y, h0, h1⟩ := ends (grp_ne _ _ g hg)
        have hx := bds_memk (fun q hq => hv'.out.pk q (List.mem_of_mem_take hq)) (e := x) hg (by rw [h0]; simp)
        have hy := bds_memk (fun q hq => hv'.out.pk q (List.mem_of_mem_take hq)) (e := y) hg (by rw [h1]; simp)
        have hn1 := hv'.out.n1
        rw [hpl.out, List.take_length] at hx hy
        exact ⟨x, gt, gi, y, crn_of h0 h1, by omega, by omega, h0, h1⟩
      clear hGS'
      have hbW : Below w.heap.size w wr := hbr
      obtain ⟨w3, hw3⟩ : ∃ w3, w3 = wr := ⟨_, rfl⟩
      rw [← hw3] at hO hb hbW r0 r1 r2 r3 r4 hq0 hq1 hsz ⊢
      clear hw3
      have hR3 := hR.out.grow hbW hbW.size
      have HR3 := Lib.hid hR3
      clear hR3
      go_wp2_with fail
      go_loopw [10, 11] (fun o i wr => ∃ (j : Nat) (A1 : Option Addr) (n1 c1 : Nat), j ≤ n ∧ i = .int .i64 j ∧ o = .slice A1 n1 c1 ∧ OW kC 7 50 w3.heap.size wr A1 n1 c1 (((GS'.take j).map fun g => { crn0 g with ang := max (upt R.ps (crn0 g).til - upt R.ps (crn0 g).fr) (-(upt R.ps (crn0 g).til - upt R.ps (crn0 g).fr)) }).filter fun c => decide (least ≤ c.ang)) ∧ Below w3.heap.size w3 wr)
        (fun _ i _ => n - (intOf i).toNat)
      case atStart => exact ⟨0, none, 0, 0, Nat.zero_le _, rfl, rfl, OW.nil_, Below.refl _ _⟩
      case round =>
        obtain ⟨j, A1, n1, c1, hj, rfl, rfl, hO1, hb2⟩ := hrel
        have hz2 := hb2.size
        replace r0 := (bc hb2 hq0).trans r0
        replace r1 := (bc hb2 hq0).trans r1
        replace r2 := (bc hb2 hq0).trans r2
        replace r3 := (bc hb2 hq1).trans r3
        replace r4 := (bc hb2 hq1).trans r4
        by_cases hlt2 : j < n
        · have hln := hO.len
          rw [List.length_map] at hln
          have hjl : j < GS'.length := by omega
          obtain ⟨g, hg⟩ : ∃ g, g = GS'[j] := ⟨_, rfl⟩
          have hgj : GS'[j]? = some g := by rw [List.getElem?_eq_getElem hjl, hg]
          obtain ⟨x, gt, gi, y, hcr, hxb, hyb, h0, h1⟩ := hGm.out g (List.mem_iff_getElem?.2 ⟨j, hgj⟩)
          obtain ⟨C, hC⟩ : ∃ C, C = crn0 g := ⟨_, rfl⟩
          have hCf : C.fr = x.1 ∧ C.til = y.1 + y.2.len := by rw [hC, crn0, hcr]; exact ⟨rfl, rfl⟩
          have hatj : (GS'.map crn0)[j]? = some C := by rw [List.getElem?_map, hgj, hC]; rfl
          obtain ⟨a0, hA0⟩ : ∃ a0, A = some a0 := by
            cases A with
            | none => have := hO.none_.1; omega
            | some a0 => exact ⟨a0, rfl⟩
          obtain ⟨b0', rfl, hb0l, hbb0, hfz, hrow⟩ := (hO.call hb2).at_ kC_len a0 hA0
          have hadr : ∀ i, (0 + j * 7 + i) = j * 7 + i := fun i => by omega
          have d0 := hrow _ C hatj 0 _ rfl
          have d1 := hrow _ C hatj 1 _ rfl
          have d2 := hrow _ C hatj 2 _ rfl
          have d3 := hrow _ C hatj 3 _ rfl
          have d4 := hrow _ C hatj 4 _ rfl
          have d5 := hrow _ C hatj 5 _ rfl
          have d6 := hrow _ C hatj 6 _ rfl
          rw [hadr] at d0 d1 d2 d3 d4 d5 d6
          rw [Nat.add_zero] at d0
          subst hA0
          obtain ⟨T, hT⟩ : ∃ T, T = upt R.ps C.til - upt R.ps C.fr := ⟨_, rfl⟩
          have hub := upt_bd R.ps C.til hv'.out.pk
          have hub2 := upt_bd R.ps C.fr hv'.out.pk
          have hpl2 := hv'.out.p2
          have hTb : -800000000000 ≤ T ∧ T ≤ 800000000000 := by omega
          obtain ⟨hTb1, hTb2⟩ := hTb
          have hcf1 : -1000000000 ≤ C.fr ∧ C.fr ≤ 1000000000 := by rw [hCf.1]; omega
          have hcf2 : -1000000000 ≤ C.til ∧ C.til ≤ 1000000000 := by rw [hCf.2]; omega
          have HTU := Lib.hid (fun (W : World) (hW : RD W W.heap.size pa k ca cn ja jn R) => hT ▸ rTurning_any C.fr C.til pa k pc ca cn cc ja jn jc R W hW hv'.out.pk (by omega) hcf1.2 hcf1.1 hcf2.2 hcf2.1)
          obtain ⟨Gv, hGv⟩ : ∃ Gv, Gv = max T (-T) := ⟨_, rfl⟩
          have hite : (if T < -T then -T else T) = Gv := by rw [hGv]; split <;> omega
          have hwT : IntKind.i64.wrap (-T) = -T := IntWalk.i64_in _ (by omega)
          have HSN : Hid (((GS'.take (j + 1)).map fun g => { crn0 g with ang := max (upt R.ps (crn0 g).til - upt R.ps (crn0 g).fr) (-(upt R.ps (crn0 g).til - upt R.ps (crn0 g).fr)) }) = ((GS'.take j).map fun g => { crn0 g with ang := max (upt R.ps (crn0 g).til - upt R.ps (crn0 g).fr) (-(upt R.ps (crn0 g).til - upt R.ps (crn0 g).fr)) }) ++ [{ C with ang := Gv }]) := by
            rw [List.take_add_one, hgj, List.map_append, hGv, hT, hC]; exact rfl
          have hn1 : n1 ≤ j := by
            have h1 := hO1.len
            have h2 := List.length_filter_le (fun c : Corner => decide (least ≤ c.ang)) ((GS'.take j).map fun g => { crn0 g with ang := max (upt R.ps (crn0 g).til - upt R.ps (crn0 g).fr) (-(upt R.ps (crn0 g).til - upt R.ps (crn0 g).fr)) })
            have h3 : ((GS'.take j).map fun g => ({ crn0 g with ang := max (upt R.ps (crn0 g).til - upt R.ps (crn0 g).fr) (-(upt R.ps (crn0 g).til - upt R.ps (crn0 g).fr)) } : Corner)).length ≤ j := by rw [List.length_map]; exact List.length_take_le ..
            omega
          have hq0' := Nat.lt_of_lt_of_le hq0 hz2
          have hq1' := Nat.lt_of_lt_of_le hq1 hz2
          have HO1 := Lib.hid hO1
          have hnj : n ≤ 2000 := by omega
          clear hT hGv hub hub2 hcr h0 h1 hC hCf hatj hgj hg hadr hrow hfz hln hO1 hxb hyb
          go_wp2_with fail
          obtain ⟨w4, hw4⟩ : ∃ w4, w4 = wr.alloc (.cells #[.int .i64 C.fr, .int .i64 C.til, .int .i64 C.turn, .int .i64 C.rad, .int .i64 C.inn, .int .i64 C.out, .int .i64 C.ang] 50) := ⟨_, rfl⟩
          have hb4 : Below wr.heap.size wr w4 := by rw [hw4]; exact (Below.refl _ _).alloc (Nat.le_refl _) _
          have hX4 : BK w4 wr.heap.size 50 #[.int .i64 C.fr, .int .i64 C.til, .int .i64 C.turn, .int .i64 C.rad, .int .i64 C.inn, .int .i64 C.out, .int .i64 C.ang] := by rw [hw4]; exact BK.new wr _ _
          have hb34 : Below w3.heap.size w3 w4 := hb2.trans (hb4.mono hz2)
          rw [← hw4]
          clear hw4
          refine (HTU.out w4 (HR3.out.grow hb34 hb34.size)).mono ?_
          rintro e w5 ⟨rfl, hb5⟩
          have hX5 := hX4.below hb5 hX4.lt
          have hb25 : Below wr.heap.size wr w5 := hb4.trans (hb5.mono hb4.size)
          have hb35 : Below w3.heap.size w3 w5 := hb2.trans (hb25.mono hz2)
          have hO5 := HO1.out.call hb25
          have hz5 := hb25.size
          have hx5 := hX5.lt
          replace r4 := (bc hb25 hq1').trans r4
          have hq1'' := Nat.lt_of_lt_of_le hq1' hz5
          have x0 := hX5.cell 0
          have x1 := hX5.cell 1
          have x2 := hX5.cell 2
          have x3 := hX5.cell 3
          have x4 := hX5.cell 4
          have x5 := hX5.cell 5
          have x6 := hX5.cell 6
          have xf := hX5.frozen 6
          simp only [List.getElem?_toArray, List.getElem?_cons_zero, List.getElem?_cons_succ] at x0 x1 x2 x3 x4 x5 x6
          have hbs : Below w3.heap.size w3 (w5.setCell ⟨wr.heap.size, 6, none⟩ (.int .i64 Gv)) := hb35.setCell (show w3.heap.size ≤ wr.heap.size by omega) _
          have hOs := hO5.setCell (p := ⟨wr.heap.size, 6, none⟩) (fun b hb => by have := (HO1.out.lt hb).2; show b.block ≠ wr.heap.size; omega) (.int .i64 Gv)
          have HOS := Lib.hid hOs
          have hwne : ¬ w.heap.size + 1 = wr.heap.size := by omega
          clear hOs hO5 d0 d1 d2 d3 d4 d5 d6 hX4 hb4 hb34 HTU r0 r1 r2 r3
          by_cases hle : least ≤ Gv
          · have hnew : Hid ((((GS'.take (j + 1)).map fun g => ({ crn0 g with ang := max (upt R.ps (crn0 g).til - upt R.ps (crn0 g).fr) (-(upt R.ps (crn0 g).til - upt R.ps (crn0 g).fr)) } : Corner)).filter fun c => decide (least ≤ c.ang)) = (((GS'.take j).map fun g => ({ crn0 g with ang := max (upt R.ps (crn0 g).til - upt R.ps (crn0 g).fr) (-(upt R.ps (crn0 g).til - upt R.ps (crn0 g).fr)) } : Corner)).filter fun c => decide (least ≤ c.ang)) ++ [{ C with ang := Gv }]) := by
              rw [HSN.out, List.filter_append]
              congr 1
              simp [hle]
            have hN1 := BK.new (w5.setCell ⟨wr.heap.size, 6, none⟩ (.int .i64 Gv)) 50 #[.int .i64 C.fr, .int .i64 C.til, .int .i64 C.turn, .int .i64 C.rad, .int .i64 C.inn, .int .i64 C.out, .int .i64 Gv]
            rw [World.size_setCell] at hN1
            clear HSN
            go_wp2_with (at_builtin; refine wpList_app rfl _ _ 42 rfl w3.heap.size 50 _ 7 56 Try.underlying42 infoCorner rfl (by decide) kC A1 n1 c1 _ rfl (HOS.out.alloc _) { C with ang := Gv } #[.int .i64 C.fr, .int .i64 C.til, .int .i64 C.turn, .int .i64 C.rad, .int .i64 C.inn, .int .i64 C.out, .int .i64 Gv] rfl rfl 50 w5.heap.size rfl hN1 (by simp [kC, Value.oneCell']) (by omega) (by omega) (by simp; omega) ?_; intro g'' c'' w9 hap; have HAP := Lib.hid hap; clear hap)
            go_roundw
            case rel =>
              have hap := HAP.out
              exact ⟨j + 1, _, _, _, by omega, by go_num, rfl, by rw [hnew.out]; exact hap.own, (hbs.alloc (by simp; omega) _).trans hap.bel⟩
            case measure => simp [intOf]; omega
          · have hnew : Hid ((((GS'.take (j + 1)).map fun g => ({ crn0 g with ang := max (upt R.ps (crn0 g).til - upt R.ps (crn0 g).fr) (-(upt R.ps (crn0 g).til - upt R.ps (crn0 g).fr)) } : Corner)).filter fun c => decide (least ≤ c.ang)) = (((GS'.take j).map fun g => ({ crn0 g with ang := max (upt R.ps (crn0 g).til - upt R.ps (crn0 g).fr) (-(upt R.ps (crn0 g).til - upt R.ps (crn0 g).fr)) } : Corner)).filter fun c => decide (least ≤ c.ang))) := by
              rw [HSN.out, List.filter_append]
              simp [hle, Hid]
            clear HSN
            go_wp2_with fail
            go_roundw
            case rel => exact ⟨j + 1, _, _, _, by omega, by go_num, rfl, by rw [hnew.out]; exact HOS.out, hbs⟩
            case measure => simp [intOf]; omega
        · obtain rfl : j = n := by omega
          have hall : Hid ((((GS'.take j).map fun g => ({ crn0 g with ang := max (upt R.ps (crn0 g).til - upt R.ps (crn0 g).fr) (-(upt R.ps (crn0 g).til - upt R.ps (crn0 g).fr)) } : Corner)).filter fun c => decide (least ≤ c.ang)) = crns gap least R) := by
            have hln := hO.len
            rw [List.length_map] at hln
            rw [crns_of gap least R hv'.out, hln, List.take_length, hG.out]
            exact rfl
          rw [hall.out] at hO1
          go_wp2_with fail
          go_ret
          have X := hO1.sl kC_len
          have Y := hbW.trans (hb2.mono hbW.size)
          exact ⟨_, _, ⟨_, rfl⟩, X, Y⟩
end Go.Proofs.Ytomloklckpcaiaa
