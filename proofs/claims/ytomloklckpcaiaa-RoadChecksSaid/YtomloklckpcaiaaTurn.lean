/- The turning between two places: the reference's and the road package's. -/
import Derived.Test.YtomloklckpcaiaaUpto
import Derived.Test.YtomloklckpcaiaaValid
import Derived.Test.YtomloklckpcaiaaFind
namespace Go.Proofs.Ytomloklckpcaiaa
open Go.RowKit Go.Shelf Go.Sort Go.Proofs

theorem upt_bd : ∀ (ps : List Piece) (x : Int), (∀ p ∈ ps, pOk p = true) → -(200000000 * (ps.length : Int)) ≤ upt ps x ∧ upt ps x ≤ 200000000 * (ps.length : Int)
  | [], _, _ => by simp [upt]
  | p :: ps, x, h => by
    have ih := upt_bd ps (x - p.len) (fun q hq => h q (List.mem_cons_of_mem _ hq))
    have hp0 := h p (List.mem_cons_self ..)
    have hp := pOk_len hp0
    rw [upt, List.length_cons]
    split
    · omega
    · have ht := trn_bd p (min x p.len) (by omega) (by omega) (pOk_tOk hp0)
      omega
theorem upt_take (ps : List Piece) (x : Int) (k : Nat) (h : k < ps.length) (hk : ∀ p ∈ ps, pOk p = true) (h0 : 0 < x - sumL (ps.take k)) :
    upt (ps.take (k + 1)) x = upt (ps.take k) x + trn ps[k] (min (x - sumL (ps.take k)) ps[k].len) := by
  rw [List.take_succ_eq_append_getElem h, upt_append _ _ _ (fun p hp => hk p (List.mem_of_mem_take hp))]
  simp only [upt, Int.add_zero]
  rw [if_neg (by omega)]
theorem upt_done (ps : List Piece) (x : Int) (k : Nat) (hk : ∀ p ∈ ps, pOk p = true) (h0 : x - sumL (ps.take k) ≤ 0) : upt ps x = upt (ps.take k) x := by
  have h4 := upt_append (ps.take k) (ps.drop k) x (fun p hp => hk p (List.mem_of_mem_take hp))
  rw [List.take_append_drop, upt_neg (ps.drop k) _ h0, Int.add_zero] at h4
  exact h4

set_option maxHeartbeats 2000000 in
theorem rUpto_any (x : Int) (pa : Option Addr) (pn pc : Nat) (ca : Option Addr) (cn cc : Nat) (ja : Option Addr) (jn jc : Nat) (R : Road) (w : World)
    (h : RD w w.heap.size pa pn ca cn ja jn R) (hk : ∀ p ∈ R.ps, pOk p = true) (hl : pn ≤ 100000) (hx : x ≤ 1000000000) (hx0 : -1000000000 ≤ x) :
    Calls Try.prog 60 #[.agg #[.slice pa pn pc, .slice ca cn cc, .slice ja jn jc], .int .i64 x] w fun e w' => e = .returned (.int .i64 (upt R.ps x)) ∧ Below w.heap.size w w' := by
  obtain ⟨hP, hC, hJ⟩ := h
  have hlp := Lib.hid hP.1
  have hk' := Lib.hid hk
  clear hk
  have hW0 : Below w.heap.size w (w.alloc (.cells #[.slice pa pn pc, .slice ca cn cc, .slice ja jn jc] 26)) := (Below.refl w.heap.size w).alloc (Nat.le_refl _) _
  have hmo : Try.prog.follows .mixedOrders = true := by kernel_rfl
  go_enter Try.func60, Try.ntmps60
  go_wp2_with fail
  obtain ⟨w0, hw0⟩ : ∃ wr, wr = w.alloc (.cells #[.slice pa pn pc, .slice ca cn cc, .slice ja jn jc] 26) := ⟨_, rfl⟩
  have e0 : w0.cell? ⟨w.heap.size, 0, none⟩ = some (.slice pa pn pc) := by rw [hw0]; simp
  have esz : w.heap.size < w0.heap.size := by rw [hw0]; simp
  rw [← hw0] at hW0 ⊢
  clear hw0
  go_loopw [1, 5, 6] (fun y s i wr => ∃ k : Nat, k ≤ pn ∧ i = .int .i64 k ∧ y = .int .i64 (x - sumL (R.ps.take k)) ∧ s = .int .i64 (upt (R.ps.take k) x) ∧ Below w0.heap.size w0 wr)
    (fun _ _ i _ => pn - (intOf i).toNat)
  case atStart => exact ⟨0, Nat.zero_le _, rfl, by simp [sumL], rfl, Below.refl _ _⟩
  case round =>
    obtain ⟨k, hkn, rfl, rfl, rfl, hb⟩ := hrel
    have hBr : Below w.heap.size w wr := onto hW0 hb hW0.size
    have d0 := (bc hb esz).trans e0
    have hsz : w.heap.size < wr.heap.size := Nat.lt_of_lt_of_le esz hb.size
    have hbd : 0 ≤ sumL (R.ps.take k) ∧ sumL (R.ps.take k) ≤ 500000000 := by
      have h1 := sumL_bd (R.ps.take k) (fun p hp => hk'.out p (List.mem_of_mem_take hp))
      have h2 : (R.ps.take k).length ≤ k := List.length_take_le ..
      omega
    have hbd1 := hbd.1
    have hbd2 := hbd.2
    have hud := upt_bd (R.ps.take k) x (fun p hp => hk'.out p (List.mem_of_mem_take hp))
    have hlen : (R.ps.take k).length ≤ k := List.length_take_le ..
    have hud1 : -20000000000000 ≤ upt (R.ps.take k) x := by omega
    have hud2 : upt (R.ps.take k) x ≤ 20000000000000 := by omega
    clear hbd hud
    by_cases hlt : k < pn
    · by_cases hpos : 0 < x - sumL (R.ps.take k)
      · have hkl : k < R.ps.length := by rw [← hlp.out]; exact hlt
        have hw := hP.grow hBr hBr.size
        obtain ⟨b, off, hA, hbB, c0, c1, c2, c3, c4⟩ := PS.at_ hw (k := k) hkl
        have hpk := hk'.out _ (List.getElem_mem hkl)
        have hst := Lib.hid (sumL_take R.ps k hkl)
        have hut := Lib.hid (upt_take R.ps x k hkl hk'.out hpos)
        generalize R.ps[k]'hkl = p at c0 c1 c2 c3 c4 hpk hst hut
        have hpl := pOk_len hpk
        have hp1 := hpl.1
        have hp2 := hpl.2
        obtain ⟨M, hM1⟩ : ∃ M, M = min (x - sumL (R.ps.take k)) p.len := ⟨_, rfl⟩
        have hM2 : 1 ≤ M := by omega
        have hM3 : M ≤ 5000 := by omega
        obtain ⟨T, hT1⟩ : ∃ T, T = trn p M := ⟨_, rfl⟩
        have hTb := trn_bd p M (by omega) (by omega) (pOk_tOk hpk)
        rw [← hT1] at hTb
        have hut' : Hid (upt (R.ps.take (k + 1)) x = upt (R.ps.take k) x + T) := by rw [hT1, hM1]; exact hut.out
        have hite : (if p.len < x - sumL (R.ps.take k) then p.len else x - sumL (R.ps.take k)) = M := by rw [hM1]; split <;> omega
        have HT := Lib.hid (fun W' : World => hT1 ▸ rturned_any p M W' (by omega) (by omega) (pOk_tOk hpk))
        obtain ⟨S, hS⟩ : ∃ S, S = upt (R.ps.take k) x := ⟨_, rfl⟩
        rw [← hS] at hud1 hud2 hut' ⊢
        have hw2 : IntKind.i64.wrap (S + T) = S + T := IntWalk.i64_in _ (by omega)
        have hk1 : (0 : Int) ≤ (k : Int) := by omega
        have hk2 : (k : Int) < (pn : Int) := by omega
        clear hM1 hT1 hTb hpl hw hkl hS
        subst hA
        go_wp2_with fail
        refine wp_region_qt 16 hmo (by kernel_rfl) ?_
        simp only [List.take_succ_cons, List.take_zero, List.drop_succ_cons, List.drop_zero]
        have k0 := fun d os => cell_regrown d0 d os
        have k2 := fun d os => cell_regrown c0 d os
        have k3 := fun d os => cell_regrown c1 d os
        have k4 := fun d os => cell_regrown c2 d os
        have k5 := fun d os => cell_regrown c3 d os
        have k6 := fun d os => cell_regrown c4 d os
        repeat (quiet_step ((go_at_call 90; exact Calls.regrown_of (HT.out _))))
        refine wpQuiet_nil ?_
        intro w' hbw
        have hP' := bc hbw (b := w.heap.size) (o := 0) hsz
        rw [d0] at hP'
        have c0' := (bc hbw hbB).trans c0
        clear k0 k2 k3 k4 k5 k6
        go_wp2_with fail
        go_roundw
        case rel => exact ⟨k + 1, by omega, by go_num, by rw [hst.out]; go_num, by rw [hut'.out], onto hb hbw hb.size⟩
        case measure => simp [intOf]; omega
      · have hres := Lib.hid (upt_done R.ps x k hk'.out (by omega))
        go_wp2_with fail
        go_ret
        exact ⟨ret_int hres.out.symm, hBr⟩
    · obtain rfl : k = pn := by omega
      have hres : Hid (upt (R.ps.take k) x = upt R.ps x) := by rw [hlp.out, List.take_length]; exact rfl
      go_wp2_with fail
      go_ret
      exact ⟨ret_int hres.out, hBr⟩

theorem rTurning_any (x y : Int) (pa : Option Addr) (pn pc : Nat) (ca : Option Addr) (cn cc : Nat) (ja : Option Addr) (jn jc : Nat) (R : Road) (w : World)
    (h : RD w w.heap.size pa pn ca cn ja jn R) (hk : ∀ p ∈ R.ps, pOk p = true) (hl : pn ≤ 100000) (hx : x ≤ 1000000000) (hx0 : -1000000000 ≤ x) (hy : y ≤ 1000000000) (hy0 : -1000000000 ≤ y) :
    Calls Try.prog 25 #[.agg #[.slice pa pn pc, .slice ca cn cc, .slice ja jn jc], .int .i64 x, .int .i64 y] w fun e w' => e = .returned (.int .i64 (upt R.ps y - upt R.ps x)) ∧ Below w.heap.size w w' := by
  have hW0 : Below w.heap.size w (w.alloc (.cells #[.slice pa pn pc, .slice ca cn cc, .slice ja jn jc] 26)) := (Below.refl w.heap.size w).alloc (Nat.le_refl _) _
  have hmo : Try.prog.follows .mixedOrders = true := by kernel_rfl
  have h1 := upt_bd R.ps x hk
  have h2 := upt_bd R.ps y hk
  have h3 := h.p.1
  obtain ⟨X, hX⟩ : ∃ X, X = upt R.ps x := ⟨_, rfl⟩
  obtain ⟨Y, hY⟩ : ∃ Y, Y = upt R.ps y := ⟨_, rfl⟩
  rw [← hX] at h1 ⊢
  rw [← hY] at h2 ⊢
  have HX := Lib.hid (fun (W : World) (hW : RD W W.heap.size pa pn ca cn ja jn R) => hX ▸ rUpto_any x pa pn pc ca cn cc ja jn jc R W hW hk hl hx hx0)
  have HY := Lib.hid (fun (W : World) (hW : RD W W.heap.size pa pn ca cn ja jn R) => hY ▸ rUpto_any y pa pn pc ca cn cc ja jn jc R W hW hk hl hy hy0)
  have hw2 : IntKind.i64.wrap (Y - X) = Y - X := IntWalk.i64_in _ (by omega)
  have hR := Lib.hid h
  clear hX hY h1 h2 h3 h hk
  go_enter Try.func25, Try.ntmps25
  go_wp2_with fail
  refine wp_region_qt 7 hmo (by kernel_rfl) ?_
  simp only [List.take_succ_cons, List.take_zero, List.drop_succ_cons, List.drop_zero]
  have k0 := fun d os => cell_regrown (w := w.alloc (.cells #[.slice pa pn pc, .slice ca cn cc, .slice ja jn jc] 26)) (a := ⟨w.heap.size, 0, none⟩) (v := .slice pa pn pc) (by simp) d os
  have k1 := fun d os => cell_regrown (w := w.alloc (.cells #[.slice pa pn pc, .slice ca cn cc, .slice ja jn jc] 26)) (a := ⟨w.heap.size, 1, none⟩) (v := .slice ca cn cc) (by simp) d os
  have k2 := fun d os => cell_regrown (w := w.alloc (.cells #[.slice pa pn pc, .slice ca cn cc, .slice ja jn jc] 26)) (a := ⟨w.heap.size, 2, none⟩) (v := .slice ja jn jc) (by simp) d os
  have hg := fun d os => hR.out.grow (hW0.trans ((below_regrown (w.alloc (.cells #[.slice pa pn pc, .slice ca cn cc, .slice ja jn jc] 26)) d os).mono hW0.size)) (Nat.le_trans hW0.size (below_regrown _ d os).size)
  have HG := Lib.hid hg
  clear hg
  repeat (quiet_step (first | (go_at_call_of 60 y; exact Calls.regrown_of (HY.out _ (HG.out _ _))) | (go_at_call_of 60 x; exact Calls.regrown_of (HX.out _ (HG.out _ _)))))
  refine wpQuiet_nil ?_
  intro w' hbw
  go_wp2_with fail
  go_ret
  exact ⟨rfl, hW0.trans (hbw.mono hW0.size)⟩

theorem Turning_in (x y : Int) (pa : Option Addr) (pn pc : Nat) (ca : Option Addr) (cn cc : Nat) (ja : Option Addr) (jn jc : Nat) (R : Road) (w : World)
    (h : RD w w.heap.size pa pn ca cn ja jn R) (hv : OK R) (h0 : 0 ≤ x) (h1 : x ≤ y) (h2 : y ≤ sumL R.ps) :
    Calls Try.prog 24 #[.agg #[.slice pa pn pc, .slice ca cn cc, .slice ja jn jc], .int .i64 x, .int .i64 y] w fun e w' =>
      e = .returned (.tuple #[.int .i64 (upt R.ps y - upt R.ps x), .int .i64 0]) ∧ Below w.heap.size w w' := by
  have hpn : pn ≤ 2000 := by rw [h.p.1]; exact hv.p2
  have hln := hv.len
  have hln1 := hln.1
  have hln2 := hln.2
  have hb1 := upt_bd R.ps x hv.pk
  have hb2 := upt_bd R.ps y hv.pk
  have hp2 := hv.p2
  have hbx1 : -400000000000 ≤ upt R.ps x := by omega
  have hbx2 : upt R.ps x ≤ 400000000000 := by omega
  have hby1 : -400000000000 ≤ upt R.ps y := by omega
  have hby2 : upt R.ps y ≤ 400000000000 := by omega
  have hc := Lib.hid (chk_ok hv)
  have hv' := Lib.hid hv
  have hR := Lib.hid h
  clear h hv hln hb1 hb2 hp2
  have hW0 : Below w.heap.size w (w.alloc (.cells #[.slice pa pn pc, .slice ca cn cc, .slice ja jn jc] 26)) := (Below.refl w.heap.size w).alloc (Nat.le_refl _) _
  go_enter Try.func24, Try.ntmps24
  go_wp2_with fail
  refine (Check_any _ _ _ _ _ _ _ _ _ R _ (hR.out.grow hW0 hW0.size)).mono ?_
  rintro e w1 ⟨rfl, hb1'⟩
  rw [hc.out]
  have hB1 := onto hW0 hb1' hW0.size
  have d0 := (bc hb1' (b := w.heap.size) (o := 0) (by simp)).trans (show _ = some (.slice pa pn pc) by simp)
  have d1 := (bc hb1' (b := w.heap.size) (o := 1) (by simp)).trans (show _ = some (.slice ca cn cc) by simp)
  have d2 := (bc hb1' (b := w.heap.size) (o := 2) (by simp)).trans (show _ = some (.slice ja jn jc) by simp)
  go_wp2_with fail
  refine (measure_any _ _ _ _ _ _ _ _ _ R _ (hR.out.grow hB1 hB1.size) hv'.out.pk (by omega)).mono ?_
  rintro e w2 ⟨g, ba, bq, rfl, hM, hg, hb2⟩
  have hM' := Lib.hid hM
  have hB2 := onto hB1 hb2 hB1.size
  clear hM
  go_wp2_with fail
  refine (mlength_any g _ _ _ _ _ _ _ _ _ _ _ R _ _ hM'.out (by omega)).mono ?_
  rintro e w3 ⟨rfl, n, rfl⟩
  go_wp2_with fail
  refine (upTo_any y g _ _ _ _ _ _ _ _ _ _ _ R _ (hM'.out.drewN n) hv'.out.pk (by omega) (by omega) (by omega)).mono ?_
  rintro e w3 ⟨rfl, hb3⟩
  have hB3 := onto (below_drewN hB2 n) hb3 hB2.size
  go_wp2_with fail
  refine (upTo_any x g _ _ _ _ _ _ _ _ _ _ _ R _ ((hM'.out.drewN n).grow hb3 hb3.size) hv'.out.pk (by omega) (by omega) (by omega)).mono ?_
  rintro e w4 ⟨rfl, hb4⟩
  have hB4 := onto hB3 hb4 hB3.size
  go_wp2_with fail
  go_ret2
  exact ⟨rfl, hB4⟩

theorem Turning_out (x y : Int) (pa : Option Addr) (pn pc : Nat) (ca : Option Addr) (cn cc : Nat) (ja : Option Addr) (jn jc : Nat) (R : Road) (w : World)
    (h : RD w w.heap.size pa pn ca cn ja jn R) (hv : OK R) (h0 : x < 0 ∨ y < x ∨ sumL R.ps < y) :
    Calls Try.prog 24 #[.agg #[.slice pa pn pc, .slice ca cn cc, .slice ja jn jc], .int .i64 x, .int .i64 y] w fun e w' =>
      e = .returned (.tuple #[.int .i64 0, .int .i64 2]) ∧ Below w.heap.size w w' := by
  have hpn : pn ≤ 2000 := by rw [h.p.1]; exact hv.p2
  have hc := Lib.hid (chk_ok hv)
  have hv' := Lib.hid hv
  have hR := Lib.hid h
  clear h hv
  have hW0 : Below w.heap.size w (w.alloc (.cells #[.slice pa pn pc, .slice ca cn cc, .slice ja jn jc] 26)) := (Below.refl w.heap.size w).alloc (Nat.le_refl _) _
  have h0' := Lib.hid h0
  clear h0
  go_enter Try.func24, Try.ntmps24
  go_wp2_with fail
  refine (Check_any _ _ _ _ _ _ _ _ _ R _ (hR.out.grow hW0 hW0.size)).mono ?_
  rintro e w1 ⟨rfl, hb1'⟩
  rw [hc.out]
  have hB1 := onto hW0 hb1' hW0.size
  have d0 := (bc hb1' (b := w.heap.size) (o := 0) (by simp)).trans (show _ = some (.slice pa pn pc) by simp)
  have d1 := (bc hb1' (b := w.heap.size) (o := 1) (by simp)).trans (show _ = some (.slice ca cn cc) by simp)
  have d2 := (bc hb1' (b := w.heap.size) (o := 2) (by simp)).trans (show _ = some (.slice ja jn jc) by simp)
  go_wp2_with fail
  refine (measure_any _ _ _ _ _ _ _ _ _ R _ (hR.out.grow hB1 hB1.size) hv'.out.pk (by omega)).mono ?_
  rintro e w2 ⟨g, ba, bq, rfl, hM, hg, hb2⟩
  have hM' := Lib.hid hM
  have hB2 := onto hB1 hb2 hB1.size
  clear hM
  by_cases hx : x < 0
  · go_wp2_with fail
    go_ret2
    exact ⟨rfl, hB2⟩
  by_cases hy : y < x
  · go_wp2_with fail
    go_ret2
    exact ⟨rfl, hB2⟩
  have hz : sumL R.ps < y := by have := h0'.out; omega
  go_wp2_with fail
  refine (mlength_any g _ _ _ _ _ _ _ _ _ _ _ R _ _ hM'.out (by omega)).mono ?_
  rintro e w3 ⟨rfl, n, rfl⟩
  go_wp2_with fail
  go_ret2
  exact ⟨rfl, below_drewN hB2 _⟩
end Go.Proofs.Ytomloklckpcaiaa
