/- pace.Fits: whether times are a run that fits passings. -/
import Derived.Test.YtafclpmnpamipaaGreatQPas
namespace Go.Proofs.YtafclpmnpamipaaGreat
open Go.RowKit Go.Shelf Go.Sort Go.Proofs

/-- The time at a place. -/
def runOf (us : List Int) (p : Int) : Int := us.getD p.toNat 0
/-- What is asked of the time at i. -/
def okI (S : Spd) (R : Road) (us : List Int) (i : Nat) : Bool := match us[i]? with
  | none => false
  | some x => if i = 0 then x == 0 else match us[i-1]? with
    | none => false
    | some y => decide (tQ S R.ps i - tQ S R.ps (i-1) ≤ x - y) && decide (x - y ≤ tSl S R.ps i - tSl S R.ps (i-1))
def inP (us : List Int) (x : PassR) : Bool := inR (runOf us x.place) x.early x.late
def fitM (S : Spd) (R : Road) (ps : List PassR) (us : List Int) : Bool := (List.range us.length).all (okI S R us) && ps.all (inP us)
theorem okI_0 {S : Spd} {R : Road} {us : List Int} {x : Int} (h : us[0]? = some x) : okI S R us 0 = (x == 0) := by unfold okI; rw [h]; rfl
theorem okI_s {S : Spd} {R : Road} {us : List Int} {i : Nat} {x y : Int} (h : us[i + 1]? = some x) (h' : us[i]? = some y) : okI S R us (i + 1) = (decide (tQ S R.ps (i + 1) - tQ S R.ps i ≤ x - y) && decide (x - y ≤ tSl S R.ps (i + 1) - tSl S R.ps i)) := by
  unfold okI
  rw [h]
  dsimp only
  rw [if_neg (by omega), show i + 1 - 1 = i by omega, h']
/-- As long as it goes well, the times lie between the sums. -/
theorem okI_bd {S : Spd} {R : Road} {us : List Int} : ∀ (k : Nat), (∀ j, j ≤ k → okI S R us j = true) → ∃ x, us[k]? = some x ∧ tQ S R.ps k ≤ x ∧ x ≤ tSl S R.ps k
  | 0, h => by
    have h0 := h 0 (Nat.le_refl _)
    cases hx : us[0]? with
    | none => unfold okI at h0; rw [hx] at h0; cases h0
    | some x =>
      rw [okI_0 hx] at h0
      have : x = 0 := by simpa using h0
      exact ⟨x, rfl, by rw [tQ_zero]; omega, by rw [tSl_zero]; omega⟩
  | k + 1, h => by
    obtain ⟨y, hy, h1, h2⟩ := okI_bd (S := S) (R := R) k (fun j hj => h j (by omega))
    have h0 := h (k + 1) (Nat.le_refl _)
    cases hx : us[k + 1]? with
    | none => unfold okI at h0; rw [hx] at h0; cases h0
    | some x =>
      rw [okI_s hx hy] at h0
      simp only [Bool.and_eq_true, decide_eq_true_eq] at h0
      exact ⟨x, rfl, by omega, by omega⟩
theorem fitM_no {S : Spd} {R : Road} {ps : List PassR} {us : List Int} {i : Nat} (hi : i < us.length) (h : okI S R us i = false) : fitM S R ps us = false := by
  unfold fitM
  rw [show (List.range us.length).all (okI S R us) = false from Bool.eq_false_iff.2 fun q => by have := List.all_eq_true.1 q i (List.mem_range.2 hi); rw [h] at this; cases this]
  rfl
theorem fitM_yes {S : Spd} {R : Road} {ps : List PassR} {us : List Int} (h : ∀ i, i < us.length → okI S R us i = true) : fitM S R ps us = ps.all (inP us) := by
  unfold fitM
  rw [show (List.range us.length).all (okI S R us) = true from List.all_eq_true.2 fun i hi => h i (List.mem_range.1 hi), Bool.true_and]
theorem runOf_at {us : List Int} {q : Nat} (h : q < us.length) : runOf us (q : Int) = us[q]'h := by
  unfold runOf
  rw [Int.toNat_natCast, List.getD, List.getElem?_eq_getElem h]
  rfl
set_option maxRecDepth 100000 in
theorem fits1_any (x : PassR) (vb : Nat) (ua : Option Addr) (un uc : Nat) (us : List Int) (w : World) (hv : w.cell? ⟨vb, 0, none⟩ = some (.slice ua un uc)) (hl : vb < w.heap.size) (hU : SL iC 1 w w.heap.size ua un us) (hp : 0 ≤ x.place ∧ x.place < (un : Int)) :
    Calls Tryz.prog 33 #[.agg #[.int .i64 x.place, .int .i64 x.early, .int .i64 x.late], .pointer (some ⟨vb, 0, none⟩)] w fun e w' => e = .returned (.bool (!inP us x)) ∧ Below w.heap.size w w' := by
  obtain ⟨q, hq⟩ : ∃ q : Nat, x.place = (q : Int) := ⟨x.place.toNat, by omega⟩
  have hqu : q < us.length := by rw [← hU.1]; omega
  have HI : Hid (inP us x = inR (us[q]'hqu) x.early x.late) := by show _ = _; unfold inP; rw [hq, runOf_at hqu]
  obtain ⟨b, off, hA, hbB, c0⟩ := IS.at_ hU (k := q) hqu
  generalize us[q]'hqu = u at c0 HI
  have hi1 : (0 : Int) ≤ (q : Int) := by omega
  have hi2 : (q : Int) < (un : Int) := by omega
  have hW0 : Below w.heap.size w (w.alloc (.cells #[.int .i64 x.place, .int .i64 x.early, .int .i64 x.late] 51)) := (Below.refl w.heap.size w).alloc (Nat.le_refl _) _
  clear hqu hU hp
  subst hA
  rw [hq] at hW0 ⊢
  go_enter Tryz.func33, Tryz.ntmps33
  go_wp2_with fail
  go_quiet ((go_at_call 31; exact Calls.quiet_of_same ((pwithin_any _ _ _ _).mono fun _ _ ⟨a, b⟩ => ⟨a, b.symm⟩)))
  go_wp2_with fail
  go_ret
  exact ⟨ret_bool (by rw [HI.out]), below_drewN hW0 _⟩
set_option maxRecDepth 100000 in
theorem fitsI_any (la : Option Addr) (ln lc : Nat) (ls : List PassR) (vb : Nat) (ua : Option Addr) (un uc : Nat) (us : List Int) (w : World) (hv : w.cell? ⟨vb, 0, none⟩ = some (.slice ua un uc)) (hl : vb < w.heap.size) (hU : SL iC 1 w w.heap.size ua un us) (hK : SL paC 3 w w.heap.size la ln ls)
    (hp : ∀ x ∈ ls, 0 ≤ x.place ∧ x.place < (un : Int)) (hln : ln ≤ 1000) :
    Calls Tryz.prog 83 #[.slice la ln lc, .func (.func 33) #[] #[.pointer (some ⟨vb, 0, none⟩)]] w fun e w' => (∃ v : Int, e = .returned (.int .i64 v) ∧ decide (v < 0) = ls.all (inP us)) ∧ Below w.heap.size w w' := by
  have HK := Lib.hid hK
  have HU := Lib.hid hU
  have HV := Lib.hid hv
  have HL := Lib.hid hK.1
  have HP := Lib.hid hp
  clear hK hU hv hp
  go_enter Tryz.func83, Tryz.ntmps83
  go_wp2_with fail
  go_loopw [8] (fun i wr => ∃ k : Nat, k ≤ ln ∧ i = .int .i64 k ∧ Below w.heap.size w wr ∧ Hid (∀ x ∈ ls.take k, inP us x = true))
    (fun i _ => ln - (intOf i).toNat)
  case atStart => exact ⟨0, Nat.zero_le _, rfl, Below.refl _ _, by simp [Hid]⟩
  case round =>
    obtain ⟨k, hk, rfl, hbr, hall⟩ := hrel
    by_cases hlt : k < ln
    · have hkl : k < ls.length := by rw [← HL.out]; exact hlt
      obtain ⟨b, off, hA, hbB, c0, c1, c2⟩ := PA3.at_ (HK.out.grow hbr hbr.size) (k := k) hkl
      have htm := Lib.hid (fun x => take_mem (P := fun p => inP us p = true) hkl hall.out x)
      have hmem := Lib.hid (List.getElem_mem hkl)
      have hpx := HP.out _ (List.getElem_mem hkl)
      generalize ls[k]'hkl = x at c0 c1 c2 htm hmem hpx
      have hk1 : (0 : Int) ≤ (k : Int) := by omega
      have hk2 : (k : Int) < (ln : Int) := by omega
      have HF := Lib.hid (fits1_any x vb ua un uc us _ ((hbr.cell (p := ⟨vb, 0, none⟩) hl).trans HV.out) (Nat.lt_of_lt_of_le hl hbr.size) (HU.out.grow hbr hbr.size) hpx)
      clear hkl hall hpx
      subst hA
      cases hp : inP us x
      · have HPX := Lib.hid hp
        clear hp
        go_wp2_with (go_at_call 33; refine HF.out.mono ?_; rintro e w' ⟨rfl, hb2⟩; rw [HPX.out])
        go_ret
        refine ⟨⟨_, rfl, ?_⟩, hbr.trans (hb2.mono hbr.size)⟩
        have h1 : ls.all (inP us) = false := by
          rw [Bool.eq_false_iff]
          intro h
          have := List.all_eq_true.1 h x hmem.out
          rw [HPX.out] at this
          cases this
        rw [h1]
        simp
      · have HPX := Lib.hid hp
        clear hp
        go_wp2_with (go_at_call 33; refine HF.out.mono ?_; rintro e w' ⟨rfl, hb2⟩; rw [HPX.out])
        go_roundw
        case rel => exact ⟨k + 1, by omega, by go_num, hbr.trans (hb2.mono hbr.size), htm.out HPX.out⟩
        case measure => simp [intOf]; omega
    · obtain rfl : k = ln := by omega
      go_wp2_with fail
      go_ret
      refine ⟨⟨_, rfl, ?_⟩, hbr⟩
      have h1 : ls.all (inP us) = true := by
        rw [List.all_eq_true]
        have := hall.out
        rw [HL.out, List.take_length] at this
        exact this
      rw [h1]
      rfl
set_option maxRecDepth 100000 in
theorem fitsC_any (la : Option Addr) (ln lc : Nat) (ls : List PassR) (vb : Nat) (ua : Option Addr) (un uc : Nat) (us : List Int) (w : World) (hv : w.cell? ⟨vb, 0, none⟩ = some (.slice ua un uc)) (hl : vb < w.heap.size) (hU : SL iC 1 w w.heap.size ua un us) (hK : SL paC 3 w w.heap.size la ln ls)
    (hp : ∀ x ∈ ls, 0 ≤ x.place ∧ x.place < (un : Int)) (hln : ln ≤ 1000) :
    Calls Tryz.prog 32 #[.slice la ln lc, .func (.func 33) #[] #[.pointer (some ⟨vb, 0, none⟩)]] w fun e w' => e = .returned (.bool (!ls.all (inP us))) ∧ Below w.heap.size w w' := by
  have HF := Lib.hid (fitsI_any la ln lc ls vb ua un uc us w hv hl hU hK hp hln)
  clear hv hU hK hp
  go_enter Tryz.func32, Tryz.ntmps32
  go_wp2_with fail
  refine HF.out.mono ?_
  rintro e w' ⟨⟨v, rfl, hv⟩, hb⟩
  have HV := Lib.hid hv
  clear hv
  go_wp2_with fail
  go_ret
  refine ⟨ret_bool ?_, hb⟩
  rw [← HV.out]
  by_cases h : v < 0
  · rw [decide_eq_true h, decide_eq_false (by omega)]; rfl
  · rw [decide_eq_false h, decide_eq_true (by omega)]; rfl
def fitOkB (S : Spd) (R : Road) (ls : List PassR) (us : List Int) : Bool := val R && spB S && pB (sumL R.ps) ls && decide (us.length = (sumL R.ps).toNat + 1)
/-- Whether times fit, of whatever arguments. -/
def fitAll (S : Spd) (R : Road) (ls : List PassR) (us : List Int) : Bool × Int := if fitOkB S R ls us = true then (fitM S R ls us, 0) else (false, 2)
theorem fitAll_bad {S : Spd} {R : Road} {ls : List PassR} {us : List Int} (h : fitOkB S R ls us = false) : fitAll S R ls us = (false, 2) := by unfold fitAll; rw [h]; rfl
theorem fitAll_ok {S : Spd} {R : Road} {ls : List PassR} {us : List Int} (h : fitOkB S R ls us = true) : fitAll S R ls us = (fitM S R ls us, 0) := by unfold fitAll; rw [h]; rfl
set_option maxRecDepth 100000 in
set_option maxHeartbeats 8000000 in
theorem Fits_all (pa : Option Addr) (pn pc : Nat) (ca : Option Addr) (cn cc : Nat) (ja : Option Addr) (jn jc : Nat) (R : Road) (ra : Option Addr) (rn rc : Nat) (sa : Option Addr) (sn sc : Nat) (S : Spd) (la : Option Addr) (ln lc : Nat) (ls : List PassR) (ua : Option Addr) (un uc : Nat) (us : List Int) (w : World)
    (h : RD w w.heap.size pa pn ca cn ja jn R) (hD : SD w w.heap.size ra rn sa sn S) (hL : SL paC 3 w w.heap.size la ln ls) (hU : SL iC 1 w w.heap.size ua un us) (hln : ln ≤ 1000) (hun : un ≤ 200000) (hrg : ∀ x ∈ us, -9223372036854775808 ≤ x ∧ x ≤ 9223372036854775807) :
    Calls Tryz.prog 10 #[.agg #[.slice pa pn pc, .slice ca cn cc, .slice ja jn jc], .agg #[.int .i64 S.least, .int .i64 S.most, .slice ra rn rc, .slice sa sn sc], .slice la ln lc, .slice ua un uc] w fun e w' =>
      e = .returned (.tuple #[.bool (fitAll S R ls us).1, .int .i64 (fitAll S R ls us).2]) ∧ Below w.heap.size w w' := by
  have hmo : Tryz.prog.follows .mixedOrders = true := by kernel_rfl
  have HLP := Lib.hid hL.1
  have HLU := Lib.hid hU.1
  have HRG := Lib.hid hrg
  clear hrg
  have HR := Lib.hid h
  have HD := Lib.hid hD
  have HL := Lib.hid hL
  have HU := Lib.hid hU
  clear h hD hL hU
  obtain ⟨w0, hw0⟩ : ∃ w0, w0 = ((w.alloc (.cells #[.slice pa pn pc, .slice ca cn cc, .slice ja jn jc] 26)).alloc (.cells #[.int .i64 S.least, .int .i64 S.most, .slice ra rn rc, .slice sa sn sc] 30)).alloc (.cells #[.slice ua un uc] 28) := ⟨_, rfl⟩
  have hB0 : Below w.heap.size w w0 := by rw [hw0]; exact (((Below.refl w.heap.size w).alloc (Nat.le_refl _) _).alloc (by simp) _).alloc (by simp; omega) _
  have hX0 : BK w0 (w.heap.size) 26 #[.slice pa pn pc, .slice ca cn cc, .slice ja jn jc] := by rw [hw0]; exact (((BK.new w 26 #[.slice pa pn pc, .slice ca cn cc, .slice ja jn jc])).alloc _).alloc _
  have hY0 : BK w0 (w.heap.size + 1) 30 #[.int .i64 S.least, .int .i64 S.most, .slice ra rn rc, .slice sa sn sc] := by rw [hw0]; have := BK.new (w.alloc (.cells #[.slice pa pn pc, .slice ca cn cc, .slice ja jn jc] 26)) 30 #[.int .i64 S.least, .int .i64 S.most, .slice ra rn rc, .slice sa sn sc]; rw [World.size_alloc] at this; exact (this).alloc _
  have hV0 : BK w0 (w.heap.size + 2) 28 #[.slice ua un uc] := by rw [hw0]; have := BK.new ((w.alloc (.cells #[.slice pa pn pc, .slice ca cn cc, .slice ja jn jc] 26)).alloc (.cells #[.int .i64 S.least, .int .i64 S.most, .slice ra rn rc, .slice sa sn sc] 30)) 28 #[.slice ua un uc]; rw [World.size_alloc, World.size_alloc] at this; exact this
  go_enter Tryz.func10, Tryz.ntmps10
  go_wp2_with fail
  rw [← hw0]
  clear hw0
  have x0 := hX0.cell 0
  have x1 := hX0.cell 1
  have x2 := hX0.cell 2
  have y0 := hY0.cell 0
  have y1 := hY0.cell 1
  have y2 := hY0.cell 2
  have y3 := hY0.cell 3
  simp only [List.getElem?_toArray, List.getElem?_cons_zero, List.getElem?_cons_succ] at x0 x1 x2 y0 y1 y2 y3
  go_wp2_with fail
  clear x0 x1 x2 y0 y1 y2 y3
  have hlV := hV0.lt
  by_cases hb : OK R ∧ SOK S
  case neg =>
    have HE : Hid (fitAll S R ls us = (false, 2)) := fitAll_bad (by
      unfold fitOkB
      rw [Bool.eq_false_iff]
      intro q
      rw [Bool.and_eq_true, Bool.and_eq_true, Bool.and_eq_true] at q
      exact hb ⟨(val_iff R).1 q.1.1.1, (spB_iff S).1 q.1.1.2⟩)
    refine (begin_bad pa pn pc ca cn cc ja jn jc R ra rn rc sa sn sc S w0 (HR.out.grow hB0 hB0.size) (HD.out.grow hB0 hB0.size) hb).mono ?_
    rintro e w1 ⟨rfl, hk⟩
    clear hb
    have hB1 := hB0.trans (hk.mono hB0.size)
    have hV1 := hV0.below hk hV0.lt
    clear hV0 hB0 hk
    go_wp2_with fail
    have v0 := fun d os => cell_regrown (hV1.cell 0) d os
    refine wp_region_ch 17 [5, 8] hmo (by kernel_rfl) ?_
    simp only [List.take_succ_cons, List.take_zero, List.drop_succ_cons, List.drop_zero]
    repeat (with_reducible refine wpC_q (by decide) (by decide) (fun K hK => ?_); go_simp; (try rw [if_neg (by simp [undef])]); refine hK _ ?_; clear hK K)
    with_reducible refine wpC_off (by decide) (by go_simp) ?_
    repeat (with_reducible refine wpC_q (by decide) (by decide) (fun K hK => ?_); go_simp; (try rw [if_neg (by simp [undef])]); refine hK _ ?_; clear hK K)
    with_reducible refine wpC_vg (ι := Unit) (fun _ => .bool true) (fun _ _ => True) (by decide) (by decide) (by go_simp) stable_true (fun _ => stable_true) (fun W _ _ => ⟨(), W, by go_simp, trivial, Below.refl _ _⟩) (fun i0 hs0 => ?_)
    repeat (with_reducible refine wpC_q (by decide) (by decide) (fun K hK => ?_); go_simp; (try rw [if_neg (by simp [undef])]); refine hK _ ?_; clear hK K)
    refine wpC_nil ?_
    intro w2 hb2 _
    clear v0 hs0
    go_wp2_with fail
    refine bodyPost_ret (v := .tuple #[.bool false, .int .i64 2]) (by simp [results, Tryz.results10, go_sem]) rfl ⟨by rw [HE.out], hB1.trans (hb2.mono hB1.size)⟩
  have HV := Lib.hid hb.1
  have HS := Lib.hid hb.2
  clear hb
  refine (begin_any pa pn pc ca cn cc ja jn jc R ra rn rc sa sn sc S w0 (HR.out.grow hB0 hB0.size) (HD.out.grow hB0 hB0.size) HV.out HS.out).mono ?_
  rintro e w1 ⟨g, ta, tc, N, rfl, hTS, hk⟩
  have HT1 := Lib.hid hTS
  have hN1 : N ≤ 100000 := by have := hTS.n; have := HV.out.n1; omega
  have HN : Hid (sumL R.ps = N) := hTS.n
  have HOB : Hid (fitOkB S R ls us = (pB N ls && decide (un = N + 1))) := by
    show _ = _
    unfold fitOkB
    rw [(val_iff R).2 HV.out, (spB_iff S).2 HS.out, HN.out, Int.toNat_natCast, HLU.out, Bool.true_and, Bool.true_and]
  clear hX0 hY0 hTS
  have hB1 := hB0.trans (hk.mono hB0.size)
  have hV1 := hV0.below hk hV0.lt
  clear hV0 hB0 hk
  go_wp2_with fail
  have v0 := fun d os => cell_regrown (hV1.cell 0) d os
  have g3 := fun d os => cell_regrown HT1.out.c3 d os
  have hgl := HT1.out.lt
  have HPa := Lib.hid (fun (W : World) (hW : TS W W.heap.size g ta tc N S R) (hL : SL paC 3 W W.heap.size la ln ls) => passings_any la ln lc ls g ta tc N S R W hW hL (by omega) (by omega))
  have HGT := Lib.hid (fun d os => HT1.out.grow (below_regrown w1 d os) (below_regrown w1 d os).size)
  have HGL := Lib.hid (fun d os => HL.out.grow (hB1.trans ((below_regrown w1 d os).mono hB1.size)) (Nat.le_trans hB1.size (below_regrown w1 d os).size))
  cases hpb : pB N ls
  case false =>
    have HE : Hid (fitAll S R ls us = (false, 2)) := fitAll_bad (by rw [HOB.out, hpb]; rfl)
    have HPB := Lib.hid hpb
    clear hpb
    refine wp_region_ch 17 [5, 8] hmo (by kernel_rfl) ?_
    simp only [List.take_succ_cons, List.take_zero, List.drop_succ_cons, List.drop_zero]
    repeat (with_reducible refine wpC_q (by decide) (by decide) (fun K hK => ?_); go_simp; (try rw [if_neg (by simp [undef])]); refine hK _ ?_; clear hK K)
    with_reducible refine wpC_cg (ι := Unit) 30 #[.pointer (some ⟨g, 0, none⟩), .slice la ln lc] (fun _ => .bool false) (fun _ _ => True) (by decide) (by decide) (by go_simp) (fun w => by go_simp) stable_true (fun _ => stable_true) (fun W hW _ => ?_) (fun i0 hs0 => ?_)
    · obtain ⟨pp, rfl⟩ := hW
      refine (HPa.out _ (HGT.out _ _) (HGL.out _ _)).mono ?_
      rintro e w' ⟨rfl, hbl⟩
      exact ⟨(), by rw [HPB.out], trivial, hbl⟩
    repeat (with_reducible refine wpC_q (by decide) (by decide) (fun K hK => ?_); go_simp; (try rw [if_neg (by simp [undef])]); refine hK _ ?_; clear hK K)
    with_reducible refine wpC_vg (ι := Unit) (fun _ => .bool true) (fun _ _ => True) (by decide) (by decide) (by go_simp) hs0 (fun _ => stable_true) (fun W _ _ => ⟨(), W, by go_simp, trivial, Below.refl _ _⟩) (fun i1 hs1 => ?_)
    repeat (with_reducible refine wpC_q (by decide) (by decide) (fun K hK => ?_); go_simp; (try rw [if_neg (by simp [undef])]); refine hK _ ?_; clear hK K)
    refine wpC_nil ?_
    intro w2 hb2 _
    clear v0 g3 HPa HGT HGL hs0 hs1
    go_wp2_with fail
    refine bodyPost_ret (v := .tuple #[.bool false, .int .i64 2]) (by simp [results, Tryz.results10, go_sem]) rfl ⟨by rw [HE.out], hB1.trans (hb2.mono hB1.size)⟩
  have HPB := Lib.hid hpb
  have HPO := Lib.hid ((pB_iff _ _).1 hpb)
  clear hpb
  by_cases hnu : un = N + 1
  case neg =>
    have HE : Hid (fitAll S R ls us = (false, 2)) := fitAll_bad (by rw [HOB.out, decide_eq_false hnu, Bool.and_false])
    have g0 : ((un : Int) == (N : Int) + 1) = false := by simp; omega
    refine wp_region_ch 17 [5, 8] hmo (by kernel_rfl) ?_
    simp only [List.take_succ_cons, List.take_zero, List.drop_succ_cons, List.drop_zero]
    repeat (with_reducible refine wpC_q (by decide) (by decide) (fun K hK => ?_); go_simp; (try rw [if_neg (by simp [undef])]); refine hK _ ?_; clear hK K)
    with_reducible refine wpC_cg (ι := Unit) 30 #[.pointer (some ⟨g, 0, none⟩), .slice la ln lc] (fun _ => .bool true) (fun _ _ => True) (by decide) (by decide) (by go_simp) (fun w => by go_simp) stable_true (fun _ => stable_true) (fun W hW _ => ?_) (fun i0 hs0 => ?_)
    · obtain ⟨pp, rfl⟩ := hW
      refine (HPa.out _ (HGT.out _ _) (HGL.out _ _)).mono ?_
      rintro e w' ⟨rfl, hbl⟩
      exact ⟨(), by rw [HPB.out], trivial, hbl⟩
    repeat (with_reducible refine wpC_q (by decide) (by decide) (fun K hK => ?_); go_simp; (try rw [if_neg (by simp [undef])]); refine hK _ ?_; clear hK K)
    with_reducible refine wpC_vg (ι := Unit) (fun _ => .bool false) (fun _ _ => True) (by decide) (by decide) (by go_simp) hs0 (fun _ => stable_true) (fun W _ _ => ⟨(), W, by go_simp, trivial, Below.refl _ _⟩) (fun i1 hs1 => ?_)
    repeat (with_reducible refine wpC_q (by decide) (by decide) (fun K hK => ?_); go_simp; (try rw [if_neg (by simp [undef])]); refine hK _ ?_; clear hK K)
    refine wpC_nil ?_
    intro w2 hb2 _
    clear v0 g3 HPa HGT HGL hs0 hs1
    go_wp2_with fail
    refine bodyPost_ret (v := .tuple #[.bool false, .int .i64 2]) (by simp [results, Tryz.results10, go_sem]) rfl ⟨by rw [HE.out], hB1.trans (hb2.mono hB1.size)⟩
  have HOK : Hid (fitAll S R ls us = (fitM S R ls us, 0)) := fitAll_ok (by rw [HOB.out, HPB.out, decide_eq_true hnu]; rfl)
  have g0 : ((un : Int) == (N : Int) + 1) = true := by simp; omega
  have g0' : ((un : Int) != (N : Int) + 1) = false := by simp; omega
  have HNU := Lib.hid hnu
  clear hnu
  refine wp_region_ch 17 [5, 8] hmo (by kernel_rfl) ?_
  simp only [List.take_succ_cons, List.take_zero, List.drop_succ_cons, List.drop_zero]
  repeat (with_reducible refine wpC_q (by decide) (by decide) (fun K hK => ?_); go_simp; (try rw [if_neg (by simp [undef])]); refine hK _ ?_; clear hK K)
  with_reducible refine wpC_cg (ι := Unit) 30 #[.pointer (some ⟨g, 0, none⟩), .slice la ln lc] (fun _ => .bool true) (fun _ _ => True) (by decide) (by decide) (by go_simp) (fun w => by go_simp) stable_true (fun _ => stable_true) (fun W hW _ => ?_) (fun i0 hs0 => ?_)
  · obtain ⟨pp, rfl⟩ := hW
    refine (HPa.out _ (HGT.out _ _) (HGL.out _ _)).mono ?_
    rintro e w' ⟨rfl, hbl⟩
    exact ⟨(), by rw [HPB.out], trivial, hbl⟩
  repeat (with_reducible refine wpC_q (by decide) (by decide) (fun K hK => ?_); go_simp; (try rw [if_neg (by simp [undef])]); refine hK _ ?_; clear hK K)
  with_reducible refine wpC_vg (ι := Unit) (fun _ => .bool false) (fun _ _ => True) (by decide) (by decide) (by go_simp) hs0 (fun _ => stable_true) (fun W _ _ => ⟨(), W, by go_simp, trivial, Below.refl _ _⟩) (fun i1 hs1 => ?_)
  repeat (with_reducible refine wpC_q (by decide) (by decide) (fun K hK => ?_); go_simp; (try rw [if_neg (by simp [undef])]); refine hK _ ?_; clear hK K)
  refine wpC_nil ?_
  intro w2 hb2 _
  clear v0 g3 HPa HGT HGL hs0 hs1
  have hk := hb2
  have HT2 := Lib.hid (HT1.out.grow hk hk.size)
  have hbv := hV1.below hk hV1.lt
  clear HT1 HOB
  have hB2 := hB1.trans (hk.mono hB1.size)
  have hV2 := hV1.below hk hV1.lt
  clear hV1 hB1 hk
  have v0 := hV2.cell 0
  simp only [List.getElem?_toArray, List.getElem?_cons_zero] at v0
  go_wp2_with fail
  clear v0
  have hz2 := hB2.size
  go_loopw [40] (fun i wr => ∃ k : Nat, k ≤ un ∧ i = .int .i64 k ∧ Below w2.heap.size w2 wr ∧ Hid (∀ j, j < k → okI S R us j = true))
    (fun i _ => un - (intOf i).toNat)
  case atStart => exact ⟨0, Nat.zero_le _, rfl, Below.refl _ _, fun j hj => absurd hj (by omega)⟩
  case round =>
    obtain ⟨k, hk, rfl, hbr, hall⟩ := hrel
    have hBr := hB2.trans (hbr.mono hz2)
    have hVr := hV2.below hbr hV2.lt
    have v0 := hVr.cell 0
    simp only [List.getElem?_toArray, List.getElem?_cons_zero] at v0
    by_cases hlt : k < un
    case neg =>
      obtain rfl : un = k := by omega
      have HE : Hid (fitAll S R ls us = (ls.all (inP us), 0)) := by show _ = _; rw [HOK.out, fitM_yes (fun i hi => hall.out i (by rw [HLU.out]; exact hi))]
      have HPX : Hid (∀ x ∈ ls, 0 ≤ x.place ∧ x.place < (un : Int)) := by
        intro x hx
        obtain ⟨i, hi, rfl⟩ := List.getElem_of_mem hx
        have := (HPO.out.k i hi _ (List.getElem?_eq_getElem hi)).1
        simp only [inR, Bool.and_eq_true, decide_eq_true_eq] at this
        have := HNU.out
        omega
      have hlVr := hVr.lt
      clear hall HOK
      go_wp2_with fail
      refine (fitsC_any la ln lc ls _ ua un uc us _ v0 hlVr (HU.out.grow hBr hBr.size) (HL.out.grow hBr hBr.size) HPX.out hln).mono ?_
      rintro e w3 ⟨rfl, hb3⟩
      go_wp2_with fail
      refine bodyPost_ret (v := .tuple #[.bool (ls.all (inP us)), .int .i64 0]) (by simp [results, Tryz.results10, go_sem]) rfl ⟨by rw [HE.out], hBr.trans (hb3.mono hBr.size)⟩
    have hkl : k < us.length := by rw [← HLU.out]; exact hlt
    obtain ⟨b, off, hA, hbB, c0⟩ := IS.at_ (HU.out.grow hBr hBr.size) (k := k) hkl
    have hi1 : (0 : Int) ≤ (k : Int) := by omega
    have hi2 : (k : Int) < (un : Int) := by omega
    have hx := List.getElem?_eq_getElem hkl
    have hrx := HRG.out _ (List.getElem_mem hkl)
    have HKL := Lib.hid hkl
    by_cases hk0 : k = 0
    case pos =>
      have h0 : Hid (okI S R us k = (us[k]'hkl == 0)) := by show _ = _; subst hk0; exact okI_0 hx
      have hge : ((k : Int) == 0) = true := by simp; omega
      have hgg : decide ((0 : Int) < (k : Int)) = false := decide_eq_false (by omega)
      have hgN : decide (0 < k) = false := decide_eq_false (by omega)
      have hnx : Hid (∀ v, v = true → okI S R us k = v → ∀ j, j < k + 1 → okI S R us j = true) := fun v hv h j hj => by
        rcases Nat.lt_or_ge j k with h1 | h1
        · exact hall.out j h1
        · rw [show j = k by omega, h, hv]
      generalize us[k]'hkl = x at c0 h0
      clear hkl hx hrx hk0
      subst hA
      by_cases hx0 : x = 0
      · have g1 : (x == 0) = true := by simpa using hx0
        have g2 : (x != 0) = false := by simpa using hx0
        have hn := Lib.hid (hnx.out _ g1 h0.out)
        clear h0 hx0 hnx
        go_wp2_with fail
        go_quiet (fail)
        go_wp2_with fail
        go_roundw
        case rel => exact ⟨k + 1, by omega, by go_num, below_drewN hbr _, hn⟩
        case measure => simp [intOf]; omega
      · have g1 : (x == 0) = false := by simpa using hx0
        have g2 : (x != 0) = true := by simpa using hx0
        have HE : Hid (fitAll S R ls us = (false, 0)) := by show _ = _; rw [HOK.out, fitM_no HKL.out (h0.out.trans g1)]
        clear hx0 h0 hnx
        go_wp2_with fail
        go_quiet (fail)
        go_wp2_with fail
        refine bodyPost_ret (v := .tuple #[.bool false, .int .i64 0]) (by simp [results, Tryz.results10, go_sem]) rfl ⟨by rw [HE.out], below_drewN hBr _⟩
    obtain ⟨j, hj⟩ : ∃ j, k = j + 1 := ⟨k - 1, by omega⟩
    obtain ⟨y, hy, hy1, hy2⟩ := okI_bd (S := S) (R := R) (us := us) j (fun i hi => hall.out i (by omega))
    have h0 : Hid (okI S R us k = (decide (tQ S R.ps k - tQ S R.ps j ≤ us[k]'hkl - y) && decide (us[k]'hkl - y ≤ tSl S R.ps k - tSl S R.ps j))) := by show _ = _; subst hj; exact okI_s hx hy
    have hkl2 : j < us.length := by omega
    obtain ⟨b2, off2, hA2, _, d0⟩ := IS.at_ (HU.out.grow hBr hBr.size) (k := j) hkl2
    rw [show us[j]'hkl2 = y from Option.some.inj ((List.getElem?_eq_getElem hkl2).symm.trans hy)] at d0
    have ha1 := tQ_bd HS.out HV.out j
    have ha2 := tQ_bd HS.out HV.out k
    have ha3 := tSl_bd HS.out HV.out j
    have ha4 := tSl_bd HS.out HV.out k
    have hjN : j ≤ N := by have := HNU.out; omega
    have hkN : k ≤ N := by have := HNU.out; omega
    have hyb : 0 ≤ y ∧ y ≤ 1000070000000 := by omega
    have hnx : Hid (∀ v, v = true → okI S R us k = v → ∀ j, j < k + 1 → okI S R us j = true) := fun v hv h j hj => by
      rcases Nat.lt_or_ge j k with h1 | h1
      · exact hall.out j h1
      · rw [show j = k by omega, h, hv]
    generalize us[k]'hkl = x at c0 h0 hrx
    obtain ⟨rx1, rx2⟩ := hrx
    have HTr := Lib.hid (HT2.out.grow hbr hbr.size)
    have HBQ := Lib.hid (fun m => between0_any j k g ta tc N S R (World.drewN _ m) (HTr.out.grow (below_drewN (Below.refl _ _) m) (Nat.le_refl _)) HS.out HV.out hjN hkN)
    have HBS := Lib.hid (fun m => between1_any j k g ta tc N S R (World.drewN _ m) (HTr.out.grow (below_drewN (Below.refl _ _) m) (Nat.le_refl _)) HS.out HV.out hjN hkN)
    have hdq0 := tQ_mono HS.out HV.out (show j ≤ k by omega)
    have HDQ : Hid (0 ≤ tQ S R.ps k - tQ S R.ps j) := by show _ ≤ _; omega
    clear hdq0
    generalize tQ S R.ps k - tQ S R.ps j = dq at h0 HBQ HDQ
    generalize tSl S R.ps k - tSl S R.ps j = ds at h0 HBS
    have hwk : IntKind.i64.wrap ((k : Int) - 1) = (j : Int) := (IntWalk.i64_in _ (by omega)).trans (by omega)
    have hg : decide ((0 : Int) < (k : Int)) = true := decide_eq_true (by omega)
    have hgN : decide (0 < k) = true := decide_eq_true (by omega)
    have hge : ((k : Int) == 0) = false := by simp; omega
    have hj1 : (0 : Int) ≤ (j : Int) := by omega
    have hj2 : (j : Int) < (un : Int) := by omega
    clear hkl hkl2 hx hy hy1 hy2 ha1 ha2 ha3 ha4 hk0 hj
    subst hA
    cases hA2
    by_cases hlt2 : x < y
    · have g1 : decide (x < y) = true := decide_eq_true hlt2
      have HE : Hid (fitAll S R ls us = (false, 0)) := by
        show _ = _
        rw [HOK.out, fitM_no HKL.out]
        rw [h0.out, Bool.eq_false_iff]
        intro q
        simp only [Bool.and_eq_true, decide_eq_true_eq] at q
        have := HDQ.out
        omega
      clear hlt2 h0 hnx
      go_wp2_with fail
      go_quiet (fail)
      go_wp2_with fail
      refine bodyPost_ret (v := .tuple #[.bool false, .int .i64 0]) (by simp [results, Tryz.results10, go_sem]) rfl ⟨by rw [HE.out], below_drewN hBr _⟩
    have g1 : decide (x < y) = false := decide_eq_false hlt2
    have hws : IntKind.i64.wrap (x - y) = x - y := IntWalk.i64_in _ (by omega)
    have h1 : Hid (okI S R us k = inR (x - y) dq ds) := h0.out
    obtain ⟨bb, hbb⟩ : ∃ bb, bb = inR (x - y) dq ds := ⟨_, rfl⟩
    have HIN : Hid (inR (IntKind.i64.wrap (x - y)) dq ds = bb) := by show _ = _; rw [hws]; exact hbb.symm
    rw [← hbb] at h1
    clear hbb h0 hlt2 rx1 rx2 hws
    cases bb
    · have HE : Hid (fitAll S R ls us = (false, 0)) := by show _ = _; rw [HOK.out, fitM_no HKL.out h1.out]
      clear h1 hnx
      go_wp2_with fail
      go_quiet (first | (go_at_call 29; first | with_reducible exact Calls.quiet_of (HBQ.out _) | with_reducible exact Calls.quiet_of (HBS.out _)) | (go_at_call 31; exact Calls.quiet_of_same ((pwithin_any _ _ _ _).mono fun _ _ ⟨a, b⟩ => ⟨a.trans (by rw [HIN.out]), b.symm⟩)))
      go_wp2_with fail
      refine bodyPost_ret (v := .tuple #[.bool false, .int .i64 0]) (by simp [results, Tryz.results10, go_sem]) rfl ⟨by rw [HE.out], below_drewN hBr _⟩
    · have hn := Lib.hid (hnx.out _ rfl h1.out)
      clear h1 hnx
      go_wp2_with fail
      go_quiet (first | (go_at_call 29; first | with_reducible exact Calls.quiet_of (HBQ.out _) | with_reducible exact Calls.quiet_of (HBS.out _)) | (go_at_call 31; exact Calls.quiet_of_same ((pwithin_any _ _ _ _).mono fun _ _ ⟨a, b⟩ => ⟨a.trans (by rw [HIN.out]), b.symm⟩)))
      go_wp2_with fail
      go_roundw
      case rel => exact ⟨k + 1, by omega, by go_num, below_drewN hbr _, hn⟩
      case measure => simp [intOf]; omega
end Go.Proofs.YtafclpmnpamipaaGreat
