/- The document's plan: the reading times, which call is late, the greatest trigger. -/
import Derived.Test.YtijcbfhlhgjedaaDoorRMtr
namespace Go.Proofs.YtijcbfhlhgjedaaDoor
open Go.RowKit Go.Shelf Go.Sort Go.Proofs

/-- How long k calls from number f on last. -/
def lsum (cs : List CallR) (f k : Nat) : Int := (((cs.drop f).take k).map CallR.lasts).sum
theorem lsum_succ (cs : List CallR) (f k : Nat) (h : f + k < cs.length) : lsum cs f (k + 1) = lsum cs f k + (cs[f + k]'h).lasts := by
  unfold lsum
  rw [List.take_add_one, List.getElem?_drop, List.getElem?_eq_getElem h]
  simp
theorem lasts_bd {N : Int} {cs : List CallR} (hc : COK N cs) (i : Nat) (h : i < cs.length) : 0 ≤ (cs[i]'h).lasts ∧ (cs[i]'h).lasts ≤ 1125899906842624 := by
  have := (hc.k i h _ (List.getElem?_eq_getElem h)).2.1
  simp only [inR, Bool.and_eq_true, decide_eq_true_eq] at this
  exact this
theorem lsum_bd {N : Int} {cs : List CallR} (hc : COK N cs) (f : Nat) : ∀ k, f + k ≤ cs.length → 0 ≤ lsum cs f k ∧ lsum cs f k ≤ 1125899906842624 * k
  | 0, _ => by simp [lsum]
  | k + 1, h => by
    have h1 := lsum_bd hc f k (by omega)
    have h2 := lasts_bd hc (f + k) (by omega)
    rw [lsum_succ cs f k (by omega)]
    omega
set_option maxRecDepth 100000 in
theorem R3lasts_any (f t : Nat) (A : Option Addr) (n c : Nat) (cs : List CallR) (N : Int) (w : World) (h : SL caC 5 w w.heap.size A n cs) (hc : COK N cs) (hft : f ≤ t) (ht : t < n) :
    Calls Tryd.prog 108 #[.slice A n c, .int .i64 f, .int .i64 t] w fun e w' => e = .returned (.int .i64 (lsum cs f (t + 1 - f))) ∧ w = w' := by
  have H := Lib.hid h
  have HL := Lib.hid h.1
  have HC := Lib.hid hc
  have hn : n ≤ 300 := by rw [h.1]; exact hc.l1
  clear h hc
  go_enter Tryd.func108, Tryd.ntmps108
  go_wp2_with fail
  go_loopw [7, 8] (fun s i wr => ∃ (k : Nat) (x : Int), f ≤ k ∧ k ≤ t + 1 ∧ i = .int .i64 k ∧ s = .int .i64 x ∧ Hid (x = lsum cs f (k - f)) ∧ w = wr)
    (fun _ i _ => t + 1 - (intOf i).toNat)
  case atStart => exact ⟨f, 0, Nat.le_refl _, by omega, rfl, rfl, by show _ = _; rw [Nat.sub_self]; rfl, rfl⟩
  case round =>
    obtain ⟨k, x, hk1, hk2, rfl, rfl, hx, rfl⟩ := hrel
    by_cases hlt : k ≤ t
    · have hkl : k < cs.length := by rw [← HL.out]; omega
      obtain ⟨b, off, hA, hbB, c0, c1, c2, c3, c4⟩ := KS5.at_ H.out (k := k) hkl
      have hbd := lsum_bd HC.out f (k - f) (by omega)
      have hlb := lasts_bd HC.out k hkl
      have hs := lsum_succ cs f (k - f) (by omega)
      have hnew : Hid (x + (cs[k]'hkl).lasts = lsum cs f (k + 1 - f)) := by
        show _ = _
        have e : k + 1 - f = k - f + 1 := by omega
        rw [e, hs, hx.out]
        congr 2
        have e2 : f + (k - f) = k := by omega
        simp only [e2]
      rw [← hx.out] at hbd
      generalize (cs[k]'hkl).lasts = l at c1 hlb hnew
      obtain ⟨b1, b2⟩ := hbd
      obtain ⟨l1, l2⟩ := hlb
      have b3 : x ≤ 337769972052787200 := by omega
      have hw : IntKind.i64.wrap (x + l) = x + l := IntWalk.i64_in _ (by omega)
      have hite : (if 1152921504606846976 < x + l then 1152921504606846976 else x + l) = x + l := by rw [if_neg (by omega)]
      have hi1 : (0 : Int) ≤ (k : Int) := by omega
      have hi2 : (k : Int) < (n : Int) := by omega
      have g1 : decide ((k : Int) ≤ (t : Int)) = true := decide_eq_true (by omega)
      clear hkl hs b2 hx c0 c2 c3 c4
      subst hA
      go_wp2_with fail
      go_roundw
      case rel => exact ⟨k + 1, x + l, by omega, by omega, by go_num, rfl, hnew, by trivial⟩
      case measure => simp [intOf]; omega
    · obtain rfl : k = t + 1 := by omega
      have g1 : decide (((t + 1 : Nat) : Int) ≤ (t : Int)) = false := decide_eq_false (by omega)
      go_wp2_with fail
      go_ret
      exact ⟨by rw [hx.out]; rfl, by trivial⟩
/-- Call i is late for a run that stands at g and has read from call j on. -/
def lateD (S : Spd) (R : Road) (cs : List CallR) (j i g : Nat) : Bool :=
  match cs[i]? with
  | none => false
  | some c => decide (c.place < g) || decide (tQ S R.ps c.place.toNat - tQ S R.ps g < lsum cs j (i + 1 - j) + c.lead)
set_option maxRecDepth 100000 in
set_option maxHeartbeats 4000000 in
theorem R3late_any (j i g : Nat) (pa : Option Addr) (pn pc : Nat) (ca : Option Addr) (cn cc : Nat) (ja : Option Addr) (jn jc : Nat) (R : Road) (ra : Option Addr) (rn rc : Nat) (sa : Option Addr) (sn sc : Nat) (S : Spd) (A : Option Addr) (n c : Nat) (cs : List CallR) (w : World)
    (h : RD w w.heap.size pa pn ca cn ja jn R) (hD : SD w w.heap.size ra rn sa sn S) (hK : SL caC 5 w w.heap.size A n cs) (hv : OK R) (hS : SOK S) (hc : COK (sumL R.ps) cs) (hji : j ≤ i) (hin : i < n) (hg : (g : Int) ≤ sumL R.ps) :
    Calls Tryd.prog 75 #[.agg #[.slice pa pn pc, .slice ca cn cc, .slice ja jn jc], .agg #[.int .i64 S.least, .int .i64 S.most, .slice ra rn rc, .slice sa sn sc], .slice A n c, .int .i64 j, .int .i64 i, .int .i64 g] w fun e w' =>
      e = .returned (.bool (lateD S R cs j i g)) ∧ Below w.heap.size w w' := by
  have HR := Lib.hid h
  have HD := Lib.hid hD
  have HK := Lib.hid hK
  have HV := Lib.hid hv
  have HS := Lib.hid hS
  have HC := Lib.hid hc
  have HL := Lib.hid hK.1
  have hn : n ≤ 300 := by rw [hK.1]; exact hc.l1
  have hil : i < cs.length := by rw [← hK.1]; exact hin
  have hmo : Tryd.prog.follows .mixedOrders = true := by kernel_rfl
  obtain ⟨ci, hci⟩ : ∃ ci, cs[i]'hil = ci := ⟨_, rfl⟩
  have hk := hc.k i hil _ (List.getElem?_eq_getElem hil)
  rw [hci] at hk
  have hpl := hk.1
  have hld := hk.2.2.1
  simp only [inR, Bool.and_eq_true, decide_eq_true_eq] at hpl hld
  have hld2 : 0 ≤ ci.lead ∧ ci.lead ≤ 1125899906842624 := hld
  obtain ⟨ld1, ld2⟩ := hld2
  clear hld
  obtain ⟨pl, hpl0⟩ : ∃ pl : Nat, ci.place = (pl : Int) := ⟨ci.place.toNat, by omega⟩
  have hlate : lateD S R cs j i g = (decide (pl < g) || decide (tQ S R.ps pl - tQ S R.ps g < lsum cs j (i + 1 - j) + ci.lead)) := by
    unfold lateD
    rw [List.getElem?_eq_getElem hil, hci]
    simp only [hpl0, Int.toNat_natCast]
    rw [show decide ((pl : Int) < (g : Int)) = decide (pl < g) from decide_eq_decide.2 (by omega)]
  have HLT := Lib.hid hlate
  have HCI : Hid (∀ hk : i < cs.length, cs[i]'hk = ci) := fun _ => hci
  have hsb := lsum_bd hc j (i + 1 - j) (by omega)
  have HPS : Hid ((pl : Int) ≤ sumL R.ps) := by show _ ≤ _; rw [← hpl0]; exact hpl.2
  have HGS := Lib.hid hg
  have hsu := hv.n1
  have hqb1 := tQS_bd hS hv pl HPS.out
  have hqb2 := tQS_bd hS hv g hg
  have hpb : (pl : Int) ≤ 100000 := by have := HPS.out; omega
  have hgb : (g : Int) ≤ 100000 := by omega
  rw [hpl0] at hpl
  clear h hD hK hv hS hc hk hlate hci
  obtain ⟨w0, hw0⟩ : ∃ w0, w0 = (w.alloc (.cells #[.slice pa pn pc, .slice ca cn cc, .slice ja jn jc] 26)).alloc (.cells #[.int .i64 S.least, .int .i64 S.most, .slice ra rn rc, .slice sa sn sc] 30) := ⟨_, rfl⟩
  have hB0 : Below w.heap.size w w0 := by rw [hw0]; exact ((Below.refl w.heap.size w).alloc (Nat.le_refl _) _).alloc (by simp) _
  have hX0 : BK w0 w.heap.size 26 #[.slice pa pn pc, .slice ca cn cc, .slice ja jn jc] := by rw [hw0]; exact (BK.new w _ _).alloc _
  have hY0 : BK w0 (w.heap.size + 1) 30 #[.int .i64 S.least, .int .i64 S.most, .slice ra rn rc, .slice sa sn sc] := by
    rw [hw0]; have := BK.new (w.alloc (.cells #[.slice pa pn pc, .slice ca cn cc, .slice ja jn jc] 26)) 30 #[.int .i64 S.least, .int .i64 S.most, .slice ra rn rc, .slice sa sn sc]; rw [World.size_alloc] at this; exact this
  obtain ⟨b, off, hA, hbB, c0, c1, c2, c3, c4⟩ := KS5.at_ (HK.out.grow hB0 hB0.size) (k := i) hil
  rw [HCI.out hil] at c0 c1 c2 c3 c4
  rw [hpl0] at c0
  have hi1 : (0 : Int) ≤ (i : Int) := by omega
  have hi2 : (i : Int) < (n : Int) := by omega
  subst hA
  have d0 := c0
  rw [hw0] at d0
  by_cases hgt : pl < g
  · have g1 : decide (pl < g) = true := decide_eq_true hgt
    have HF : Hid (lateD S R cs j i g = true) := by show _ = _; rw [HLT.out]; simp [hgt]
    clear hgt hqb1 hqb2 hsb
    go_enter Tryd.func75, Tryd.ntmps75
    go_wp2_with fail
    rw [← hw0]
    clear hw0
    go_ret
    exact ⟨ret_bool HF.out.symm, hB0⟩
  have g1 : decide (pl < g) = false := decide_eq_false hgt
  have HGP : Hid (g ≤ pl) := by show _ ≤ _; omega
  have HF : Hid (lateD S R cs j i g = decide (tQ S R.ps pl - tQ S R.ps g < lsum cs j (i + 1 - j) + ci.lead)) := by show _ = _; rw [HLT.out]; simp [hgt]
  clear hgt
  have x0 := fun d os => cell_regrown (hX0.cell 0) d os
  have x1 := fun d os => cell_regrown (hX0.cell 1) d os
  have x2 := fun d os => cell_regrown (hX0.cell 2) d os
  have y0 := fun d os => cell_regrown (hY0.cell 0) d os
  have y1 := fun d os => cell_regrown (hY0.cell 1) d os
  have y2 := fun d os => cell_regrown (hY0.cell 2) d os
  have y3 := fun d os => cell_regrown (hY0.cell 3) d os
  have k0 := fun d os => cell_regrown c0 d os
  have HG1 := Lib.hid (fun d os => HR.out.grow (hB0.trans ((below_regrown w0 d os).mono hB0.size)) (Nat.le_trans hB0.size (below_regrown w0 d os).size))
  have HG2 := Lib.hid (fun d os => HD.out.grow (hB0.trans ((below_regrown w0 d os).mono hB0.size)) (Nat.le_trans hB0.size (below_regrown w0 d os).size))
  have HBt := Lib.hid (fun (W : World) (hR : RD W W.heap.size pa pn ca cn ja jn R) (hS : SD W W.heap.size ra rn sa sn S) => R3Between_any g pl pa pn pc ca cn cc ja jn jc R ra rn rc sa sn sc S W hR hS HV.out HS.out HGP.out HPS.out)
  have hlX := hX0.lt
  have hlY := hY0.lt
  go_enter Tryd.func75, Tryd.ntmps75
  go_wp2_with fail
  rw [← hw0]
  clear hw0 d0
  refine wp_region_ch 13 [8, 12] hmo (by kernel_rfl) ?_
  simp only [List.take_succ_cons, List.take_zero, List.drop_succ_cons, List.drop_zero]
  repeat (with_reducible refine wpC_q (by decide) (by decide) (fun K hK => ?_); go_simp; refine hK _ ?_; clear hK K)
  with_reducible refine wpC_c (ι := Unit) 24 #[.agg #[.slice pa pn pc, .slice ca cn cc, .slice ja jn jc], .agg #[.int .i64 S.least, .int .i64 S.most, .slice ra rn rc, .slice sa sn sc], .int .i64 g, .int .i64 pl] (fun _ => .tuple #[.int .i64 (tQ S R.ps pl - tQ S R.ps g), .int .i64 (tSl S R.ps pl - tSl S R.ps g)]) (fun _ _ => True) (by decide) (by decide) rfl (fun w => by go_simp) stable_true (fun _ => stable_true) (fun W hW _ => ?_) (fun i0 hs0 => ?_)
  · obtain ⟨pp, rfl⟩ := hW
    refine (HBt.out _ (HG1.out _ _) (HG2.out _ _)).mono ?_
    rintro e w' ⟨rfl, hbl⟩
    exact ⟨(), rfl, trivial, hbl⟩
  repeat (with_reducible refine wpC_q (by decide) (by decide) (fun K hK => ?_); go_simp; refine hK _ ?_; clear hK K)
  refine wpC_v (ι := Unit) (fun _ => .int .i64 (tQ S R.ps pl - tQ S R.ps g)) (fun _ _ => True) (by decide) (by decide) rfl hs0 (fun _ => stable_true) (fun W _ _ => ⟨(), W, by go_simp, trivial, Below.refl _ _⟩) (fun i1 hs1 => ?_)
  refine wpC_nil ?_
  intro w2 hb2 _
  clear x0 x1 x2 y0 y1 y2 y3 k0 HG1 HG2 HBt hs0 hs1
  have hB2 := hB0.trans (hb2.mono hB0.size)
  obtain ⟨b', off', hA', _, e0, e1, e2, e3, e4⟩ := KS5.at_ (HK.out.grow hB2 hB2.size) (k := i) hil
  cases hA'
  rw [HCI.out hil] at e0 e1 e2 e3 e4
  have HKq := Lib.hid (fun m => (HK.out.grow hB2 hB2.size).grow (below_drewN (Below.refl _ w2) m) (Nat.le_refl _))
  have hl1 : 0 ≤ lsum cs j (i + 1 - j) ∧ lsum cs j (i + 1 - j) ≤ 337769972052787200 := by omega
  have hq1 : -2000000000000 ≤ tQ S R.ps pl - tQ S R.ps g ∧ tQ S R.ps pl - tQ S R.ps g ≤ 2000000000000 := by omega
  clear e0 e1 e3 e4 c0 c1 c2 c3 c4 hsb hqb1 hqb2 hg hpb hgb hsu hpl
  have HLJ : Hid (∀ W, SL caC 5 W W.heap.size (some ⟨b, off, none⟩) n cs → Calls Tryd.prog 108 #[.slice (some ⟨b, off, none⟩) n c, .int .i64 j, .int .i64 i] W fun e w' => e = .returned (.int .i64 (lsum cs j (i + 1 - j))) ∧ W = w') := fun W hW => R3lasts_any j i _ n c cs _ W hW HC.out hji hin
  obtain ⟨D, hD⟩ : ∃ D, D = tQ S R.ps pl - tQ S R.ps g := ⟨_, rfl⟩
  obtain ⟨Lm, hLm⟩ : ∃ Lm, Lm = lsum cs j (i + 1 - j) := ⟨_, rfl⟩
  rw [← hD, ← hLm] at HF
  rw [← hLm] at hl1
  rw [← hD] at hq1
  rw [← hLm] at HLJ
  rw [← hD]
  clear hD hLm
  obtain ⟨l1, l2⟩ := hl1
  obtain ⟨q1, q2⟩ := hq1
  have hw : IntKind.i64.wrap (Lm + ci.lead) = Lm + ci.lead := IntWalk.i64_in _ (by omega)
  go_wp2_with fail
  go_quiet (first | (go_at_call 108; exact Calls.quiet_of_same ((HLJ.out _ (HKq.out _)).mono fun _ _ ⟨a, b⟩ => ⟨a, b.symm⟩)) | fail)
  go_wp2_with fail
  go_ret
  exact ⟨ret_bool HF.out.symm, below_drewN hB2 _⟩
/-- None of the calls from j on, up to before k, is late for a run that stands at g. -/
def okTo (S : Spd) (R : Road) (cs : List CallR) (j k g : Nat) : Bool := (List.range' j (k - j)).all fun i => !lateD S R cs j i g
theorem okTo_succ (S : Spd) (R : Road) (cs : List CallR) (j k g : Nat) (h : j ≤ k) : okTo S R cs j (k + 1) g = (okTo S R cs j k g && !lateD S R cs j k g) := by
  unfold okTo
  rw [show k + 1 - j = k - j + 1 by omega, List.range'_concat, List.all_append]
  simp only [List.all_cons, List.all_nil, Bool.and_true, Nat.one_mul]
  rw [show j + (k - j) = k by omega]
/-- The greatest number up to n for which f holds; -1, if for none. -/
def lastG (f : Nat → Bool) : Nat → Int
  | 0 => if f 0 = true then 0 else -1
  | n + 1 => if f (n + 1) = true then ((n + 1 : Nat) : Int) else lastG f n
set_option maxRecDepth 100000 in
set_option maxHeartbeats 4000000 in
theorem R3greatest_any (j p : Nat) (pa : Option Addr) (pn pc : Nat) (ca : Option Addr) (cn cc : Nat) (ja : Option Addr) (jn jc : Nat) (R : Road) (ra : Option Addr) (rn rc : Nat) (sa : Option Addr) (sn sc : Nat) (S : Spd) (A : Option Addr) (n c : Nat) (cs : List CallR) (w : World)
    (h : RD w w.heap.size pa pn ca cn ja jn R) (hD : SD w w.heap.size ra rn sa sn S) (hK : SL caC 5 w w.heap.size A n cs) (hv : OK R) (hS : SOK S) (hc : COK (sumL R.ps) cs) (hjl : j < cs.length) (hp : (cs[j]'hjl).place = (p : Int)) :
    Calls Tryd.prog 76 #[.agg #[.slice pa pn pc, .slice ca cn cc, .slice ja jn jc], .agg #[.int .i64 S.least, .int .i64 S.most, .slice ra rn rc, .slice sa sn sc], .slice A n c, .int .i64 j] w fun e w' =>
      e = .returned (.int .i64 (lastG (okTo S R cs j cs.length) p)) ∧ Below w.heap.size w w' := by
  have HR := Lib.hid h
  have HD := Lib.hid hD
  have HK := Lib.hid hK
  have HV := Lib.hid hv
  have HS := Lib.hid hS
  have HC := Lib.hid hc
  have hnl := hK.1
  have hn : n ≤ 300 := by rw [hK.1]; exact hc.l1
  have hk := (hc.k j hjl _ (List.getElem?_eq_getElem hjl)).1
  rw [hp] at hk
  simp only [inR, Bool.and_eq_true, decide_eq_true_eq] at hk
  have HPS := Lib.hid hk.2
  have hpb : p ≤ 100000 := by have := hv.n1; omega
  have HJP : Hid (∀ hk : j < cs.length, (cs[j]'hk).place = (p : Int)) := fun _ => hp
  have hjn : j < n := by omega
  rw [← hnl]
  have HNL := Lib.hid hnl
  clear h hD hK hv hS hc hk hp hnl
  obtain ⟨w0, hw0⟩ : ∃ w0, w0 = (w.alloc (.cells #[.slice pa pn pc, .slice ca cn cc, .slice ja jn jc] 26)).alloc (.cells #[.int .i64 S.least, .int .i64 S.most, .slice ra rn rc, .slice sa sn sc] 30) := ⟨_, rfl⟩
  have hB0 : Below w.heap.size w w0 := by rw [hw0]; exact ((Below.refl w.heap.size w).alloc (Nat.le_refl _) _).alloc (by simp) _
  have hX0 : BK w0 w.heap.size 26 #[.slice pa pn pc, .slice ca cn cc, .slice ja jn jc] := by rw [hw0]; exact (BK.new w _ _).alloc _
  have hY0 : BK w0 (w.heap.size + 1) 30 #[.int .i64 S.least, .int .i64 S.most, .slice ra rn rc, .slice sa sn sc] := by
    rw [hw0]; have := BK.new (w.alloc (.cells #[.slice pa pn pc, .slice ca cn cc, .slice ja jn jc] 26)) 30 #[.int .i64 S.least, .int .i64 S.most, .slice ra rn rc, .slice sa sn sc]; rw [World.size_alloc] at this; exact this
  obtain ⟨b, off, hA, hbB, d0, d1, d2, d3, d4⟩ := KS5.at_ (HK.out.grow hB0 hB0.size) (k := j) hjl
  rw [HJP.out hjl] at d0
  have hi1 : (0 : Int) ≤ (j : Int) := by omega
  have hi2 : (j : Int) < (n : Int) := by omega
  subst hA
  rw [hw0] at d0
  clear d1 d2 d3 d4
  go_enter Tryd.func76, Tryd.ntmps76
  go_wp2_with fail
  rw [← hw0]
  clear hw0 d0
  have hlX := hX0.lt
  have hlY := hY0.lt
  have hz0 := hB0.size
  go_loopw [9] (fun g wr => Below w0.heap.size w0 wr ∧ ((∃ q : Nat, q ≤ p ∧ g = .int .i64 q ∧ Hid (lastG (okTo S R cs j n) p = lastG (okTo S R cs j n) q)) ∨ (g = .int .i64 (-1) ∧ Hid (lastG (okTo S R cs j n) p = -1))))
    (fun g _ => (intOf g + 1).toNat)
  case atStart => exact ⟨Below.refl _ _, .inl ⟨p, Nat.le_refl _, rfl, rfl⟩⟩
  case round =>
    obtain ⟨hbr, hg⟩ := hrel
    have hBr := hB0.trans (hbr.mono hz0)
    rcases hg with ⟨q, hq, rfl, hl⟩ | ⟨rfl, hl⟩
    · have hq0 : (0 : Int) ≤ (q : Int) := by omega
      go_wp2_with fail
      go_loopw [10, 11] (fun fi i wx => ∃ k : Nat, j ≤ k ∧ k ≤ n ∧ i = .int .i64 k ∧ fi = .bool (okTo S R cs j k q) ∧ Below w0.heap.size w0 wx)
        (fun _ i _ => n - (intOf i).toNat)
      case atStart => exact ⟨j, Nat.le_refl _, by omega, rfl, by unfold okTo; rw [Nat.sub_self]; rfl, hbr⟩
      case round =>
        obtain ⟨k, hk1, hk2, rfl, rfl, hbx⟩ := hrel
        have hBx := hB0.trans (hbx.mono hz0)
        have hXx := hX0.below hbx hX0.lt
        have hYx := hY0.below hbx hY0.lt
        by_cases hlt : k < n
        · have hs := okTo_succ S R cs j k q hk1
          have x0 := hXx.cell 0
          have x1 := hXx.cell 1
          have x2 := hXx.cell 2
          have y0 := hYx.cell 0
          have y1 := hYx.cell 1
          have y2 := hYx.cell 2
          have y3 := hYx.cell 3
          simp only [List.getElem?_toArray, List.getElem?_cons_zero, List.getElem?_cons_succ] at x0 x1 x2 y0 y1 y2 y3
          cases hok : okTo S R cs j k q
          · have hs2 : okTo S R cs j (k + 1) q = false := by rw [hs, hok]; rfl
            have HS2 := Lib.hid hs2
            clear hs hs2 hok
            go_wp2_with fail
            go_roundw
            case rel => exact ⟨k + 1, by omega, by omega, by go_num, by rw [HS2.out], hbx⟩
            case measure => simp [intOf]; omega
          · have HS2 : Hid (okTo S R cs j (k + 1) q = !lateD S R cs j k q) := by show _ = _; rw [hs, hok]; rfl
            clear hs hok
            go_wp2_with fail
            clear x0 x1 x2 y0 y1 y2 y3
            refine (R3late_any j k q pa pn pc ca cn cc ja jn jc R ra rn rc sa sn sc S _ n c cs _ (HR.out.grow hBx hBx.size) (HD.out.grow hBx hBx.size) (HK.out.grow hBx hBx.size) HV.out HS.out HC.out hk1 hlt (by have := HPS.out; omega)).mono ?_
            rintro e w2 ⟨rfl, hb2⟩
            generalize lateD S R cs j k q = lt at *
            go_wp2_with fail
            go_roundw
            case rel => exact ⟨k + 1, by omega, by omega, by go_num, by rw [HS2.out], hbx.trans (hb2.mono hbx.size)⟩
            case measure => simp [intOf]; omega
        obtain rfl : n = k := by omega
        cases hok : okTo S R cs j n q
        · have HOK := Lib.hid hok
          clear hok
          cases q with
          | zero =>
            have HZ : Hid (lastG (okTo S R cs j n) p = -1) := by show _ = _; rw [hl.out]; unfold lastG; rw [HOK.out]; rfl
            go_wp2_with fail
            go_roundw
            case rel => exact ⟨hbx, .inr ⟨rfl, HZ⟩⟩
            case measure => simp [intOf]
          | succ q =>
            have HZ : Hid (lastG (okTo S R cs j n) p = lastG (okTo S R cs j n) q) := by show _ = _; rw [hl.out, lastG, HOK.out]; rfl
            go_wp2_with fail
            go_roundw
            case rel => exact ⟨hbx, .inl ⟨q, by omega, by go_num, HZ⟩⟩
            case measure => simp [intOf]; omega
        · have HOK := Lib.hid hok
          clear hok
          go_wp2_with fail
          go_ret
          refine ⟨?_, hBx⟩
          rw [hl.out]
          cases q with
          | zero => unfold lastG; rw [if_pos HOK.out]; rfl
          | succ q => unfold lastG; rw [if_pos HOK.out]; rfl
    · go_wp2_with fail
      go_ret
      exact ⟨by rw [hl.out]; rfl, hBr⟩
end Go.Proofs.YtijcbfhlhgjedaaDoor
