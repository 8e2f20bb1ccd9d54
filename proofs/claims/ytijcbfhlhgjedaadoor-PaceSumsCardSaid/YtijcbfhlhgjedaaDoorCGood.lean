/- pace.Good: whether a plan is good. -/
import Derived.Test.YtijcbfhlhgjedaaDoorCPlan
import Derived.Test.YtijcbfhlhgjedaaDoorCTrig
namespace Go.Proofs.YtijcbfhlhgjedaaDoor
open Go.RowKit Go.Shelf Go.Sort Go.Proofs

/-- The trigger p is good for the first of some calls. -/
def goodJ (Q Mo : Int → Int) (c : CallR) (rest : List CallR) (p : Int) : Bool := decide (p ≤ c.place) && (decide (Q p ≤ roomM Q (c :: rest)) && decide (Mo c.place - Mo p ≤ c.ahead))
def goodM (Q Mo : Int → Int) : List CallR → List Int → Bool
  | c :: cs, p :: ps => goodJ Q Mo c cs p && goodM Q Mo cs ps
  | _, _ => true
theorem goodM_step {Q Mo : Int → Int} {cs : List CallR} {ls : List Int} {k : Nat} (h : goodM Q Mo cs ls = goodM Q Mo (cs.drop k) (ls.drop k)) {c : CallR} {rest : List CallR} {p : Int} {ps : List Int} (hc : cs.drop k = c :: rest) (hl : ls.drop k = p :: ps) :
    goodM Q Mo cs ls = (goodJ Q Mo c rest p && goodM Q Mo (cs.drop (k + 1)) (ls.drop (k + 1))) := by
  have h1 : cs.drop (k + 1) = rest := by rw [← List.drop_drop, hc]; rfl
  have h2 : ls.drop (k + 1) = ps := by rw [← List.drop_drop, hl]; rfl
  rw [h, hc, hl, h1, h2, goodM]
set_option maxRecDepth 100000 in
set_option maxHeartbeats 8000000 in
theorem Good_any (pa : Option Addr) (pn pc : Nat) (ca : Option Addr) (cn cc : Nat) (ja : Option Addr) (jn jc : Nat) (R : Road) (ra : Option Addr) (rn rc : Nat) (sa : Option Addr) (sn sc : Nat) (S : Spd) (ka : Option Addr) (kn kc : Nat) (cs : List CallR) (la : Option Addr) (ln lc : Nat) (ls : List Int) (w : World)
    (h : RD w w.heap.size pa pn ca cn ja jn R) (hD : SD w w.heap.size ra rn sa sn S) (hK : SL caC 5 w w.heap.size ka kn cs) (hL : SL iC 1 w w.heap.size la ln ls) (hv : OK R) (hS : SOK S) (hc : COK (sumL R.ps) cs) (ht : TOK (sumL R.ps) cs.length ls) :
    Calls Tryd.prog 38 #[.agg #[.slice pa pn pc, .slice ca cn cc, .slice ja jn jc], .agg #[.int .i64 S.least, .int .i64 S.most, .slice ra rn rc, .slice sa sn sc], .slice ka kn kc, .slice la ln lc] w fun e w' =>
      e = .returned (.tuple #[.bool (goodM (qS S R) (sS S R) cs ls), .int .i64 0]) ∧ Below w.heap.size w w' := by
  have HR := Lib.hid h
  have HD := Lib.hid hD
  have HK := Lib.hid hK
  have HL := Lib.hid hL
  have HV := Lib.hid hv
  have HS := Lib.hid hS
  have HC := Lib.hid hc
  have HT := Lib.hid ht
  have hkn : kn ≤ 300 := by rw [hK.1]; exact hc.l1
  have hln : ln = kn := by rw [hL.1, hK.1, ht.l]
  subst hln
  clear h hD hK hL hv hS hc ht
  obtain ⟨w0, hw0⟩ : ∃ w0, w0 = (w.alloc (.cells #[.slice pa pn pc, .slice ca cn cc, .slice ja jn jc] 26)).alloc (.cells #[.int .i64 S.least, .int .i64 S.most, .slice ra rn rc, .slice sa sn sc] 30) := ⟨_, rfl⟩
  have hB0 : Below w.heap.size w w0 := by rw [hw0]; exact ((Below.refl w.heap.size w).alloc (Nat.le_refl _) _).alloc (by simp) _
  have hX0 : BK w0 w.heap.size 26 #[.slice pa pn pc, .slice ca cn cc, .slice ja jn jc] := by rw [hw0]; exact (BK.new w _ _).alloc _
  have hY0 : BK w0 (w.heap.size + 1) 30 #[.int .i64 S.least, .int .i64 S.most, .slice ra rn rc, .slice sa sn sc] := by
    rw [hw0]; have := BK.new (w.alloc (.cells #[.slice pa pn pc, .slice ca cn cc, .slice ja jn jc] 26)) 30 #[.int .i64 S.least, .int .i64 S.most, .slice ra rn rc, .slice sa sn sc]; rw [World.size_alloc] at this; exact this
  go_enter Tryd.func38, Tryd.ntmps38
  go_wp2_with fail
  rw [← hw0]
  clear hw0
  have x0 := hX0.cell 0
  have x1 := hX0.cell 1
  have x2 := hX0.cell 2
  have y0 := hY0.cell 0
  have y1 := hY0.cell 1
  have y2 := hY0.cell 2
  have y3 := hY0.cell 3
  simp only [List.getElem?_toArray, List.getElem?_cons_zero, List.getElem?_cons_succ] at x0 x1 x2 y0 y1 y2 y3
  go_wp2_with fail
  clear x0 x1 x2 y0 y1 y2 y3
  refine (begin_any pa pn pc ca cn cc ja jn jc R ra rn rc sa sn sc S w0 (HR.out.grow hB0 hB0.size) (HD.out.grow hB0 hB0.size) HV.out HS.out).mono ?_
  rintro e w1 ⟨g, ta, tc, N, rfl, hTS, hk0⟩
  have hB1 := hB0.trans (hk0.mono hB0.size)
  have HTS := Lib.hid hTS
  have hN1 : N ≤ 100000 := by have := hTS.n; have := HV.out.n1; omega
  have HCN : Hid (COK N cs) := by have := HC.out; rw [hTS.n] at this; exact this
  have HTN : Hid (TOK N cs.length ls) := by have := HT.out; rw [hTS.n] at this; exact this
  have hgl := hTS.lt
  have HLK := Lib.hid HK.out.1
  clear hX0 hY0 hk0 hB0 hTS
  go_wp2_with fail
  refine (calls_any ka ln kc cs g ta tc N S R w1 HTS.out (HK.out.grow hB1 hB1.size) (by omega) (by omega)).mono ?_
  rintro e w3 ⟨rfl, hk0⟩
  rw [cB_ok HCN.out]
  have hB3 := hB1.trans (hk0.mono hB1.size)
  have HT3 := Lib.hid (HTS.out.grow hk0 hk0.size)
  clear hk0 HTS hB1
  go_wp2_with fail
  refine (trig_any ka ln kc la ln lc ls g ta tc N S R w3 HT3.out (HL.out.grow hB3 hB3.size) (by omega) (by omega)).mono ?_
  rintro e w4 ⟨rfl, rfl⟩
  have htr : trB N ln ls = true := by rw [HLK.out]; exact trB_ok HTN.out
  rw [htr]
  clear htr
  go_wp2_with fail
  go_loopw [39] (fun i wr => ∃ k : Nat, k ≤ ln ∧ i = .int .i64 k ∧ Hid (goodM (qS S R) (sS S R) cs ls = goodM (qS S R) (sS S R) (cs.drop k) (ls.drop k)) ∧ Below w3.heap.size w3 wr)
    (fun i _ => ln - (intOf i).toNat)
  case atStart => exact ⟨0, Nat.zero_le _, rfl, rfl, Below.refl _ _⟩
  case round =>
    obtain ⟨k, hk, rfl, hgo, hbr⟩ := hrel
    by_cases hlt : k < ln
    · have hkl : k < cs.length := by rw [← HLK.out]; exact hlt
      have hll : k < ls.length := by rw [HTN.out.l]; exact hkl
      have hBr := hB3.trans (hbr.mono hB3.size)
      obtain ⟨b, off, hA, hbB, c0, c1, c2, c3, c4⟩ := KS5.at_ (HK.out.grow hBr hBr.size) (k := k) hkl
      obtain ⟨b2, off2, hA2, hbB2, l0⟩ := IS.at_ (HL.out.grow hBr hBr.size) (k := k) hll
      have hdr := List.drop_eq_getElem_cons hkl
      have hdl := List.drop_eq_getElem_cons hll
      have hst := goodM_step hgo.out hdr hdl
      have HDR := Lib.hid hdr
      have hbd := kAt_bd HCN.out hkl
      have hpb : 0 ≤ ls[k] ∧ ls[k] ≤ N := by
        have := (HTN.out.t k hll _ (List.getElem?_eq_getElem hll)).1
        simpa [inR] using this
      have HTr := Lib.hid (HT3.out.grow hbr hbr.size)
      have HSLr := Lib.hid (HK.out.grow hBr hBr.size)
      generalize cs[k]'hkl = x at c0 c1 c2 c3 c4 hst HDR hbd
      generalize ls[k]'hll = p at l0 hst hpb
      have HST := Lib.hid hst
      clear hkl hll hdr hdl hst
      obtain ⟨⟨p1, p2⟩, ⟨p3, p4⟩, ⟨p5, p6⟩, p7, p8⟩ := hbd
      obtain ⟨p9, p10⟩ := hpb
      obtain ⟨q, rfl⟩ : ∃ q : Nat, p = (q : Int) := ⟨p.toNat, by omega⟩
      have hi1 : (0 : Int) ≤ (k : Int) := by omega
      have hi2 : (k : Int) < (ln : Int) := by omega
      subst hA
      subst hA2
      go_wp2_with fail
      refine (room_any k _ ln kc cs g ta tc N S R wr HTr.out HSLr.out HCN.out HS.out HV.out hk).mono ?_
      rintro e wB ⟨rfl, hmB⟩
      have hbrB : Below wr.heap.size wr wB := by obtain ⟨m, rfl⟩ := hmB; exact below_drewN (Below.refl _ _) _
      clear hmB
      rw [HDR.out]
      have hb3B := hbr.trans (hbrB.mono hbr.size)
      have c0 := (bc hbrB hbB).trans c0
      have c3 := (bc hbrB hbB).trans c3
      have HTB := Lib.hid (HTr.out.grow hbrB hbrB.size)
      have g3 := HTB.out.c3
      have hgB := HTB.out.lt
      obtain ⟨z, hz⟩ : ∃ z : Nat, x.place = (z : Int) := ⟨x.place.toNat, by omega⟩
      have hqN : q ≤ N := by omega
      have hzN : z ≤ N := by omega
      obtain ⟨b3, o3, hta, hbt, q0, q1⟩ := TT.at_ HTB.out.t hqN
      obtain ⟨rm, hrm⟩ : ∃ rm, rm = roomM (qS S R) (x :: List.drop (k + 1) cs) := ⟨_, rfl⟩
      have hJ : goodJ (qS S R) (sS S R) x (List.drop (k + 1) cs) (q : Int) = (decide ((q : Int) ≤ x.place) && (decide (tQ S R.ps q ≤ rm) && decide (tSl S R.ps z - tSl S R.ps q ≤ x.ahead))) := by
        rw [goodJ, ← hrm]
        unfold qS sS
        rw [Int.toNat_natCast, show x.place.toNat = z by omega]
      have HJ := Lib.hid hJ
      have HBW := Lib.hid (fun m => between1_any q z g ta tc N S R (wB.drewN m) (HTB.out.grow (below_drewN (Below.refl _ _) m) (Nat.le_refl _)) HS.out HV.out hqN hzN)
      have hv0 := tQ_bd HS.out HV.out q
      have hv1 := tSl_bd HS.out HV.out q
      have hv2 := tSl_bd HS.out HV.out z
      rw [← hrm]
      generalize tSl S R.ps q = u at HJ HBW hv1
      generalize tSl S R.ps z = v at HJ HBW hv2
      generalize tQ S R.ps q = tq at HJ q0 hv0
      rw [hz] at HJ
      rw [hz] at c0
      obtain ⟨v1, v2⟩ := hv1
      obtain ⟨v3, v4⟩ := hv2
      obtain ⟨v5, v6⟩ := hv0
      generalize lateI k (lateM (qS S R) (x :: List.drop (k + 1) cs)) = lt
      have j1 : (0 : Int) ≤ (q : Int) := by omega
      have j2 : (q : Int) < (N : Int) + 1 := by omega
      subst hta
      clear hrm hJ hz c1 c2 c4
      by_cases h1 : (q : Int) ≤ (z : Int)
      case neg =>
        have hg1 : decide (z < q) = true := by simp; omega
        have hno : Hid (goodM (qS S R) (sS S R) cs ls = false) := by show _ = _; rw [HST.out, HJ.out, decide_eq_false h1]; rfl
        clear h1
        go_wp2_with fail
        go_quiet ((go_at_call 60; exact Calls.quiet_of (HBW.out _)))
        go_wp2_with fail
        go_ret2
        exact ⟨by rw [hno.out]; rfl, below_drewN (hB3.trans (hb3B.mono hB3.size)) _⟩
      have hg1 : decide (z < q) = false := by simp; omega
      by_cases h2 : tq ≤ rm
      case neg =>
        have hg2 : decide (rm < tq) = true := by simp; omega
        have hno : Hid (goodM (qS S R) (sS S R) cs ls = false) := by show _ = _; rw [HST.out, HJ.out, decide_eq_false h2]; simp
        clear h1 h2
        go_wp2_with fail
        go_quiet ((go_at_call 60; exact Calls.quiet_of (HBW.out _)))
        go_wp2_with fail
        go_ret2
        exact ⟨by rw [hno.out]; rfl, below_drewN (hB3.trans (hb3B.mono hB3.size)) _⟩
      have hg2 : decide (rm < tq) = false := by simp; omega
      by_cases h3 : v - u ≤ x.ahead
      case neg =>
        have hg3 : decide (x.ahead < v - u) = true := by simp; omega
        have hno : Hid (goodM (qS S R) (sS S R) cs ls = false) := by show _ = _; rw [HST.out, HJ.out, decide_eq_false h3]; simp
        clear h1 h2 h3
        go_wp2_with fail
        go_quiet ((go_at_call 60; exact Calls.quiet_of (HBW.out _)))
        go_wp2_with fail
        go_ret2
        exact ⟨by rw [hno.out]; rfl, below_drewN (hB3.trans (hb3B.mono hB3.size)) _⟩
      have hg3 : decide (x.ahead < v - u) = false := by simp; omega
      have hyes : Hid (goodM (qS S R) (sS S R) cs ls = goodM (qS S R) (sS S R) (cs.drop (k + 1)) (ls.drop (k + 1))) := by show _ = _; rw [HST.out, HJ.out, decide_eq_true h1, decide_eq_true h2, decide_eq_true h3]; rfl
      clear h1 h2 h3
      go_wp2_with fail
      go_quiet ((go_at_call 60; exact Calls.quiet_of (HBW.out _)))
      go_wp2_with fail
      go_roundw
      case rel => exact ⟨k + 1, by omega, by go_num, hyes, below_drewN hb3B _⟩
      case measure => simp [intOf]; omega
    · obtain rfl : k = ln := by omega
      have hfin : Hid (goodM (qS S R) (sS S R) cs ls = true) := by
        show _ = _
        rw [hgo.out, List.drop_eq_nil_iff.2 (by rw [← HLK.out]; exact Nat.le_refl _)]
        rfl
      go_wp2_with fail
      go_ret2
      exact ⟨by rw [hfin.out]; rfl, hB3.trans (hbr.mono hB3.size)⟩
end Go.Proofs.YtijcbfhlhgjedaaDoor
