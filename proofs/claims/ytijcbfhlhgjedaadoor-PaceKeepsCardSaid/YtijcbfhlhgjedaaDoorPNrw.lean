/- pace.Narrow, walked: the narrowed passings, or the errors. -/
import Derived.Test.YtijcbfhlhgjedaaDoorPEIter
import Derived.Test.YtijcbfhlhgjedaaDoorPEReg
import Derived.Test.YtijcbfhlhgjedaaDoorPERev
import Derived.Test.YtijcbfhlhgjedaaDoorPNrwQ
import Derived.Test.YtijcbfhlhgjedaaDoorPFits
import Derived.RegionTactic
import Derived.BigRegion
namespace Go.Proofs.YtijcbfhlhgjedaaDoor
open Go.RowKit Go.Shelf Go.Sort Go.Proofs

theorem infoPa : (Tryd.prog.info? 89).map (fun i => (i.zero, i.size, i.bytes)) = some (some (.agg #[.int .i64 0, .int .i64 0, .int .i64 0]), 3, 24) := by kernel_rfl
theorem onePa (x : PassR) : ∀ u ∈ paC x, u.oneCell' = true := by intro u hu; simp [paC] at hu; rcases hu with rfl | rfl | rfl <;> rfl
set_option maxRecDepth 100000 in
set_option maxHeartbeats 8000000 in
theorem ClonePa_any (A : Option Addr) (n c : Nat) (xs : List PassR) (w : World) (h : SL paC 3 w w.heap.size A n xs) (hn : n ≤ 100000) :
    Calls Tryd.prog 85 #[.slice A n c] w fun e w' => ∃ A' c', e = .returned (.slice A' n c') ∧ OW paC 3 89 w.heap.size w' A' n c' xs ∧ Below w.heap.size w w' := by
  rcases A with _ | ad
  · have hn0 : n = 0 := by
      rcases Nat.eq_zero_or_pos n with h0 | h0
      · exact h0
      · obtain ⟨_, _, h, _⟩ := h.2 h0; cases h
    subst hn0
    have hx : xs = [] := List.eq_nil_of_length_eq_zero h.1.symm
    subst hx
    have hq := fun (W : World) => Lib.run_eql_slice_nil (P := Tryd.prog) W 66 89 none 0 c 0 0 Tryd.underlying66
    go_enter Tryd.func85, Tryd.ntmps85
    go_wp2_with fail
    go_ret
    exact ⟨_, _, rfl, OW.nil_, Below.refl _ _⟩
  · have HH := Lib.hid h
    clear h
    have hq := fun (W : World) => Lib.run_eql_slice_nil (P := Tryd.prog) W 66 89 (some ad) n c 0 0 Tryd.underlying66
    have hb0 : BK (w.alloc (.cells #[] 89)) w.heap.size 89 #[] := BK.new _ _ _
    have ho : OW paC 3 89 w.heap.size (w.alloc (.cells #[] 89)) (some ⟨w.heap.size, 0, none⟩) 0 0 [] := OW.zero hb0 (Nat.le_refl _)
    have hba : Below w.heap.size w (w.alloc (.cells #[] 89)) := (Below.refl _ _).alloc (Nat.le_refl _) _
    go_enter Tryd.func85, Tryd.ntmps85
    go_wp2_with (at_builtin; refine wpList_appS rfl _ _ 66 rfl w.heap.size 89 _ 3 24 Tryd.underlying66 infoPa rfl (by decide) paC _ 0 0 [] rfl ho w.heap.size (some ad) n c xs rfl (HH.out.below hba) paC_len onePa (by omega) (by omega) (by simp) ?_; intro A' c' w' hap; have HAP := Lib.hid hap; clear hap)
    go_ret
    have hap := HAP.out
    have h1 := hap.own
    rw [List.nil_append] at h1
    simp only [Nat.zero_add] at h1
    exact ⟨_, _, rfl, h1, hba.trans hap.bel⟩
theorem betw0_b (a b : Nat) (g : Nat) (ta : Option Addr) (tc N : Nat) (S : Spd) (R : Road) (w : World) (h : TS w w.heap.size g ta tc N S R) (hS : SOK S) (hv : OK R) (ha : a ≤ N) (hb : b ≤ N) :
    Calls Tryd.prog 60 #[.pointer (some ⟨g, 0, none⟩), .int .i64 0, .int .i64 a, .int .i64 b] w fun e w' => e = .returned (.int .i64 (tQ S R.ps b - tQ S R.ps a)) ∧ Below w.heap.size w w' :=
  (between0_any a b g ta tc N S R w h hS hv ha hb).mono fun _ _ ⟨h1, m, h2⟩ => ⟨h1, by rw [h2]; exact below_drewN (Below.refl _ _) m⟩
theorem betw1_b (a b : Nat) (g : Nat) (ta : Option Addr) (tc N : Nat) (S : Spd) (R : Road) (w : World) (h : TS w w.heap.size g ta tc N S R) (hS : SOK S) (hv : OK R) (ha : a ≤ N) (hb : b ≤ N) :
    Calls Tryd.prog 60 #[.pointer (some ⟨g, 0, none⟩), .int .i64 1, .int .i64 a, .int .i64 b] w fun e w' => e = .returned (.int .i64 (tSl S R.ps b - tSl S R.ps a)) ∧ Below w.heap.size w w' :=
  (between1_any a b g ta tc N S R w h hS hv ha hb).mono fun _ _ ⟨h1, m, h2⟩ => ⟨h1, by rw [h2]; exact below_drewN (Below.refl _ _) m⟩
/-- The test at the end: a passing that nothing can meet. -/
def badP (x : PassR) : Bool := !decide (x.early ≤ x.late)
set_option maxRecDepth 100000 in
set_option maxHeartbeats 8000000 in
theorem nr1_any (x : PassR) (w : World) :
    Calls Tryd.prog 86 #[.agg #[.int .i64 x.place, .int .i64 x.early, .int .i64 x.late]] w fun e w' => e = .returned (.bool (badP x)) ∧ Below w.heap.size w w' := by
  have hW0 : Below w.heap.size w (w.alloc (.cells #[.int .i64 x.place, .int .i64 x.early, .int .i64 x.late] 89)) := (Below.refl w.heap.size w).alloc (Nat.le_refl _) _
  obtain ⟨b, hb⟩ : ∃ b, b = badP x := ⟨_, rfl⟩
  have hg : decide (x.late < x.early) = b := by
    rw [hb]
    unfold badP
    rw [← decide_not]
    exact decide_eq_decide.2 (by omega)
  rw [← hb]
  clear hb
  go_enter Tryd.func86, Tryd.ntmps86
  go_wp2_with fail
  go_ret
  exact ⟨rfl, hW0⟩
set_option maxRecDepth 100000 in
set_option maxHeartbeats 8000000 in
theorem nrI_any (la : Option Addr) (ln lc : Nat) (ls : List PassR) (w : World) (hK : SL paC 3 w w.heap.size la ln ls) (hln : ln ≤ 1000) :
    Calls Tryd.prog 109 #[.slice la ln lc, .func (.func 86) #[] #[]] w fun e w' => (∃ v : Int, e = .returned (.int .i64 v) ∧ decide (v < 0) = nrwOk ls) ∧ Below w.heap.size w w' := by
  have HK := Lib.hid hK
  have HL := Lib.hid hK.1
  clear hK
  go_enter Tryd.func109, Tryd.ntmps109
  go_wp2_with fail
  go_loopw [8] (fun i wr => ∃ k : Nat, k ≤ ln ∧ i = .int .i64 k ∧ Below w.heap.size w wr ∧ Hid (∀ x ∈ ls.take k, badP x = false))
    (fun i _ => ln - (intOf i).toNat)
  case atStart => exact ⟨0, Nat.zero_le _, rfl, Below.refl _ _, by simp [Hid]⟩
  case round =>
    obtain ⟨k, hk, rfl, hbr, hall⟩ := hrel
    by_cases hlt : k < ln
    · have hkl : k < ls.length := by rw [← HL.out]; exact hlt
      obtain ⟨b, off, hA, hbB, c0, c1, c2⟩ := PA3.at_ (HK.out.grow hbr hbr.size) (k := k) hkl
      have htm := Lib.hid (fun x => take_mem (P := fun p => badP p = false) hkl hall.out x)
      have hmem := Lib.hid (List.getElem_mem hkl)
      generalize ls[k]'hkl = x at c0 c1 c2 htm hmem
      have hk1 : (0 : Int) ≤ (k : Int) := by omega
      have hk2 : (k : Int) < (ln : Int) := by omega
      have HF := Lib.hid (fun W => nr1_any x W)
      clear hkl hall
      subst hA
      cases hp : badP x
      case true =>
        have HPX := Lib.hid hp
        clear hp
        go_wp2_with (go_at_call 86; refine (HF.out _).mono ?_; rintro e w' ⟨rfl, hb2⟩; rw [HPX.out])
        go_ret
        refine ⟨⟨_, rfl, ?_⟩, hbr.trans (hb2.mono hbr.size)⟩
        have h1 : nrwOk ls = false := by
          rw [Bool.eq_false_iff]
          intro h
          have := List.all_eq_true.1 h x hmem.out
          have h2 := HPX.out
          unfold badP at h2
          rw [this] at h2
          cases h2
        rw [h1]
        simp
      case false =>
        have HPX := Lib.hid hp
        clear hp
        go_wp2_with (go_at_call 86; refine (HF.out _).mono ?_; rintro e w' ⟨rfl, hb2⟩; rw [HPX.out])
        go_roundw
        case rel => exact ⟨k + 1, by omega, by go_num, hbr.trans (hb2.mono hbr.size), htm.out HPX.out⟩
        case measure => simp [intOf]; omega
    · obtain rfl : k = ln := by omega
      go_wp2_with fail
      go_ret
      refine ⟨⟨_, rfl, ?_⟩, hbr⟩
      have h1 : nrwOk ls = true := by
        unfold nrwOk
        rw [List.all_eq_true]
        have := hall.out
        rw [HL.out, List.take_length] at this
        intro x hx
        have h2 := this x hx
        unfold badP at h2
        simpa using h2
      rw [h1]
      rfl
set_option maxRecDepth 100000 in
theorem nrC_any (la : Option Addr) (ln lc : Nat) (ls : List PassR) (w : World) (hK : SL paC 3 w w.heap.size la ln ls) (hln : ln ≤ 1000) :
    Calls Tryd.prog 78 #[.slice la ln lc, .func (.func 86) #[] #[]] w fun e w' => e = .returned (.bool (!nrwOk ls)) ∧ Below w.heap.size w w' := by
  have HF := Lib.hid (nrI_any la ln lc ls w hK hln)
  clear hK
  go_enter Tryd.func78, Tryd.ntmps78
  go_wp2_with fail
  refine HF.out.mono ?_
  rintro e w' ⟨⟨v, rfl, hv⟩, hb⟩
  have HV := Lib.hid hv
  clear hv
  go_wp2_with fail
  go_ret
  refine ⟨ret_bool ?_, hb⟩
  rw [← HV.out]
  by_cases h : v < 0
  · rw [decide_eq_true h, decide_eq_false (by omega)]; rfl
  · rw [decide_eq_false h, decide_eq_true (by omega)]; rfl
/-- The narrowed passings, or the error, of whatever arguments. -/
def nrwR (S : Spd) (R : Road) (ls : List PassR) : List PassR := nrw (qS S R) (sS S R) ls
def nrwAll (S : Spd) (R : Road) (ls : List PassR) : List PassR × Int := if (val R && spB S && pB (sumL R.ps) ls) = true then (if nrwOk (nrwR S R ls) = true then (nrwR S R ls, 0) else ([], 5)) else ([], 2)
theorem nrwAll_bad {S : Spd} {R : Road} {ls : List PassR} (h : (val R && spB S && pB (sumL R.ps) ls) = false) : nrwAll S R ls = ([], 2) := by unfold nrwAll; rw [h]; rfl
theorem nrwAll_ok {S : Spd} {R : Road} {ls : List PassR} (h : (val R && spB S && pB (sumL R.ps) ls) = true) : nrwAll S R ls = if nrwOk (nrwR S R ls) = true then (nrwR S R ls, 0) else ([], 5) := by unfold nrwAll; rw [h]; rfl
set_option maxRecDepth 100000 in
set_option maxHeartbeats 8000000 in
theorem Narrow_all (pa : Option Addr) (pn pc : Nat) (ca : Option Addr) (cn cc : Nat) (ja : Option Addr) (jn jc : Nat) (R : Road) (ra : Option Addr) (rn rc : Nat) (sa : Option Addr) (sn sc : Nat) (S : Spd) (la : Option Addr) (ln lc : Nat) (ls : List PassR) (w : World)
    (h : RD w w.heap.size pa pn ca cn ja jn R) (hD : SD w w.heap.size ra rn sa sn S) (hL : SL paC 3 w w.heap.size la ln ls) (hln : ln ≤ 1000) :
    Calls Tryd.prog 45 #[.agg #[.slice pa pn pc, .slice ca cn cc, .slice ja jn jc], .agg #[.int .i64 S.least, .int .i64 S.most, .slice ra rn rc, .slice sa sn sc], .slice la ln lc] w fun e w' =>
      ∃ A n c, e = .returned (.tuple #[.slice A n c, .int .i64 (nrwAll S R ls).2]) ∧ SL paC 3 w' w'.heap.size A n (nrwAll S R ls).1 ∧ Below w.heap.size w w' := by
  have hmo : Tryd.prog.follows .mixedOrders = true := by kernel_rfl
  have HLP := Lib.hid hL.1
  have HR := Lib.hid h
  have HD := Lib.hid hD
  have HL := Lib.hid hL
  clear h hD hL
  obtain ⟨w0, hw0⟩ : ∃ w0, w0 = (w.alloc (.cells #[.slice pa pn pc, .slice ca cn cc, .slice ja jn jc] 26)).alloc (.cells #[.int .i64 S.least, .int .i64 S.most, .slice ra rn rc, .slice sa sn sc] 30) := ⟨_, rfl⟩
  have hB0 : Below w.heap.size w w0 := by rw [hw0]; exact ((Below.refl w.heap.size w).alloc (Nat.le_refl _) _).alloc (by simp) _
  have hX0 : BK w0 (w.heap.size) 26 #[.slice pa pn pc, .slice ca cn cc, .slice ja jn jc] := by rw [hw0]; exact ((BK.new w 26 #[.slice pa pn pc, .slice ca cn cc, .slice ja jn jc])).alloc _
  have hY0 : BK w0 (w.heap.size + 1) 30 #[.int .i64 S.least, .int .i64 S.most, .slice ra rn rc, .slice sa sn sc] := by rw [hw0]; have := BK.new (w.alloc (.cells #[.slice pa pn pc, .slice ca cn cc, .slice ja jn jc] 26)) 30 #[.int .i64 S.least, .int .i64 S.most, .slice ra rn rc, .slice sa sn sc]; rw [World.size_alloc] at this; exact this
  go_enter Tryd.func45, Tryd.ntmps45
  go_wp2_with fail
  rw [← hw0]
  clear hw0
  have x0 := hX0.cell 0
  have x1 := hX0.cell 1
  have x2 := hX0.cell 2
  have y0 := hY0.cell 0
  have y1 := hY0.cell 1
  have y2 := hY0.cell 2
  have y3 := hY0.cell 3
  simp only [List.getElem?_toArray, List.getElem?_cons_zero, List.getElem?_cons_succ] at x0 x1 x2 y0 y1 y2 y3
  go_wp2_with fail
  clear x0 x1 x2 y0 y1 y2 y3
  by_cases hb : OK R ∧ SOK S
  case neg =>
    have HE : Hid (nrwAll S R ls = ([], 2)) := nrwAll_bad (by
      rw [Bool.eq_false_iff]
      intro q
      rw [Bool.and_eq_true, Bool.and_eq_true] at q
      exact hb ⟨(val_iff R).1 q.1.1, (spB_iff S).1 q.1.2⟩)
    refine (begin_bad pa pn pc ca cn cc ja jn jc R ra rn rc sa sn sc S w0 (HR.out.grow hB0 hB0.size) (HD.out.grow hB0 hB0.size) hb).mono ?_
    rintro e w1 ⟨rfl, hk⟩
    have hB1 := hB0.trans (hk.mono hB0.size)
    clear hX0 hY0 hk hB0
    go_wp2_with fail
    refine bodyPost_ret (v := .tuple #[.slice none 0 0, .int .i64 2]) (by simp [results, Tryd.results45, go_sem]) rfl ⟨none, 0, 0, by rw [HE.out], by rw [HE.out]; exact SL.nil_, hB1⟩
  have HV := Lib.hid hb.1
  have HS := Lib.hid hb.2
  clear hb
  refine (begin_any pa pn pc ca cn cc ja jn jc R ra rn rc sa sn sc S w0 (HR.out.grow hB0 hB0.size) (HD.out.grow hB0 hB0.size) HV.out HS.out).mono ?_
  rintro e w1 ⟨g, ta, tc, N, rfl, hTS, hk⟩
  have HT1 := Lib.hid hTS
  have hN1 : N ≤ 100000 := by have := hTS.n; have := HV.out.n1; omega
  have HN : Hid (sumL R.ps = N) := hTS.n
  have hB1 := hB0.trans (hk.mono hB0.size)
  clear hX0 hY0 hTS hB0 hk
  go_wp2_with fail
  refine (passings_any la ln lc ls g ta tc N S R w1 HT1.out (HL.out.grow hB1 hB1.size) (by omega) (by omega)).mono ?_
  rintro e w2 ⟨rfl, hk⟩
  have HOB : Hid ((val R && spB S && pB (sumL R.ps) ls) = pB N ls) := by
    show _ = _
    rw [(val_iff R).2 HV.out, (spB_iff S).2 HS.out, HN.out, Bool.true_and, Bool.true_and]
  have HT2 := Lib.hid (HT1.out.grow hk hk.size)
  have hB2 := hB1.trans (hk.mono hB1.size)
  clear HT1 hB1 hk
  cases hpb : pB N ls
  case false =>
    have HE : Hid (nrwAll S R ls = ([], 2)) := nrwAll_bad (by rw [HOB.out, hpb])
    go_wp2_with fail
    refine bodyPost_ret (v := .tuple #[.slice none 0 0, .int .i64 2]) (by simp [results, Tryd.results45, go_sem]) rfl ⟨none, 0, 0, by rw [HE.out], by rw [HE.out]; exact SL.nil_, hB2⟩
  have HPO : Hid (POK (sumL R.ps) ls) := by have := (pB_iff _ _).1 hpb; rw [HN.out]; exact this
  have HOK := Lib.hid (nrwAll_ok (HOB.out.trans hpb))
  clear hpb HOB
  go_wp2_with fail
  refine (ClonePa_any la ln lc ls w2 (HL.out.grow hB2 hB2.size) (by omega)).mono ?_
  rintro e w3 ⟨A, c, rfl, hO3, hk3⟩
  obtain ⟨w4, hw4⟩ : ∃ w4, w4 = w3.alloc (.cells #[.int .i64 0, .int .i64 0, .int .i64 0] 89) := ⟨_, rfl⟩
  have hZ4 : BK w4 w3.heap.size 89 #[.int .i64 0, .int .i64 0, .int .i64 0] := by rw [hw4]; exact BK.new _ _ _
  have hk4 : Below w2.heap.size w2 w4 := by rw [hw4]; exact hk3.alloc hk3.size _
  have hO4 : OW paC 3 89 w2.heap.size w4 A ln c ls := by rw [hw4]; exact hO3.alloc _
  have hAb : ∀ a, A = some a → a.block < w3.heap.size := fun a ha => (hO3.lt ha).2
  have hz3 := hk3.size
  have HAB := Lib.hid hAb
  go_wp2_with fail
  rw [← hw4]
  clear hw4 hO3 hk3 hAb
  go_loopw [35] (fun i wr => ∃ k : Nat, k ≤ ln ∧ i = .int .i64 k ∧ OW paC 3 89 w2.heap.size wr A ln c (fwd (qS S R) (sS S R) ls k) ∧ BK wr w3.heap.size 89 #[.int .i64 (befP (fwd (qS S R) (sS S R) ls k) k).place, .int .i64 (befP (fwd (qS S R) (sS S R) ls k) k).early, .int .i64 (befP (fwd (qS S R) (sS S R) ls k) k).late] ∧ Below w2.heap.size w2 wr)
    (fun i _ => ln - (intOf i).toNat)
  case atStart => exact ⟨0, Nat.zero_le _, rfl, hO4, hZ4, hk4⟩
  case round =>
    obtain ⟨k, hk, rfl, hO, hZ, hbr⟩ := hrel
    by_cases hlt : k < ln
    case pos =>
      obtain ⟨x, bp, q, z, f1, f2, -, -, f3, f4, f5, f6, f7, f8, f9, f10⟩ := fwd_round HS.out HV.out HPO.out (k := k) (by rw [← HLP.out]; exact hlt)
      rw [f2] at hZ
      have hlen := fwd_len (qS S R) (sS S R) ls k
      obtain ⟨a, hA⟩ : ∃ a, A = some a := by
        rcases A with _ | a
        · obtain ⟨h0, _⟩ := hO.none_
          omega
        · exact ⟨a, rfl⟩
      obtain ⟨ob, rfl, hob1, hob2, hfz, hcl⟩ := hO.at_ paC_len a hA
      subst hA
      have hne : ob ≠ w3.heap.size := by have := HAB.out _ rfl; simp only at this; omega
      obtain ⟨L, hLe⟩ : ∃ L, L = fwd (qS S R) (sS S R) ls k := ⟨_, rfl⟩
      rw [← hLe] at hO f1 f9 hlen hcl
      clear hLe
      have HBE := Lib.hid f10
      have HST := Lib.hid f9
      clear f9 f10 f2
      obtain ⟨xp, xe, xl⟩ := x
      obtain ⟨bpp, be, bl⟩ := bp
      dsimp only at f3 f4
      subst f3
      subst f4
      obtain ⟨g1, g2, g3, g4⟩ := f7
      obtain ⟨g5, g6, g7, g8⟩ := f8
      dsimp only at g1 g2 g3 g4 g5 g6 g7 g8 HBE HST hZ
      have hzN : z ≤ N := by have := HN.out; omega
      have hqN : q ≤ N := by omega
      obtain ⟨dq, hdq⟩ : ∃ dq, dq = tQ S R.ps z - tQ S R.ps q := ⟨_, rfl⟩
      obtain ⟨ds, hds⟩ : ∃ ds, ds = tSl S R.ps z - tSl S R.ps q := ⟨_, rfl⟩
      have b1 := tQ_bd HS.out HV.out q
      have b2 := tQ_bd HS.out HV.out z
      have b3 := tSl_bd HS.out HV.out q
      have b4 := tSl_bd HS.out HV.out z
      obtain ⟨s1, hs1⟩ : ∃ s1, s1 = be + dq := ⟨_, rfl⟩
      obtain ⟨s2, hs2⟩ : ∃ s2, s2 = bl + ds := ⟨_, rfl⟩
      obtain ⟨M1, hM1⟩ : ∃ M1, M1 = max xe s1 := ⟨_, rfl⟩
      obtain ⟨M2, hM2⟩ : ∃ M2, M2 = min xl s2 := ⟨_, rfl⟩
      rw [← hdq, ← hds, ← hs1, ← hs2, ← hM1, ← hM2] at HBE HST
      have hw1 : IntKind.i64.wrap (be + dq) = s1 := (IntWalk.i64_in _ (by omega)).trans hs1.symm
      have hw2 : IntKind.i64.wrap (bl + ds) = s2 := (IntWalk.i64_in _ (by omega)).trans hs2.symm
      have hi1 : (if xe < s1 then s1 else xe) = M1 := by rw [hM1, Int.max_def]; split <;> split <;> omega
      have hi2 : (if s2 < xl then s2 else xl) = M2 := by rw [hM2, Int.min_def]; split <;> split <;> omega
      have HDQ : Hid (tQ S R.ps z - tQ S R.ps q = dq) := hdq.symm
      have HDS : Hid (tSl S R.ps z - tSl S R.ps q = ds) := hds.symm
      clear b1 b2 b3 b4 hdq hds hs1 hs2 hM1 hM2 g1 g2 g3 g4 g5 g6 g7 g8
      have c0 := hcl k _ f1 0 _ rfl
      have c1 := hcl k _ f1 1 _ rfl
      have c2 := hcl k _ f1 2 _ rfl
      rw [show 0 + k * 3 + 0 = k * 3 by omega] at c0
      rw [show 0 + k * 3 + 1 = k * 3 + 1 by omega] at c1
      rw [show 0 + k * 3 + 2 = k * 3 + 2 by omega] at c2
      have z0 := hZ.cell 0
      have z1 := hZ.cell 1
      have z2 := hZ.cell 2
      simp only [List.getElem?_toArray, List.getElem?_cons_zero, List.getElem?_cons_succ] at z0 z1 z2
      have HTr := Lib.hid (HT2.out.grow hbr hbr.size)
      have hlZ := hZ.lt
      have hk1 : (0 : Int) ≤ (k : Int) := by omega
      have hk2 : (k : Int) < (ln : Int) := by omega
      have hgl := HTr.out.lt
      clear hfz hcl
      have HF1 := Lib.hid f1
      clear f1
      go_wp2_with fail
      have c0 := fun d os => cell_regrown c0 d os
      have c1 := fun d os => cell_regrown c1 d os
      have c2 := fun d os => cell_regrown c2 d os
      have z0 := fun d os => cell_regrown z0 d os
      have z1 := fun d os => cell_regrown z1 d os
      have z2 := fun d os => cell_regrown z2 d os
      have HGT := Lib.hid (fun d os => HTr.out.grow (below_regrown wr d os) (below_regrown wr d os).size)
      refine wp_region_ch 17 [14] hmo (by kernel_rfl) ?_
      simp only [List.take_succ_cons, List.take_zero, List.drop_succ_cons, List.drop_zero]
      repeat (with_reducible refine wpC_q (by decide) (by decide) (fun K hK => ?_); go_simp; (try rw [if_neg (by simp [undef])]); refine hK _ ?_; clear hK K)
      with_reducible refine wpC_cg (ι := Unit) 60 #[.pointer (some ⟨g, 0, none⟩), .int .i64 0, .int .i64 q, .int .i64 z] (fun _ => .int .i64 dq) (fun _ _ => True) (by decide) (by decide) (by go_simp) (fun w => by go_simp) stable_true (fun _ => stable_true) (fun W hW _ => ?_) (fun i0 hs0 => ?_)
      · obtain ⟨pp, rfl⟩ := hW
        refine (betw0_b q z g ta tc N S R _ (HGT.out _ _) HS.out HV.out hqN hzN).mono ?_
        rintro e w' ⟨rfl, hbl⟩
        exact ⟨(), by rw [HDQ.out], trivial, hbl⟩
      repeat (with_reducible refine wpC_q (by decide) (by decide) (fun K hK => ?_); go_simp; (try rw [if_neg (by simp [undef])]); refine hK _ ?_; clear hK K)
      refine wpC_nil ?_
      intro w5 hb5 _
      clear c0 c1 c2 z0 z1 z2 HGT hs0
      have hO5 := hO.call hb5
      have hZ5 := hZ.below hb5 hlZ
      obtain ⟨ob', e0, -, -, hfz, hcl⟩ := hO5.at_ paC_len _ rfl
      injection e0 with e0
      subst e0
      have c1 := hcl k _ HF1.out 1 _ rfl
      rw [show 0 + k * 3 + 1 = k * 3 + 1 by omega] at c1
      have f1 := hfz (k * 3 + 1)
      clear hcl hfz
      have hb5' := hbr.trans (hb5.mono hbr.size)
      go_wp2_with fail
      clear c1 f1
      obtain ⟨w6, hw6⟩ : ∃ w6, w6 = w5.setCell ⟨ob, k * 3 + 1, none⟩ (.int .i64 M1) := ⟨_, rfl⟩
      have hO6 : OW paC 3 89 w2.heap.size w6 (some ⟨ob, 0, none⟩) ln c (L.set k ⟨z, M1, xl⟩) := by rw [hw6]; exact OW.setF hO5 paC_len k 1 (y := ⟨z, M1, xl⟩) HF1.out (by omega) rfl
      have hZ6 : BK w6 w3.heap.size 89 #[.int .i64 q, .int .i64 be, .int .i64 bl] := by rw [hw6]; exact hZ5.far (fun h => hne h.symm) _
      have hb6 : Below w2.heap.size w2 w6 := by rw [hw6]; exact hb5'.setCell (p := ⟨ob, k * 3 + 1, none⟩) hob2 _
      have hkL : k < L.length := (List.getElem?_eq_some_iff.1 HF1.out).1
      have HF2 : Hid ((L.set k ⟨z, M1, xl⟩)[k]? = some ⟨z, M1, xl⟩) := by show _ = _; rw [List.getElem?_set_self hkL]
      have HKL := Lib.hid hkL
      rw [← hw6]
      clear hw6 hO5 hZ5 hb5' hb5 hO hZ hbr HTr hlZ hgl hkL HF1
      obtain ⟨ob', e0, -, -, hfz, hcl⟩ := hO6.at_ paC_len _ rfl
      injection e0 with e0
      subst e0
      have c0 := hcl k _ HF2.out 0 _ rfl
      have c2 := hcl k _ HF2.out 2 _ rfl
      rw [show 0 + k * 3 + 0 = k * 3 by omega] at c0
      rw [show 0 + k * 3 + 2 = k * 3 + 2 by omega] at c2
      have z0 := hZ6.cell 0
      have z2 := hZ6.cell 2
      simp only [List.getElem?_toArray, List.getElem?_cons_zero, List.getElem?_cons_succ] at z0 z2
      have HTr := Lib.hid (HT2.out.grow hb6 hb6.size)
      have hlZ := hZ6.lt
      have hgl := HTr.out.lt
      clear hfz hcl
      have c0 := fun d os => cell_regrown c0 d os
      have c2 := fun d os => cell_regrown c2 d os
      have z0 := fun d os => cell_regrown z0 d os
      have z2 := fun d os => cell_regrown z2 d os
      have HGT := Lib.hid (fun d os => HTr.out.grow (below_regrown w6 d os) (below_regrown w6 d os).size)
      refine wp_region_ch 17 [14] hmo (by kernel_rfl) ?_
      simp only [List.take_succ_cons, List.take_zero, List.drop_succ_cons, List.drop_zero]
      repeat (with_reducible refine wpC_q (by decide) (by decide) (fun K hK => ?_); go_simp; (try rw [if_neg (by simp [undef])]); refine hK _ ?_; clear hK K)
      with_reducible refine wpC_cg (ι := Unit) 60 #[.pointer (some ⟨g, 0, none⟩), .int .i64 1, .int .i64 q, .int .i64 z] (fun _ => .int .i64 ds) (fun _ _ => True) (by decide) (by decide) (by go_simp) (fun w => by go_simp) stable_true (fun _ => stable_true) (fun W hW _ => ?_) (fun i0 hs0 => ?_)
      · obtain ⟨pp, rfl⟩ := hW
        refine (betw1_b q z g ta tc N S R _ (HGT.out _ _) HS.out HV.out hqN hzN).mono ?_
        rintro e w' ⟨rfl, hbl⟩
        exact ⟨(), by rw [HDS.out], trivial, hbl⟩
      repeat (with_reducible refine wpC_q (by decide) (by decide) (fun K hK => ?_); go_simp; (try rw [if_neg (by simp [undef])]); refine hK _ ?_; clear hK K)
      refine wpC_nil ?_
      intro w7 hb7 _
      clear c0 c2 z0 z2 HGT hs0
      have hO7 := hO6.call hb7
      have hZ7 := hZ6.below hb7 hlZ
      obtain ⟨ob', e0, -, -, hfz, hcl⟩ := hO7.at_ paC_len _ rfl
      injection e0 with e0
      subst e0
      have c0 := hcl k _ HF2.out 0 _ rfl
      have c1 := hcl k _ HF2.out 1 _ rfl
      have c2 := hcl k _ HF2.out 2 _ rfl
      rw [show 0 + k * 3 + 0 = k * 3 by omega] at c0
      rw [show 0 + k * 3 + 1 = k * 3 + 1 by omega] at c1
      rw [show 0 + k * 3 + 2 = k * 3 + 2 by omega] at c2
      have f2 := hfz (k * 3 + 2)
      clear hcl hfz
      have z0 := hZ7.cell 0
      have z1 := hZ7.cell 1
      have z2 := hZ7.cell 2
      have y0 := hZ7.frozen 0
      have y1 := hZ7.frozen 1
      have y2 := hZ7.frozen 2
      simp only [List.getElem?_toArray, List.getElem?_cons_zero, List.getElem?_cons_succ] at z0 z1 z2
      have hb7' := hb6.trans (hb7.mono hb6.size)
      have hne' : ¬ w3.heap.size = ob := fun h => hne h.symm
      have hO8 : OW paC 3 89 w2.heap.size (w7.setCell ⟨ob, k * 3 + 2, none⟩ (.int .i64 M2)) (some ⟨ob, 0, none⟩) ln c (L.set k ⟨z, M1, M2⟩) := by
        have h1 := OW.setF hO7 paC_len k 2 (y := ⟨z, M1, M2⟩) (v := .int .i64 M2) HF2.out (by omega) rfl
        rw [List.set_set] at h1
        exact h1
      have hZ8 : BK (w7.setCell ⟨ob, k * 3 + 2, none⟩ (.int .i64 M2)) w3.heap.size 89 #[.int .i64 q, .int .i64 be, .int .i64 bl] := hZ7.far hne' _
      have hb8 : Below w2.heap.size w2 (w7.setCell ⟨ob, k * 3 + 2, none⟩ (.int .i64 M2)) := hb7'.setCell (p := ⟨ob, k * 3 + 2, none⟩) hob2 _
      have hfar : ∀ j a, some (⟨ob, 0, none⟩ : Addr) = some a → a.block ≠ (⟨w3.heap.size, j, none⟩ : Addr).block := fun j a ha => by cases ha; exact hne
      have hO9 := ((hO8.setCell (p := ⟨w3.heap.size, 0, none⟩) (hfar 0) (.int .i64 z)).setCell (p := ⟨w3.heap.size, 1, none⟩) (hfar 1) (.int .i64 M1)).setCell (p := ⟨w3.heap.size, 2, none⟩) (hfar 2) (.int .i64 M2)
      have hZ9 := ((hZ8.set_ 0 (.int .i64 z)).set_ 1 (.int .i64 M1)).set_ 2 (.int .i64 M2)
      have hb9 := ((hb8.setCell (p := ⟨w3.heap.size, 0, none⟩) hz3 (.int .i64 z)).setCell (p := ⟨w3.heap.size, 1, none⟩) hz3 (.int .i64 M1)).setCell (p := ⟨w3.heap.size, 2, none⟩) hz3 (.int .i64 M2)
      have HO9 := Lib.hid hO9
      have HZ9 := Lib.hid hZ9
      have HB9 := Lib.hid hb9
      clear hO9 hZ9 hb9 hO8 hZ8 hb8 hfar hO7 hZ7 hb7' hO6 hZ6 hb6 hb7 HTr hlZ hgl
      go_wp2_with fail
      go_roundw
      case rel => exact ⟨k + 1, by omega, by go_num, by rw [HST.out]; exact HO9.out, by rw [HBE.out]; exact HZ9.out, HB9.out⟩
      case measure => simp [intOf]; omega
    obtain rfl : ln = k := by omega
    obtain ⟨wA, hwA⟩ : ∃ wA, wA = wr := ⟨_, rfl⟩
    rw [← hwA] at hO hbr ⊢
    have HF : Hid (PKeep (bdF 1000070000000 (qS S R)) ls (fwd (qS S R) (sS S R) ls ln)) := by have := fwd_keep (qm_of HS.out HV.out) HPO.out ls.length (Nat.le_refl _); rw [← HLP.out] at this; exact this
    have HOKF : Hid (nrwR S R ls = bwd (qS S R) (sS S R) (fwd (qS S R) (sS S R) ls ln) (ln - 1)) := by show _ = _; rw [HLP.out]; rfl
    obtain ⟨F, hF⟩ : ∃ F, F = fwd (qS S R) (sS S R) ls ln := ⟨_, rfl⟩
    rw [← hF] at hO HF HOKF
    clear hlt hwA hZ hF
    have hw0 : IntKind.i64.wrap ((ln : Int) - 2) = (ln : Int) - 2 := IntWalk.i64_in _ (by omega)
    go_wp2_with fail
    clear hw0
    go_loopw [14] (fun i wr => ∃ k : Nat, k ≤ ln - 1 ∧ i = .int .i64 ((ln : Int) - 2 - k) ∧ OW paC 3 89 w2.heap.size wr A ln c (bwd (qS S R) (sS S R) F k) ∧ Below w2.heap.size w2 wr)
      (fun i _ => (intOf i + 1).toNat)
    case atStart => exact ⟨0, Nat.zero_le _, by simp, hO, hbr⟩
    clear hO hbr
    case round =>
      obtain ⟨k, hk, rfl, hO, hbr⟩ := hrel
      by_cases hlt : k + 2 ≤ ln
      case pos =>
        obtain ⟨x, y, q, z, f1, f2, f3, f4, f5, f6, f7, f8, f9⟩ := bwd_round HS.out HV.out HPO.out HF.out (k := k) (by rw [← HLP.out]; exact hlt)
        obtain ⟨m, hm⟩ : ∃ m, m = ls.length - 2 - k := ⟨_, rfl⟩
        have hm1 : ls.length - 1 - k = m + 1 := by have := HLP.out; omega
        have hmi : (ln : Int) - 2 - (k : Int) = (m : Int) := by have := HLP.out; omega
        rw [hm1] at f2
        rw [← hm] at f1 f9
        rw [hmi]
        have hmk : m + 2 + k = ln := by have := HLP.out; omega
        clear hm hm1 hmi
        obtain ⟨a, hA⟩ : ∃ a, A = some a := by
          rcases A with _ | a
          · obtain ⟨h0, _⟩ := hO.none_
            omega
          · exact ⟨a, rfl⟩
        obtain ⟨ob, rfl, hob1, hob2, hfz, hcl⟩ := hO.at_ paC_len a hA
        subst hA
        obtain ⟨L, hLe⟩ : ∃ L, L = bwd (qS S R) (sS S R) F k := ⟨_, rfl⟩
        rw [← hLe] at hO f1 f2 f9 hcl
        clear hLe
        have HST := Lib.hid f9
        clear f9
        obtain ⟨xp, xe, xl⟩ := x
        obtain ⟨yp, ye, yl⟩ := y
        dsimp only at f3 f4
        subst f3
        subst f4
        obtain ⟨g1, g2, g3, g4⟩ := f7
        obtain ⟨g5, g6, g7, g8⟩ := f8
        dsimp only at g1 g2 g3 g4 g5 g6 g7 g8 HST
        have hzN : z ≤ N := by have := HN.out; omega
        have hqN : q ≤ N := by omega
        obtain ⟨dq, hdq⟩ : ∃ dq, dq = tQ S R.ps z - tQ S R.ps q := ⟨_, rfl⟩
        obtain ⟨ds, hds⟩ : ∃ ds, ds = tSl S R.ps z - tSl S R.ps q := ⟨_, rfl⟩
        have b1 := tQ_bd HS.out HV.out q
        have b2 := tQ_bd HS.out HV.out z
        have b3 := tSl_bd HS.out HV.out q
        have b4 := tSl_bd HS.out HV.out z
        obtain ⟨s1, hs1⟩ : ∃ s1, s1 = ye - ds := ⟨_, rfl⟩
        obtain ⟨s2, hs2⟩ : ∃ s2, s2 = yl - dq := ⟨_, rfl⟩
        obtain ⟨M1, hM1⟩ : ∃ M1, M1 = max xe s1 := ⟨_, rfl⟩
        obtain ⟨M2, hM2⟩ : ∃ M2, M2 = min xl s2 := ⟨_, rfl⟩
        rw [← hdq, ← hds, ← hs1, ← hs2, ← hM1, ← hM2] at HST
        have hw1 : IntKind.i64.wrap (ye - ds) = s1 := (IntWalk.i64_in _ (by omega)).trans hs1.symm
        have hw2 : IntKind.i64.wrap (yl - dq) = s2 := (IntWalk.i64_in _ (by omega)).trans hs2.symm
        have hi1 : (if xe < s1 then s1 else xe) = M1 := by rw [hM1, Int.max_def]; split <;> split <;> omega
        have hi2 : (if s2 < xl then s2 else xl) = M2 := by rw [hM2, Int.min_def]; split <;> split <;> omega
        have HDQ : Hid (tQ S R.ps z - tQ S R.ps q = dq) := hdq.symm
        have HDS : Hid (tSl S R.ps z - tSl S R.ps q = ds) := hds.symm
        clear b1 b2 b3 b4 hdq hds hs1 hs2 hM1 hM2 g1 g2 g3 g4 g5 g6 g7 g8
        have d0 := hcl (m + 1) _ f2 0 _ rfl
        have d1 := hcl (m + 1) _ f2 1 _ rfl
        have d2 := hcl (m + 1) _ f2 2 _ rfl
        rw [show 0 + (m + 1) * 3 + 0 = (m + 1) * 3 by omega] at d0
        rw [show 0 + (m + 1) * 3 + 1 = (m + 1) * 3 + 1 by omega] at d1
        rw [show 0 + (m + 1) * 3 + 2 = (m + 1) * 3 + 2 by omega] at d2
        have hi3 : (0 : Int) ≤ (m : Int) := by omega
        have hi4 : (m : Int) < (ln : Int) := by omega
        have hi5 : (0 : Int) ≤ (m : Int) + 1 := by omega
        have hi6 : (m : Int) + 1 < (ln : Int) := by omega
        have hi7 : ((m : Int) + 1).toNat = m + 1 := by omega
        have gm : decide ((0 : Int) ≤ (m : Int)) = true := decide_eq_true (by omega)
        have hwm : IntKind.i64.wrap ((m : Int) + 1) = (m : Int) + 1 := IntWalk.i64_in _ (by omega)
        have HF1 := Lib.hid f1
        clear f1 f2 hfz hcl
        go_wp2_with fail
        have d0 := fun d os => cell_regrown d0 d os
        have d1 := fun d os => cell_regrown d1 d os
        have d2 := fun d os => cell_regrown d2 d os
        refine wp_region_cha 10 8 [9] 89 #[.int .i64 0, .int .i64 0, .int .i64 0] 16 _ hmo (by decide) rfl rfl rfl (fun a w => rfl) (by kernel_rfl) ?_
        simp only [List.take_succ_cons, List.take_zero, List.drop_succ_cons, List.drop_zero]
        repeat (with_reducible refine wpC_q (by decide) (by decide) (fun K hK => ?_); go_simp; (try rw [if_neg (by simp [undef])]); refine hK _ ?_; clear hK K)
        refine wpC_a (by decide) ?_
        with_reducible refine wpC_vg (ι := Unit) (fun _ => .pointer (some ⟨ob, m * 3, none⟩)) (fun _ _ => True) (by decide) (by decide) (by go_simp) stable_true (fun _ => stable_true) (fun W _ _ => ⟨(), W, by go_simp, trivial, Below.refl _ _⟩) (fun i0 hs0 => ?_)
        refine wpC_nil ?_
        intro nb w5 hb5 _ hnb hN5
        clear d0 d1 d2 hs0
        have HM := Lib.hid hmk
        have z0 := hN5.cell 0
        have z1 := hN5.cell 1
        have z2 := hN5.cell 2
        have y0 := hN5.frozen 0
        have y1 := hN5.frozen 1
        have y2 := hN5.frozen 2
        simp only [List.getElem?_toArray, List.getElem?_cons_zero, List.getElem?_cons_succ] at z0 z1 z2
        go_wp2_with fail
        clear z0 z1 z2 y0 y1 y2
        have hzr := hbr.size
        have hnb2 : w2.heap.size ≤ nb := by omega
        have hnob : ¬ nb = ob := by omega
        have hnob2 : ¬ ob = nb := by omega
        have hfar : ∀ j a, some (⟨ob, 0, none⟩ : Addr) = some a → a.block ≠ (⟨nb, j, none⟩ : Addr).block := fun j a ha => by cases ha; exact hnob2
        obtain ⟨w6, hw6⟩ : ∃ w6, w6 = ((w5.setCell ⟨nb, 0, none⟩ (.int .i64 z)).setCell ⟨nb, 1, none⟩ (.int .i64 ye)).setCell ⟨nb, 2, none⟩ (.int .i64 yl) := ⟨_, rfl⟩
        have hO6 : OW paC 3 89 w2.heap.size w6 (some ⟨ob, 0, none⟩) ln c L := by rw [hw6]; exact (((hO.call hb5).setCell (p := ⟨nb, 0, none⟩) (hfar 0) _).setCell (p := ⟨nb, 1, none⟩) (hfar 1) _).setCell (p := ⟨nb, 2, none⟩) (hfar 2) _
        have hZ6 : BK w6 nb 89 #[.int .i64 z, .int .i64 ye, .int .i64 yl] := by rw [hw6]; exact ((hN5.set_ 0 _).set_ 1 _).set_ 2 _
        have hb6 : Below w2.heap.size w2 w6 := by rw [hw6]; exact (((hbr.trans (hb5.mono hzr)).setCell (p := ⟨nb, 0, none⟩) hnb2 _).setCell (p := ⟨nb, 1, none⟩) hnb2 _).setCell (p := ⟨nb, 2, none⟩) hnb2 _
        rw [← hw6]
        clear hw6 hO hN5 hb5 hbr hfar hnb hzr
        obtain ⟨ob', e0, hoblt, -, hfz, hcl⟩ := hO6.at_ paC_len _ rfl
        injection e0 with e0
        subst e0
        have c0 := hcl m _ HF1.out 0 _ rfl
        rw [show 0 + m * 3 + 0 = m * 3 by omega] at c0
        have c1 := hcl m _ HF1.out 1 _ rfl
        rw [show 0 + m * 3 + 1 = m * 3 + 1 by omega] at c1
        have z0 := hZ6.cell 0
        have z1 := hZ6.cell 1
        simp only [List.getElem?_toArray, List.getElem?_cons_zero, List.getElem?_cons_succ] at z0 z1
        have HTr := Lib.hid (HT2.out.grow hb6 hb6.size)
        have hlZ := hZ6.lt
        have hgl := HTr.out.lt
        clear hfz hcl
        have c0 := fun d os => cell_regrown c0 d os
        have c1 := fun d os => cell_regrown c1 d os
        have z0 := fun d os => cell_regrown z0 d os
        have z1 := fun d os => cell_regrown z1 d os
        have HGT := Lib.hid (fun d os => HTr.out.grow (below_regrown w6 d os) (below_regrown w6 d os).size)
        refine wp_region_ch 17 [14] hmo (by kernel_rfl) ?_
        simp only [List.take_succ_cons, List.take_zero, List.drop_succ_cons, List.drop_zero]
        repeat (with_reducible refine wpC_q (by decide) (by decide) (fun K hK => ?_); go_simp; (try rw [if_neg (by simp [undef])]); refine hK _ ?_; clear hK K)
        with_reducible refine wpC_cg (ι := Unit) 60 #[.pointer (some ⟨g, 0, none⟩), .int .i64 1, .int .i64 q, .int .i64 z] (fun _ => .int .i64 ds) (fun _ _ => True) (by decide) (by decide) (by go_simp) (fun w => by go_simp) stable_true (fun _ => stable_true) (fun W hW _ => ?_) (fun i0 hs0 => ?_)
        · obtain ⟨pp, rfl⟩ := hW
          refine (betw1_b q z g ta tc N S R _ (HGT.out _ _) HS.out HV.out hqN hzN).mono ?_
          rintro e w' ⟨rfl, hbl⟩
          exact ⟨(), by rw [HDS.out], trivial, hbl⟩
        repeat (with_reducible refine wpC_q (by decide) (by decide) (fun K hK => ?_); go_simp; (try rw [if_neg (by simp [undef])]); refine hK _ ?_; clear hK K)
        refine wpC_nil ?_
        intro w7 hb7 _
        clear c0 c1 z0 z1 HGT hs0
        have hO7 := hO6.call hb7
        have hZ7 := hZ6.below hb7 hlZ
        obtain ⟨ob', e0, hoblt, -, hfz, hcl⟩ := hO7.at_ paC_len _ rfl
        injection e0 with e0
        subst e0
        have c1 := hcl m _ HF1.out 1 _ rfl
        rw [show 0 + m * 3 + 1 = m * 3 + 1 by omega] at c1
        have f1 := hfz (m * 3 + 1)
        clear hcl hfz
        have hb7' := hb6.trans (hb7.mono hb6.size)
        go_wp2_with fail
        clear c1 f1
        have hmL : m < L.length := (List.getElem?_eq_some_iff.1 HF1.out).1
        have HF2 : Hid ((L.set m ⟨q, M1, xl⟩)[m]? = some ⟨q, M1, xl⟩) := by show _ = _; rw [List.getElem?_set_self hmL]
        obtain ⟨w8, hw8⟩ : ∃ w8, w8 = w7.setCell ⟨ob, m * 3 + 1, none⟩ (.int .i64 M1) := ⟨_, rfl⟩
        have hO8 : OW paC 3 89 w2.heap.size w8 (some ⟨ob, 0, none⟩) ln c (L.set m ⟨q, M1, xl⟩) := by rw [hw8]; exact OW.setF hO7 paC_len m 1 (y := ⟨q, M1, xl⟩) HF1.out (by omega) rfl
        have hZ8 : BK w8 nb 89 #[.int .i64 z, .int .i64 ye, .int .i64 yl] := by rw [hw8]; exact hZ7.far hnob _
        have hb8 : Below w2.heap.size w2 w8 := by rw [hw8]; exact hb7'.setCell (p := ⟨ob, m * 3 + 1, none⟩) hob2 _
        rw [← hw8]
        clear hw8 hO7 hZ7 hb7' hb7 hO6 hZ6 hb6 HTr hlZ hgl hmL hoblt
        obtain ⟨ob', e0, hoblt, -, hfz, hcl⟩ := hO8.at_ paC_len _ rfl
        injection e0 with e0
        subst e0
        have c0 := hcl m _ HF2.out 0 _ rfl
        rw [show 0 + m * 3 + 0 = m * 3 by omega] at c0
        have c2 := hcl m _ HF2.out 2 _ rfl
        rw [show 0 + m * 3 + 2 = m * 3 + 2 by omega] at c2
        have z0 := hZ8.cell 0
        have z2 := hZ8.cell 2
        simp only [List.getElem?_toArray, List.getElem?_cons_zero, List.getElem?_cons_succ] at z0 z2
        have HTr := Lib.hid (HT2.out.grow hb8 hb8.size)
        have hlZ := hZ8.lt
        have hgl := HTr.out.lt
        clear hfz hcl
        have c0 := fun d os => cell_regrown c0 d os
        have c2 := fun d os => cell_regrown c2 d os
        have z0 := fun d os => cell_regrown z0 d os
        have z2 := fun d os => cell_regrown z2 d os
        have HGT := Lib.hid (fun d os => HTr.out.grow (below_regrown w8 d os) (below_regrown w8 d os).size)
        refine wp_region_ch 17 [14] hmo (by kernel_rfl) ?_
        simp only [List.take_succ_cons, List.take_zero, List.drop_succ_cons, List.drop_zero]
        repeat (with_reducible refine wpC_q (by decide) (by decide) (fun K hK => ?_); go_simp; (try rw [if_neg (by simp [undef])]); refine hK _ ?_; clear hK K)
        with_reducible refine wpC_cg (ι := Unit) 60 #[.pointer (some ⟨g, 0, none⟩), .int .i64 0, .int .i64 q, .int .i64 z] (fun _ => .int .i64 dq) (fun _ _ => True) (by decide) (by decide) (by go_simp) (fun w => by go_simp) stable_true (fun _ => stable_true) (fun W hW _ => ?_) (fun i0 hs0 => ?_)
        · obtain ⟨pp, rfl⟩ := hW
          refine (betw0_b q z g ta tc N S R _ (HGT.out _ _) HS.out HV.out hqN hzN).mono ?_
          rintro e w' ⟨rfl, hbl⟩
          exact ⟨(), by rw [HDQ.out], trivial, hbl⟩
        repeat (with_reducible refine wpC_q (by decide) (by decide) (fun K hK => ?_); go_simp; (try rw [if_neg (by simp [undef])]); refine hK _ ?_; clear hK K)
        refine wpC_nil ?_
        intro w9 hb9 _
        clear c0 c2 z0 z2 HGT hs0
        have hO9 := hO8.call hb9
        obtain ⟨ob', e0, hoblt, -, hfz, hcl⟩ := hO9.at_ paC_len _ rfl
        injection e0 with e0
        subst e0
        have c2 := hcl m _ HF2.out 2 _ rfl
        rw [show 0 + m * 3 + 2 = m * 3 + 2 by omega] at c2
        have f2 := hfz (m * 3 + 2)
        clear hcl hfz
        have hb9' := hb8.trans (hb9.mono hb8.size)
        have HO10 : Hid (OW paC 3 89 w2.heap.size (w9.setCell ⟨ob, m * 3 + 2, none⟩ (.int .i64 M2)) (some ⟨ob, 0, none⟩) ln c (L.set m ⟨q, M1, M2⟩)) := by
          have h1 := OW.setF hO9 paC_len m 2 (y := ⟨q, M1, M2⟩) (v := .int .i64 M2) HF2.out (by omega) rfl
          rw [List.set_set] at h1
          exact h1
        have HB10 : Hid (Below w2.heap.size w2 (w9.setCell ⟨ob, m * 3 + 2, none⟩ (.int .i64 M2))) := hb9'.setCell (p := ⟨ob, m * 3 + 2, none⟩) hob2 _
        clear hO9 hb9' hb9 hO8 hZ8 hb8 HTr hlZ hgl hoblt
        have hwm1 : IntKind.i64.wrap ((m : Int) - 1) = (m : Int) - 1 := IntWalk.i64_in _ (by omega)
        go_wp2_with fail
        go_roundw
        case rel => exact ⟨k + 1, by have := HM.out; omega, by have := HM.out; first | rfl | (congr 1; omega), by rw [HST.out]; exact HO10.out, HB10.out⟩
        case measure => simp [intOf]
      have hke : k = ln - 1 := by omega
      rw [hke] at hO
      have gm : decide ((0 : Int) ≤ (ln : Int) - 2 - (k : Int)) = false := decide_eq_false (by omega)
      rw [← HOKF.out] at hO
      have hBr := hB2.trans (hbr.mono hB2.size)
      have HSO := Lib.hid (hO.sl paC_len)
      clear hO hbr
      go_wp2_with fail
      refine (nrC_any A ln c (nrwR S R ls) wr HSO.out (by omega)).mono ?_
      rintro e w10 ⟨rfl, hb10⟩
      have hBX := hBr.trans (hb10.mono hBr.size)
      have HSX := Lib.hid (HSO.out.grow hb10 hb10.size)
      cases hnk : nrwOk (nrwR S R ls)
      · have HE : Hid (nrwAll S R ls = ([], 5)) := by show _ = _; rw [HOK.out, hnk]; rfl
        clear hnk
        go_wp2_with fail
        refine bodyPost_ret (v := .tuple #[.slice none 0 0, .int .i64 5]) (by simp [results, Tryd.results45, go_sem]) rfl ⟨none, 0, 0, by rw [HE.out], by rw [HE.out]; exact SL.nil_, hBX⟩
      · have HE : Hid (nrwAll S R ls = (nrwR S R ls, 0)) := by show _ = _; rw [HOK.out, hnk]; rfl
        clear hnk
        go_wp2_with fail
        refine bodyPost_ret (v := .tuple #[.slice A ln c, .int .i64 0]) (by simp [results, Tryd.results45, go_sem]) rfl ⟨A, ln, c, by rw [HE.out], by rw [HE.out]; exact HSX.out, hBX⟩
end Go.Proofs.YtijcbfhlhgjedaaDoor
