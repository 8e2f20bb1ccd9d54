/- TopReversed, walked. Printed by genrevd.py. -/
import Derived.Test.YtcniibngfnkobaaGreatDoorTopN
import Derived.Test.YtcniibngfnkobaaGreatDoorRevT
import Derived.Test.YtcniibngfnkobaaGreatDoorRSmN
namespace Go.Proofs.YtcniibngfnkobaaGreatDoor
open Go.RowKit Go.Shelf Go.Sort Go.Proofs

theorem isV {L : List NoteR} (h : ∀ x ∈ L, nVal x = true) : L.all nVal = true := List.all_eq_true.2 h
theorem wr_ok {L : List NoteR} (h : ∀ x ∈ L, nVal x = true) (hl : L.length ≤ 400) : nWr L = (nJoin L, 0) ∧ noteRd (nJoin L) = .ok L := by
  have ha := isV h
  have h1 := nJoin_len L ha
  constructor
  · have h2 : nLE L = 0 := by unfold nLE; rw [if_neg (by omega), if_pos ha]
    unfold nWr
    rw [if_pos h2]
  · unfold noteRd
    rw [if_neg (by omega), show readB (nJoin L) = some L from read_write L ha]
    simp only
    rw [if_neg (by omega)]
theorem val_tu {x : NoteR} (h : nVal x = true) (hk : x.k = 1) : (-1 ≤ x.tu ∧ x.tu ≤ 1) ∧ -1 ≤ x.ch ∧ x.ch ≤ 1 := by
  unfold nVal at h
  rw [if_pos hk] at h
  have h2 := of_decide_eq_true h
  obtain ⟨⟨h3, -, -, h4⟩, -⟩ := h2
  omega
set_option maxRecDepth 100000 in
set_option maxHeartbeats 8000000 in
theorem LRevd_walk (pa : Option Addr) (pn pc : Nat) (ca : Option Addr) (cn cc : Nat) (ja : Option Addr) (jn jc : Nat) (R : Road) (A : Option Addr) (c : Nat) (b : BkR) (w : World) (hr : RD w w.heap.size pa pn ca cn ja jn R) (h : SL iC 1 w w.heap.size A b.gs.length b.gs) (_ : b.gs.length ≤ 9223372036854775807) (_ : pn ≤ 9223372036854775807) (ht : Lib.TabIs Tryz.prog w pow10N .u64 Lib.pow10Tab) :
    Calls Tryz.prog 3 #[.agg #[.slice pa pn pc, .slice ca cn cc, .slice ja jn jc], bkA A c b] w fun e w' => e = .returned (.bool true) ∧ Below w.heap.size w w' := by
  have hmo : Tryz.prog.follows .mixedOrders = true := by kernel_rfl
  obtain ⟨w0, hw0⟩ : ∃ w0, w0 = (w.alloc (.cells #[.slice pa pn pc, .slice ca cn cc, .slice ja jn jc] 26)).alloc (.cells #[.slice A b.gs.length c, .int .i64 b.sh, .int .i64 b.lo, .int .i64 b.ra, .int .i64 b.an, .int .i64 b.io, .int .i64 b.st, .int .i64 b.ga, .int .i64 b.le] 31) := ⟨_, rfl⟩
  have HX0 : Hid (BK w0 w.heap.size 26 #[.slice pa pn pc, .slice ca cn cc, .slice ja jn jc]) := by show BK _ _ _ _; rw [hw0]; exact (BK.new w _ _).alloc _
  have HM0 : Hid (BK w0 (w.heap.size + 1) 31 #[.slice A b.gs.length c, .int .i64 b.sh, .int .i64 b.lo, .int .i64 b.ra, .int .i64 b.an, .int .i64 b.io, .int .i64 b.st, .int .i64 b.ga, .int .i64 b.le]) := by show BK _ _ _ _; rw [hw0]; exact bk2 w _ _ _ _
  have HB0 : Hid (Below w.heap.size w w0) := by show Below _ _ _; rw [hw0]; exact ((Below.refl _ w).alloc (Nat.le_refl _) _).alloc (by simp) _
  have HR := Lib.hid hr
  have HS := Lib.hid h
  have HT := Lib.hid ht
  have hrd := fun (w1 : World) (h1 : Below w.heap.size w w1) => (⟨(HR.out.p.below h1).more h1.size, (HR.out.c.below h1).more h1.size, (HR.out.j.below h1).more h1.size⟩ : RD w1 w1.heap.size pa pn ca cn ja jn R)
  have HRD := Lib.hid hrd
  have hman := fun (w1 : World) (h1 : Below w.heap.size w w1) => rmanual_any b A c w1 ((HS.out.below h1).more h1.size)
  unfold bkA at hman
  have HMA := Lib.hid hman
  obtain ⟨m0, m1, m2, m3, m4, m5, m6, m7, m8⟩ := bk9 HM0.out
  obtain ⟨r0, r1, r2⟩ := roadbk HX0.out
  clear hr h ht hman hrd
  unfold bkA
  go_enter Tryz.func3, Tryz.ntmps3
  go_wp2_with fail
  rw [← hw0]
  clear hw0
  go_wp2_with fail
  refine (short_any pa pn pc ca cn cc ja jn jc R 2000 _ (HRD.out _ HB0.out)).mono ?_
  rintro e w1 ⟨ok, rfl, hok, hb⟩
  have HB1 := Lib.hid (HB0.out.trans (hb.mono HB0.out.size))
  have HX1 := Lib.hid (HX0.out.below hb HX0.out.lt)
  have HM1 := Lib.hid (HM0.out.below hb HM0.out.lt)
  clear hb m0 m1 m2 m3 m4 m5 m6 m7 m8 r0 r1 r2 HX0 HM0
  obtain ⟨m0, m1, m2, m3, m4, m5, m6, m7, m8⟩ := bk9 HM1.out
  obtain ⟨r0, r1, r2⟩ := roadbk HX1.out
  cases ok with
  | false =>
    clear hok
    go_wp2_with fail
    refine (known02_any _).mono ?_
    rintro e w9 ⟨rfl, hb9⟩
    go_wp2_with fail
    go_ret
    exact ⟨rfl, HB1.out.trans (hb9.mono HB1.out.size)⟩
  | true =>
  have HOK := Lib.hid (hok rfl).1
  have HSZ := Lib.hid (And.intro (hok rfl).2.1 (And.intro (hok rfl).2.2.1 (hok rfl).2.2.2.1))
  clear hok
  by_cases h8 : 8 < b.gs.length
  · have g8 : decide ((8 : Int) < (b.gs.length : Int)) = true := by simp; omega
    clear h8
    go_wp2_with fail
    refine (known02_any _).mono ?_
    rintro e w9 ⟨rfl, hb9⟩
    go_wp2_with fail
    go_ret
    exact ⟨rfl, HB1.out.trans (hb9.mono HB1.out.size)⟩
  have g8 : decide ((8 : Int) < (b.gs.length : Int)) = false := by simp; omega
  clear h8
  go_wp2_with fail
  refine (HMA.out _ HB1.out).mono ?_
  rintro e w2 ⟨ok, rfl, hok, hb⟩
  have HB2 := Lib.hid (HB1.out.trans (hb.mono HB1.out.size))
  have HX2 := Lib.hid (HX1.out.below hb HX1.out.lt)
  have HM2 := Lib.hid (HM1.out.below hb HM1.out.lt)
  clear hb m0 m1 m2 m3 m4 m5 m6 m7 m8 r0 r1 r2 HX1 HM1
  obtain ⟨m0, m1, m2, m3, m4, m5, m6, m7, m8⟩ := bk9 HM2.out
  obtain ⟨r0, r1, r2⟩ := roadbk HX2.out
  cases ok with
  | false =>
    clear hok
    go_wp2_with fail
    refine (known02_any _).mono ?_
    rintro e w9 ⟨rfl, hb9⟩
    go_wp2_with fail
    go_ret
    exact ⟨rfl, HB2.out.trans (hb9.mono HB2.out.size)⟩
  | true =>
  have HV := Lib.hid (hok.1 rfl)
  clear hok g8 HMA
  have hla : (makeL b R).length ≤ 400 := by have h1 := makeL_len (b := b) (R := R); have := HSZ.out; omega
  have hrl : (revR R).ps.length = R.ps.length ∧ (revR R).cs.length = R.cs.length ∧ (revR R).js.length = R.js.length := by unfold revR revC revJ; simp
  have hlb : (makeL b (revR R)).length ≤ 400 := by have h1 := makeL_len (b := b) (R := revR R); have := HSZ.out; omega
  have hvb := makeL_val HV.out (revR_ok HOK.out)
  have hva := makeL_val HV.out HOK.out
  have hwr := wr_ok hvb hlb
  have hcr := rev_corners (b := b) HOK.out
  have hmk := fun (w1 : World) (h1 : Below w.heap.size w w1) => nMake_ok b HV.out A c pa pn pc ca cn cc ja jn jc R HOK.out w1 (HRD.out w1 h1) ((HS.out.below h1).more h1.size)
  have hmk2 := fun (qa : Option Addr) (qc : Nat) (da : Option Addr) (dc : Nat) (ka : Option Addr) (kc : Nat) (w1 : World) (h1 : Below w.heap.size w w1) (h2 : RD w1 w1.heap.size qa pn da cn ka jn (revR R)) => nMake_ok b HV.out A c qa pn qc da cn dc ka jn kc (revR R) (revR_ok HOK.out) w1 h2 ((HS.out.below h1).more h1.size)
  unfold bkA at hmk hmk2
  obtain ⟨L, hL⟩ : ∃ L, makeL b R = L := ⟨_, rfl⟩
  obtain ⟨L2, hL2⟩ : ∃ L2, makeL b (revR R) = L2 := ⟨_, rfl⟩
  rw [hL] at hla hva hcr
  rw [hL2] at hlb hvb hwr hcr
  have HL := Lib.hid hL
  have HL2 := Lib.hid hL2
  have HLA := Lib.hid hla
  have HLB := Lib.hid hlb
  have HVV := Lib.hid hva
  have HWR := Lib.hid hwr
  have HCR := Lib.hid hcr
  have HMK := Lib.hid hmk
  have HMK2 := Lib.hid hmk2
  clear hla hrl hlb hvb hva hwr hcr hmk hmk2 hL hL2
  go_wp2_with fail
  refine (Reverse_in pa pn pc ca cn cc ja jn jc R _ (HRD.out _ HB2.out) HOK.out).mono ?_
  rintro e w3 ⟨qa, qc, da, dc, ka, kc, rfl, ⟨hO1, hO2, hO3⟩, hb⟩
  have HQ1 := Lib.hid (hO1.sl (fun _ => rfl))
  have HQ2 := Lib.hid (hO2.sl (fun _ => rfl))
  have HQ3 := Lib.hid (hO3.sl (fun _ => rfl))
  clear hO1 hO2 hO3
  have HB3 := Lib.hid (HB2.out.trans (hb.mono HB2.out.size))
  have HX3 := Lib.hid (HX2.out.below hb HX2.out.lt)
  have HM3 := Lib.hid (HM2.out.below hb HM2.out.lt)
  clear hb m0 m1 m2 m3 m4 m5 m6 m7 m8 r0 r1 r2 HX2 HM2
  obtain ⟨m0, m1, m2, m3, m4, m5, m6, m7, m8⟩ := bk9 HM3.out
  obtain ⟨r0, r1, r2⟩ := roadbk HX3.out
  have HB3' : Hid (Below w.heap.size w (w3.alloc (.cells #[.slice qa pn qc, .slice da cn dc, .slice ka jn kc] 26))) := HB3.out.alloc HB3.out.size _
  have HX3' := Lib.hid (HX3.out.alloc (.cells #[.slice qa pn qc, .slice da cn dc, .slice ka jn kc] 26))
  have HM3' := Lib.hid (HM3.out.alloc (.cells #[.slice qa pn qc, .slice da cn dc, .slice ka jn kc] 26))
  have HY3 : Hid (BK (w3.alloc (.cells #[.slice qa pn qc, .slice da cn dc, .slice ka jn kc] 26)) w3.heap.size 26 #[.slice qa pn qc, .slice da cn dc, .slice ka jn kc]) := BK.new w3 _ _
  have HQQ : Hid (∀ w1, Below w3.heap.size w3 w1 → RD w1 w1.heap.size qa pn da cn ka jn (revR R)) := fun w1 h1 => ⟨(HQ1.out.below h1).more h1.size, (HQ2.out.below h1).more h1.size, (HQ3.out.below h1).more h1.size⟩
  have HA3 : Hid (Below w3.heap.size w3 (w3.alloc (.cells #[.slice qa pn qc, .slice da cn dc, .slice ka jn kc] 26))) := (Below.refl _ w3).alloc (Nat.le_refl _) _
  obtain ⟨m0', m1', m2', m3', m4', m5', m6', m7', m8'⟩ := bk9 HM3'.out
  obtain ⟨r0', r1', r2'⟩ := roadbk HX3'.out
  obtain ⟨y0, y1, y2⟩ := roadbk HY3.out
  clear HQ1 HQ2 HQ3
  go_wp2_with fail
  refine (HMK.out _ HB3'.out).mono ?_
  rintro e w4 hRM
  obtain ⟨hb, LA, lc, rfl, hO⟩ := rm_ok2 (by rw [HL.out]; have := HLA.out; omega) hRM
  rw [HL.out] at hO ⊢
  have HSA4 := Lib.hid (hO.sl nC_len)
  have HB4 := Lib.hid (HB3'.out.trans (hb.mono HB3'.out.size))
  have HA4 := Lib.hid (HA3.out.trans (hb.mono HA3.out.size))
  have HM4 := Lib.hid (HM3'.out.below hb HM3'.out.lt)
  have HY4 := Lib.hid (HY3.out.below hb HY3.out.lt)
  clear hb hO hRM m0 m1 m2 m3 m4 m5 m6 m7 m8 r0 r1 r2 m0' m1' m2' m3' m4' m5' m6' m7' m8' r0' r1' r2' y0 y1 y2 HX3 HM3 HB3 HX3' HM3' HB3' HY3 HA3 HMK
  obtain ⟨m0, m1, m2, m3, m4, m5, m6, m7, m8⟩ := bk9 HM4.out
  obtain ⟨y0, y1, y2⟩ := roadbk HY4.out
  go_wp2_with fail
  refine (HMK2.out qa qc da dc ka kc _ HB4.out (HQQ.out _ HA4.out)).mono ?_
  rintro e w5 hRM
  obtain ⟨hb, LB, lc2, rfl, hO⟩ := rm_ok2 (by rw [HL2.out]; have := HLB.out; omega) hRM
  rw [HL2.out] at hO ⊢
  have HSB5 := Lib.hid (hO.sl nC_len)
  have HSA5 := Lib.hid (HSA4.out.grow hb hb.size)
  have HB5 := Lib.hid (HB4.out.trans (hb.mono HB4.out.size))
  have HT5 := Lib.hid (pow10_stays HT.out HB5.out (Nat.le_refl _))
  clear hb hO hRM m0 m1 m2 m3 m4 m5 m6 m7 m8 y0 y1 y2 HSA4 HB4 HA4 HM4 HY4 HMK2 HQQ
  go_wp2_with fail
  refine (nwrite_any LB L2.length lc2 L2 _ HSB5.out HT5.out).mono ?_
  rintro e w6 ⟨rfl, hb⟩
  rw [HWR.out.1]
  have HB6 := Lib.hid (HB5.out.trans (hb.mono HB5.out.size))
  have HSA6 := Lib.hid (HSA5.out.grow hb hb.size)
  have HSB6 := Lib.hid (HSB5.out.grow hb hb.size)
  clear hb HSA5 HSB5 HB5 HT5
  go_wp2_with fail
  refine (nread_any (nJoin L2) _).mono ?_
  rintro e w7 hRR
  obtain ⟨hb, LC, lc3, rfl, hO⟩ := rd_ok2 HWR.out.2 hRR
  have HSC7 := Lib.hid (hO.sl nC_len)
  have HB7 := Lib.hid (HB6.out.trans (hb.mono HB6.out.size))
  have HSA7 := Lib.hid (HSA6.out.grow hb hb.size)
  have HSB7 := Lib.hid (HSB6.out.grow hb hb.size)
  clear hb hO hRR HSA6 HSB6 HB6
  go_wp2_with fail
  refine (rsame_any LC L2.length lc3 L2 LB L2.length lc2 L2 _ HSC7.out HSB7.out (by have := HLB.out; omega)).mono ?_
  rintro e w8 ⟨rfl, hb⟩
  rw [show decide (L2 = L2) = true from decide_eq_true rfl]
  have HB8 := Lib.hid (HB7.out.trans (hb.mono HB7.out.size))
  have HSA8 := Lib.hid (HSA7.out.grow hb hb.size)
  have HSB8 := Lib.hid (HSB7.out.grow hb hb.size)
  clear hb HSA7 HSB7 HSC7 HB7
  go_wp2_with fail
  refine (tcorn_any LA L.length lc L _ HSA8.out (by have := HLA.out; omega)).mono ?_
  rintro e w9 ⟨XA, xc, rfl, hO, hb⟩
  have HSX9 := Lib.hid (hO.sl nC_len)
  have HB9 := Lib.hid (HB8.out.trans (hb.mono HB8.out.size))
  have HSB9 := Lib.hid (HSB8.out.grow hb hb.size)
  clear hb hO HSA8 HSB8 HB8
  go_wp2_with fail
  refine (tcorn_any LB L2.length lc2 L2 _ HSB9.out (by have := HLB.out; omega)).mono ?_
  rintro e wt ⟨YA, yc, rfl, hO, hb⟩
  have HSYt := Lib.hid (hO.sl nC_len)
  have HBt := Lib.hid (HB9.out.trans (hb.mono HB9.out.size))
  have HSXt := Lib.hid (HSX9.out.grow hb hb.size)
  clear hb hO HSX9 HSB9 HB9
  obtain ⟨X, hX⟩ : ∃ X, L.filter (isK 1) = X := ⟨_, rfl⟩
  have hXv : ∀ x ∈ X, nVal x = true ∧ x.k = 1 := fun x hx => by
    rw [← hX] at hx
    obtain ⟨h1, h2⟩ := List.mem_filter.1 hx
    exact ⟨HVV.out x h1, of_decide_eq_true h2⟩
  have hYX := HCR.out
  rw [hX] at hYX HSXt ⊢
  rw [hYX] at HSYt ⊢
  have hxl : X.length ≤ 400 := by rw [← hX]; exact Nat.le_trans (List.length_filter_le _ _) HLA.out
  have hyl : ((X.map mirN).reverse).length = X.length := by simp
  rw [hyl] at HSYt ⊢
  obtain ⟨n, hn⟩ : ∃ n, n = X.length := ⟨_, rfl⟩
  rw [← hn] at HSXt HSYt hxl ⊢
  have HN := Lib.hid hn
  have HXV := Lib.hid hXv
  have gl : ((n : Int) != (n : Int)) = false := by simp
  clear hX hXv hYX hyl hn HCR HWR
  go_wp2_with fail
  clear gl
  go_loopw [17, 18] (fun iv _ wr => ∃ k : Nat, k ≤ n ∧ iv = .int .i64 (k : Nat) ∧ Below wt.heap.size wt wr) (fun iv _ _ => n - (intOf iv).toNat)
  case atStart => exact ⟨0, Nat.zero_le _, rfl, Below.refl _ _⟩
  case round =>
    obtain ⟨k, hk, rfl, hbr⟩ := hrel
    have HBr := Lib.hid hbr
    clear hbr
    by_cases hkn : k < n
    case neg =>
      obtain rfl : k = n := by omega
      have gk : decide ((k : Int) < (k : Int)) = false := by simp
      have HBe := Lib.hid (HBt.out.trans (HBr.out.mono HBt.out.size))
      go_wp2_with fail
      refine (known02_any _).mono ?_
      rintro e w9 ⟨rfl, hb9⟩
      go_wp2_with fail
      go_ret
      exact ⟨rfl, HBe.out.trans (hb9.mono HBe.out.size)⟩
    have gk : decide ((k : Int) < (n : Int)) = true := by simp; omega
    have gkN : decide (k < n) = true := decide_eq_true hkn
    obtain ⟨j, hj⟩ : ∃ j, j = n - 1 - k := ⟨_, rfl⟩
    have hjn : j < n := by omega
    have u1 : IntKind.i64.wrap ((n : Int) - 1) = (n : Int) - 1 := IntWalk.i64_in _ (by omega)
    have u2 : IntKind.i64.wrap ((n : Int) - 1 - (k : Int)) = (j : Int) := by rw [show (n : Int) - 1 - (k : Int) = (j : Int) by omega]; exact IntWalk.i64_in _ (by omega)
    have gj0 : (0 : Int) ≤ (j : Int) := by omega
    have gj : (j : Int) < (n : Int) := by omega
    have gkk : (k : Int) < (n : Int) := by omega
    have hjl : j < X.length := by rw [← HN.out]; exact hjn
    have hyl : k < ((X.map mirN).reverse).length := by simp; rw [← HN.out]; exact hkn
    have hy : ((X.map mirN).reverse)[k]'hyl = mirN (X[j]'hjl) := by
      rw [List.getElem_reverse, List.getElem_map]
      congr 1
      simp only [List.length_map, hj, HN.out]
    obtain ⟨xb, xo, hxA, hxB, c0, c1, c2, c3, c4, c5, c6, c7, c8, c9⟩ := NS.at_ (HSXt.out.below HBr.out) hjl
    obtain ⟨yb, yo, hyA, hyB, d0, d1, d2, d3, d4, d5, d6, d7, d8, d9⟩ := NS.at_ (HSYt.out.below HBr.out) hyl
    rw [hy] at d0 d1 d2 d3 d4 d5 d6 d7 d8 d9
    have hxv := HXV.out _ (List.getElem_mem hjl)
    generalize X[j]'hjl = x at *
    have hbt := val_tu hxv.1 hxv.2
    subst hxA hyA
    have u3 : IntKind.i64.wrap (-x.tu) = -x.tu := IntWalk.i64_in _ (by omega)
    have u4 : IntKind.i64.wrap (-x.ch) = -x.ch := IntWalk.i64_in _ (by omega)
    have hws := HBr.out.size
    clear hj hjl hyl hy hxv hbt
    by_cases hch : x.ch = 0
    · have gch : (x.ch != 0) = false := by simpa using hch
      have hmi : mirN x = ⟨x.k, -x.tu, x.gr, x.lo, x.ch, x.ton, x.me, x.si, x.wa, x.ar⟩ := by unfold mirN; rw [if_neg (by simpa using hch)]
      rw [hmi] at d0 d1 d2 d3 d4 d5 d6 d7 d8 d9
      dsimp only at d0 d1 d2 d3 d4 d5 d6 d7 d8 d9
      clear hmi hch
      go_wp2_with fail
      obtain ⟨wu, hwu⟩ : ∃ wu, wu = wr.alloc (.cells #[.int .i64 x.k, .int .i64 (-x.tu), .int .i64 x.gr, .int .i64 x.lo, .int .i64 x.ch, .int .i64 x.ton, .int .i64 x.me, .int .i64 x.si, .int .i64 x.wa, .int .i64 x.ar] 48) := ⟨_, rfl⟩
      have HU : BK wu wr.heap.size 48 #[.int .i64 x.k, .int .i64 (-x.tu), .int .i64 x.gr, .int .i64 x.lo, .int .i64 x.ch, .int .i64 x.ton, .int .i64 x.me, .int .i64 x.si, .int .i64 x.wa, .int .i64 x.ar] := by rw [hwu]; exact BK.new wr _ _
      have HBu : Hid (Below wt.heap.size wt wu) := by show Below _ _ _; rw [hwu]; exact HBr.out.alloc hws _
      have d0 : wu.cell? ⟨yb, yo + k * 10, none⟩ = some (.int .i64 x.k) := by rw [hwu]; exact ((World.cell?_of_block (w := wr) (a := ⟨yb, yo + k * 10, none⟩) (Below.heap_alloc wr _ yb (by show yb < _; omega)))).trans d0
      have d1 : wu.cell? ⟨yb, yo + k * 10 + 1, none⟩ = some (.int .i64 (-x.tu)) := by rw [hwu]; exact ((World.cell?_of_block (w := wr) (a := ⟨yb, yo + k * 10 + 1, none⟩) (Below.heap_alloc wr _ yb (by show yb < _; omega)))).trans d1
      have d2 : wu.cell? ⟨yb, yo + k * 10 + 2, none⟩ = some (.int .i64 x.gr) := by rw [hwu]; exact ((World.cell?_of_block (w := wr) (a := ⟨yb, yo + k * 10 + 2, none⟩) (Below.heap_alloc wr _ yb (by show yb < _; omega)))).trans d2
      have d3 : wu.cell? ⟨yb, yo + k * 10 + 3, none⟩ = some (.int .i64 x.lo) := by rw [hwu]; exact ((World.cell?_of_block (w := wr) (a := ⟨yb, yo + k * 10 + 3, none⟩) (Below.heap_alloc wr _ yb (by show yb < _; omega)))).trans d3
      have d4 : wu.cell? ⟨yb, yo + k * 10 + 4, none⟩ = some (.int .i64 x.ch) := by rw [hwu]; exact ((World.cell?_of_block (w := wr) (a := ⟨yb, yo + k * 10 + 4, none⟩) (Below.heap_alloc wr _ yb (by show yb < _; omega)))).trans d4
      have d5 : wu.cell? ⟨yb, yo + k * 10 + 5, none⟩ = some (.int .i64 x.ton) := by rw [hwu]; exact ((World.cell?_of_block (w := wr) (a := ⟨yb, yo + k * 10 + 5, none⟩) (Below.heap_alloc wr _ yb (by show yb < _; omega)))).trans d5
      have d6 : wu.cell? ⟨yb, yo + k * 10 + 6, none⟩ = some (.int .i64 x.me) := by rw [hwu]; exact ((World.cell?_of_block (w := wr) (a := ⟨yb, yo + k * 10 + 6, none⟩) (Below.heap_alloc wr _ yb (by show yb < _; omega)))).trans d6
      have d7 : wu.cell? ⟨yb, yo + k * 10 + 7, none⟩ = some (.int .i64 x.si) := by rw [hwu]; exact ((World.cell?_of_block (w := wr) (a := ⟨yb, yo + k * 10 + 7, none⟩) (Below.heap_alloc wr _ yb (by show yb < _; omega)))).trans d7
      have d8 : wu.cell? ⟨yb, yo + k * 10 + 8, none⟩ = some (.int .i64 x.wa) := by rw [hwu]; exact ((World.cell?_of_block (w := wr) (a := ⟨yb, yo + k * 10 + 8, none⟩) (Below.heap_alloc wr _ yb (by show yb < _; omega)))).trans d8
      have d9 : wu.cell? ⟨yb, yo + k * 10 + 9, none⟩ = some (.int .i64 x.ar) := by rw [hwu]; exact ((World.cell?_of_block (w := wr) (a := ⟨yb, yo + k * 10 + 9, none⟩) (Below.heap_alloc wr _ yb (by show yb < _; omega)))).trans d9
      rw [← hwu]
      obtain ⟨n0, n1, n2, n3, n4, n5, n6, n7, n8, n9⟩ := bk10 HU
      clear hwu HU c0 c1 c2 c3 c4 c5 c6 c7 c8 c9
      go_quiet (fail)
      go_wp2_with fail
      go_roundw
      case rel => exact ⟨k + 1, by omega, by go_num, below_drewN HBu.out _⟩
      case measure => simp [intOf]; omega
    · have gch : (x.ch != 0) = true := by simpa using hch
      have hmi : mirN x = ⟨x.k, -x.tu, x.ton, x.lo, -x.ch, x.gr, x.me, x.si, x.wa, x.ar⟩ := by unfold mirN; rw [if_pos hch]
      rw [hmi] at d0 d1 d2 d3 d4 d5 d6 d7 d8 d9
      dsimp only at d0 d1 d2 d3 d4 d5 d6 d7 d8 d9
      clear hmi hch
      go_wp2_with fail
      obtain ⟨wu, hwu⟩ : ∃ wu, wu = wr.alloc (.cells #[.int .i64 x.k, .int .i64 (-x.tu), .int .i64 x.ton, .int .i64 x.lo, .int .i64 (-x.ch), .int .i64 x.gr, .int .i64 x.me, .int .i64 x.si, .int .i64 x.wa, .int .i64 x.ar] 48) := ⟨_, rfl⟩
      have HU : BK wu wr.heap.size 48 #[.int .i64 x.k, .int .i64 (-x.tu), .int .i64 x.ton, .int .i64 x.lo, .int .i64 (-x.ch), .int .i64 x.gr, .int .i64 x.me, .int .i64 x.si, .int .i64 x.wa, .int .i64 x.ar] := by rw [hwu]; exact BK.new wr _ _
      have HBu : Hid (Below wt.heap.size wt wu) := by show Below _ _ _; rw [hwu]; exact HBr.out.alloc hws _
      have d0 : wu.cell? ⟨yb, yo + k * 10, none⟩ = some (.int .i64 x.k) := by rw [hwu]; exact ((World.cell?_of_block (w := wr) (a := ⟨yb, yo + k * 10, none⟩) (Below.heap_alloc wr _ yb (by show yb < _; omega)))).trans d0
      have d1 : wu.cell? ⟨yb, yo + k * 10 + 1, none⟩ = some (.int .i64 (-x.tu)) := by rw [hwu]; exact ((World.cell?_of_block (w := wr) (a := ⟨yb, yo + k * 10 + 1, none⟩) (Below.heap_alloc wr _ yb (by show yb < _; omega)))).trans d1
      have d2 : wu.cell? ⟨yb, yo + k * 10 + 2, none⟩ = some (.int .i64 x.ton) := by rw [hwu]; exact ((World.cell?_of_block (w := wr) (a := ⟨yb, yo + k * 10 + 2, none⟩) (Below.heap_alloc wr _ yb (by show yb < _; omega)))).trans d2
      have d3 : wu.cell? ⟨yb, yo + k * 10 + 3, none⟩ = some (.int .i64 x.lo) := by rw [hwu]; exact ((World.cell?_of_block (w := wr) (a := ⟨yb, yo + k * 10 + 3, none⟩) (Below.heap_alloc wr _ yb (by show yb < _; omega)))).trans d3
      have d4 : wu.cell? ⟨yb, yo + k * 10 + 4, none⟩ = some (.int .i64 (-x.ch)) := by rw [hwu]; exact ((World.cell?_of_block (w := wr) (a := ⟨yb, yo + k * 10 + 4, none⟩) (Below.heap_alloc wr _ yb (by show yb < _; omega)))).trans d4
      have d5 : wu.cell? ⟨yb, yo + k * 10 + 5, none⟩ = some (.int .i64 x.gr) := by rw [hwu]; exact ((World.cell?_of_block (w := wr) (a := ⟨yb, yo + k * 10 + 5, none⟩) (Below.heap_alloc wr _ yb (by show yb < _; omega)))).trans d5
      have d6 : wu.cell? ⟨yb, yo + k * 10 + 6, none⟩ = some (.int .i64 x.me) := by rw [hwu]; exact ((World.cell?_of_block (w := wr) (a := ⟨yb, yo + k * 10 + 6, none⟩) (Below.heap_alloc wr _ yb (by show yb < _; omega)))).trans d6
      have d7 : wu.cell? ⟨yb, yo + k * 10 + 7, none⟩ = some (.int .i64 x.si) := by rw [hwu]; exact ((World.cell?_of_block (w := wr) (a := ⟨yb, yo + k * 10 + 7, none⟩) (Below.heap_alloc wr _ yb (by show yb < _; omega)))).trans d7
      have d8 : wu.cell? ⟨yb, yo + k * 10 + 8, none⟩ = some (.int .i64 x.wa) := by rw [hwu]; exact ((World.cell?_of_block (w := wr) (a := ⟨yb, yo + k * 10 + 8, none⟩) (Below.heap_alloc wr _ yb (by show yb < _; omega)))).trans d8
      have d9 : wu.cell? ⟨yb, yo + k * 10 + 9, none⟩ = some (.int .i64 x.ar) := by rw [hwu]; exact ((World.cell?_of_block (w := wr) (a := ⟨yb, yo + k * 10 + 9, none⟩) (Below.heap_alloc wr _ yb (by show yb < _; omega)))).trans d9
      rw [← hwu]
      obtain ⟨n0, n1, n2, n3, n4, n5, n6, n7, n8, n9⟩ := bk10 HU
      clear hwu HU c0 c1 c2 c3 c4 c5 c6 c7 c8 c9
      go_quiet (fail)
      go_wp2_with fail
      go_roundw
      case rel => exact ⟨k + 1, by omega, by go_num, below_drewN HBu.out _⟩
      case measure => simp [intOf]; omega
end Go.Proofs.YtcniibngfnkobaaGreatDoor
