/- NoteTells, walked. Printed by gentells.py. -/
import Derived.Test.YtnmipejpjeakbaaGreatDoorTellP
import Derived.Test.YtnmipejpjeakbaaGreatDoorNLw
import Derived.Test.YtnmipejpjeakbaaGreatDoorSml2
import Derived.Test.YtnmipejpjeakbaaGreatDoorVAll
namespace Go.Proofs.YtnmipejpjeakbaaGreatDoor
open Go.RowKit Go.Shelf Go.Sort Go.Proofs

/-- How many of the first notes are of a kind. -/
def cntK (q : Int) (L : List NoteR) (i : Nat) : Nat := (L.take i).countP (isK q)
theorem cntK_succ (q : Int) (L : List NoteR) (i : Nat) (hi : i < L.length) : cntK q L (i + 1) = cntK q L i + (if L[i].k = q then 1 else 0) := by
  unfold cntK
  rw [countP_take_succ _ _ _ hi]
  unfold isK
  simp
theorem cntK_zero (q : Int) (L : List NoteR) : cntK q L 0 = 0 := rfl
theorem cntK_all (q : Int) (L : List NoteR) : cntK q L L.length = (L.filter (isK q)).length := by
  unfold cntK
  rw [List.take_length, List.countP_eq_length_filter]
theorem tell_of {α : Type} {q : Int} {L : List NoteR} {xs : List α} {f : α → NoteR} (h : L.filter (isK q) = xs.map f) {i : Nat} (hi : i < L.length) (hk : L[i].k = q) : ∃ x, xs[cntK q L i]? = some x ∧ f x = L[i] := by
  have h1 := filter_at (isK q) L i hi (by unfold isK; rw [hk]; simp)
  rw [h, List.getElem?_map] at h1
  exact Option.map_eq_some_iff.1 h1
set_option maxRecDepth 100000 in
set_option maxHeartbeats 8000000 in
theorem LTells_walk (pa : Option Addr) (pn pc : Nat) (ca : Option Addr) (cn cc : Nat) (ja : Option Addr) (jn jc : Nat) (R : Road) (A : Option Addr) (c : Nat) (b : BkR) (w : World) (hr : RD w w.heap.size pa pn ca cn ja jn R) (h : SL iC 1 w w.heap.size A b.gs.length b.gs) (_ : b.gs.length ≤ 9223372036854775807) (_ : pn ≤ 9223372036854775807) (ht : Lib.TabIs Tryz.prog w pow10N .u64 Lib.pow10Tab) :
    Calls Tryz.prog 8 #[.agg #[.slice pa pn pc, .slice ca cn cc, .slice ja jn jc], bkA A c b] w fun e w' => e = .returned (.bool true) ∧ Below w.heap.size w w' := by
  have hmo : Tryz.prog.follows .mixedOrders = true := by kernel_rfl
  obtain ⟨w0, hw0⟩ : ∃ w0, w0 = (w.alloc (.cells #[.slice pa pn pc, .slice ca cn cc, .slice ja jn jc] 63)).alloc (.cells #[.slice A b.gs.length c, .int .i64 b.sh, .int .i64 b.lo, .int .i64 b.ra, .int .i64 b.an, .int .i64 b.io, .int .i64 b.st, .int .i64 b.ga, .int .i64 b.le] 50) := ⟨_, rfl⟩
  have HX0 : Hid (BK w0 w.heap.size 63 #[.slice pa pn pc, .slice ca cn cc, .slice ja jn jc]) := by show BK _ _ _ _; rw [hw0]; exact (BK.new w _ _).alloc _
  have HM0 : Hid (BK w0 (w.heap.size + 1) 50 #[.slice A b.gs.length c, .int .i64 b.sh, .int .i64 b.lo, .int .i64 b.ra, .int .i64 b.an, .int .i64 b.io, .int .i64 b.st, .int .i64 b.ga, .int .i64 b.le]) := by show BK _ _ _ _; rw [hw0]; exact bk2 w _ _ _ _
  have HB0 : Hid (Below w.heap.size w w0) := by show Below _ _ _; rw [hw0]; exact ((Below.refl _ w).alloc (Nat.le_refl _) _).alloc (by simp) _
  have HR := Lib.hid hr
  have HS := Lib.hid h
  have HT := Lib.hid ht
  have hsml := fun (w1 : World) (h1 : Below w.heap.size w w1) => sml2_any pa pn pc ca cn cc ja jn jc R w1 ⟨(HR.out.p.below h1).more h1.size, (HR.out.c.below h1).more h1.size, (HR.out.j.below h1).more h1.size⟩
  have hval := fun (w1 : World) (h1 : Below w.heap.size w w1) => Valid_any pa pn pc ca cn cc ja jn jc R w1 ⟨(HR.out.p.below h1).more h1.size, (HR.out.c.below h1).more h1.size, (HR.out.j.below h1).more h1.size⟩
  have hfew := fun (w1 : World) => few2_any b A c w1
  have hman := fun (w1 : World) (h1 : Below w.heap.size w w1) => rmanual_any b A c w1 ((HS.out.below h1).more h1.size)
  unfold bkA at hfew hman
  have HSM := Lib.hid hsml
  have HVA := Lib.hid hval
  have HFW := Lib.hid hfew
  have HMA := Lib.hid hman
  obtain ⟨m0, m1, m2, m3, m4, m5, m6, m7, m8⟩ := bk9 HM0.out
  obtain ⟨r0, r1, r2⟩ := roadbk HX0.out
  clear hr h ht hsml hval hfew hman
  unfold bkA
  go_enter Tryz.func8, Tryz.ntmps8
  go_wp2_with fail
  rw [← hw0]
  clear hw0
  go_wp2_with fail
  refine (HSM.out _ HB0.out).mono ?_
  rintro e w1 ⟨ok, rfl, hok, hb⟩
  have HB1 := Lib.hid (HB0.out.trans (hb.mono HB0.out.size))
  have HX1 := Lib.hid (HX0.out.below hb HX0.out.lt)
  have HM1 := Lib.hid (HM0.out.below hb HM0.out.lt)
  have HT1 := Lib.hid (pow10_stays HT.out HB1.out (Nat.le_refl _))
  clear hb m0 m1 m2 m3 m4 m5 m6 m7 m8 r0 r1 r2 HX0 HM0
  obtain ⟨m0, m1, m2, m3, m4, m5, m6, m7, m8⟩ := bk9 HM1.out
  obtain ⟨r0, r1, r2⟩ := roadbk HX1.out
  cases ok with
  | false =>
    clear hok
    go_wp2_with fail
    refine (known2_any _ HT1.out).mono ?_
    rintro e w9 ⟨rfl, hb9⟩
    go_wp2_with fail
    go_ret
    exact ⟨rfl, HB1.out.trans (hb9.mono HB1.out.size)⟩
  | true =>
  have HSZ := Lib.hid (hok rfl)
  clear hok
  go_wp2_with fail
  refine (HFW.out _).mono ?_
  rintro e w2 ⟨rfl, hb⟩
  have HB2 := Lib.hid (HB1.out.trans (hb.mono HB1.out.size))
  have HX2 := Lib.hid (HX1.out.below hb HX1.out.lt)
  have HM2 := Lib.hid (HM1.out.below hb HM1.out.lt)
  have HT2 := Lib.hid (pow10_stays HT.out HB2.out (Nat.le_refl _))
  clear hb m0 m1 m2 m3 m4 m5 m6 m7 m8 r0 r1 r2 HX1 HM1
  obtain ⟨m0, m1, m2, m3, m4, m5, m6, m7, m8⟩ := bk9 HM2.out
  obtain ⟨r0, r1, r2⟩ := roadbk HX2.out
  cases hf : decide (b.gs.length ≤ 12) with
  | false =>
    clear hf
    go_wp2_with fail
    refine (known2_any _ HT2.out).mono ?_
    rintro e w9 ⟨rfl, hb9⟩
    go_wp2_with fail
    go_ret
    exact ⟨rfl, HB2.out.trans (hb9.mono HB2.out.size)⟩
  | true =>
  clear hf
  go_wp2_with fail
  refine (HVA.out _ HB2.out).mono ?_
  rintro e w3 ⟨rfl, hb⟩
  have HB3 := Lib.hid (HB2.out.trans (hb.mono HB2.out.size))
  have HX3 := Lib.hid (HX2.out.below hb HX2.out.lt)
  have HM3 := Lib.hid (HM2.out.below hb HM2.out.lt)
  have HT3 := Lib.hid (pow10_stays HT.out HB3.out (Nat.le_refl _))
  clear hb m0 m1 m2 m3 m4 m5 m6 m7 m8 r0 r1 r2 HX2 HM2
  obtain ⟨m0, m1, m2, m3, m4, m5, m6, m7, m8⟩ := bk9 HM3.out
  obtain ⟨r0, r1, r2⟩ := roadbk HX3.out
  cases hv : val R with
  | false =>
    clear hv
    go_wp2_with fail
    refine (known2_any _ HT3.out).mono ?_
    rintro e w9 ⟨rfl, hb9⟩
    go_wp2_with fail
    go_ret
    exact ⟨rfl, HB3.out.trans (hb9.mono HB3.out.size)⟩
  | true =>
  have HOK := Lib.hid ((val_iff R).1 hv)
  clear hv
  go_wp2_with fail
  refine (HMA.out _ HB3.out).mono ?_
  rintro e w4 ⟨ok, rfl, hok, hb⟩
  have HB4 := Lib.hid (HB3.out.trans (hb.mono HB3.out.size))
  have HX4 := Lib.hid (HX3.out.below hb HX3.out.lt)
  have HM4 := Lib.hid (HM3.out.below hb HM3.out.lt)
  have HT4 := Lib.hid (pow10_stays HT.out HB4.out (Nat.le_refl _))
  clear hb m0 m1 m2 m3 m4 m5 m6 m7 m8 r0 r1 r2 HX3 HM3
  obtain ⟨m0, m1, m2, m3, m4, m5, m6, m7, m8⟩ := bk9 HM4.out
  obtain ⟨r0, r1, r2⟩ := roadbk HX4.out
  cases ok with
  | false =>
    clear hok
    go_wp2_with fail
    refine (known2_any _ HT4.out).mono ?_
    rintro e w9 ⟨rfl, hb9⟩
    go_wp2_with fail
    go_ret
    exact ⟨rfl, HB4.out.trans (hb9.mono HB4.out.size)⟩
  | true =>
  have HV := Lib.hid (hok.1 rfl)
  clear hok HSM HVA HFW HMA HT1 HT2 HT3
  obtain ⟨L, hL⟩ : ∃ L, makeL b R = L := ⟨_, rfl⟩
  obtain ⟨K, hKc⟩ : ∃ K, crns b.ga b.le R = K := ⟨_, rfl⟩
  have hlen : L.length ≤ 120 := by have h1 := makeL_len (b := b) (R := R); have := HSZ.out; rw [hL] at h1; omega
  have hF1 : L.filter (isK 1) = K.map (cornN b) := by rw [← hL, ← hKc]; exact makeL_corners HOK.out
  have hF5 : L.filter (isK 5) = R.cs.map cNt := by rw [← hL]; exact makeL_crests HOK.out
  have hF7 : L.filter (isK 7) = R.js.map jNt := by rw [← hL]; exact makeL_ways HOK.out
  have hTell : ∀ k ∈ K, nVal (cornN b k) = true ∧ (cornN b k).tu = k.turn ∧ ∃ m, meanN b (cornN b k) = some m ∧ m.an ≤ k.ang ∧ (m.mo < 10000 → k.ang ≤ m.mo) ∧ ((cornN b k).ch = 0 → m.fr ≤ k.rad ∧ k.rad ≤ m.to_) := by rw [← hKc]; exact fun k hk => corn_tell HV.out HOK.out hk
  have hmk := fun (w1 : World) (h1 : Below w.heap.size w w1) => nMake_ok b HV.out A c pa pn pc ca cn cc ja jn jc R HOK.out w1 ⟨(HR.out.p.below h1).more h1.size, (HR.out.c.below h1).more h1.size, (HR.out.j.below h1).more h1.size⟩ ((HS.out.below h1).more h1.size)
  have hco := fun (w1 : World) (h1 : Below w.heap.size w w1) => Corners_in b.ga b.le pa pn pc ca cn cc ja jn jc R w1 ⟨(HR.out.p.below h1).more h1.size, (HR.out.c.below h1).more h1.size, (HR.out.j.below h1).more h1.size⟩ HOK.out (by have := HV.out.ga1; have := HV.out.ga2; have := HV.out.le1; have := HV.out.le2; simp [bendsOk', inR]; omega)
  unfold bkA at hmk
  rw [hKc] at hco
  have HMK := Lib.hid hmk
  have HCO := Lib.hid hco
  have HLEN := Lib.hid hlen
  have HF1 := Lib.hid hF1
  have HF5 := Lib.hid hF5
  have HF7 := Lib.hid hF7
  have HTELL := Lib.hid hTell
  have HLR := Lib.hid hL
  clear hmk hco hlen hF1 hF5 hF7 hTell hL hKc
  go_wp2_with fail
  refine (HMK.out _ HB4.out).mono ?_
  rintro e w5 hR
  obtain ⟨hb, LA, lc, rfl, hO⟩ := rm_ok (by rw [HLR.out]; have := HLEN.out; omega) hR
  rw [HLR.out] at hO ⊢
  have hSL := hO.sl nC_len
  have HSL := Lib.hid hSL
  have HB5 := Lib.hid (HB4.out.trans (hb.mono HB4.out.size))
  have HX5 := Lib.hid (HX4.out.below hb HX4.out.lt)
  have HM5 := Lib.hid (HM4.out.below hb HM4.out.lt)
  clear hb m0 m1 m2 m3 m4 m5 m6 m7 m8 r0 r1 r2 HX4 HM4
  obtain ⟨m0, m1, m2, m3, m4, m5, m6, m7, m8⟩ := bk9 HM5.out
  obtain ⟨r0, r1, r2⟩ := roadbk HX5.out
  clear hR hO hSL HMK
  go_wp2_with fail
  refine (HCO.out _ HB5.out).mono ?_
  rintro e w6 ⟨KA, kn, kc, rfl, hO, hb⟩
  have HSK := Lib.hid (hO.sl (fun _ => rfl))
  have HKN : Hid (kn = K.length) := HSK.out.1
  have HSL6 := Lib.hid (HSL.out.grow hb hb.size)
  have HB6 := Lib.hid (HB5.out.trans (hb.mono HB5.out.size))
  have HX6 := Lib.hid (HX5.out.below hb HX5.out.lt)
  have HM6 := Lib.hid (HM5.out.below hb HM5.out.lt)
  clear hb m0 m1 m2 m3 m4 m5 m6 m7 m8 r0 r1 r2 HX5 HM5
  obtain ⟨m0, m1, m2, m3, m4, m5, m6, m7, m8⟩ := bk9 HM6.out
  obtain ⟨r0, r1, r2⟩ := roadbk HX6.out
  clear hO HCO HSL
  go_wp2_with fail
  clear m0 m1 m2 m3 m4 m5 m6 m7 m8 r0 r1 r2
  obtain ⟨n, hn⟩ : ∃ n, n = L.length := ⟨_, rfl⟩
  have HN := Lib.hid hn
  have hn120 : n ≤ 120 := by rw [hn]; exact HLEN.out
  rw [← hn] at HSL6 ⊢
  clear hn
  have hcl : cn = R.cs.length := HR.out.c.1
  have hjl : jn = R.js.length := HR.out.j.1
  have HCL := Lib.hid hcl
  have HJL := Lib.hid hjl
  have hc20 : cn ≤ 20 := by rw [hcl]; exact HSZ.out.2.1
  have hj20 : jn ≤ 20 := by rw [hjl]; exact HSZ.out.2.2
  have hk20 : kn ≤ 2000 := by
    have h1 := congrArg List.length HF1.out
    rw [List.length_map] at h1
    have h2 : (L.filter (isK 1)).length ≤ L.length := List.length_filter_le _ _
    have := HKN.out; have := HLEN.out
    omega
  have HRD6 : Hid (RD w6 w6.heap.size pa pn ca cn ja jn R) := ⟨(HR.out.p.below HB6.out).more HB6.out.size, (HR.out.c.below HB6.out).more HB6.out.size, (HR.out.j.below HB6.out).more HB6.out.size⟩
  have HZ6 : Hid (w.heap.size + 1 < w6.heap.size) := HM6.out.lt
  clear hcl hjl
  go_loopw [9, 10, 11, 12, 13, 14, 64, 149, 172] (fun av cv wv iv _ _ _ _ _ wr => ∃ i : Nat, i ≤ n ∧ iv = .int .i64 (i : Nat) ∧ av = .int .i64 (cntK 1 L i : Nat) ∧ cv = .int .i64 (cntK 5 L i : Nat) ∧ wv = .int .i64 (cntK 7 L i : Nat) ∧ Below w6.heap.size w6 wr) (fun _ _ _ iv _ _ _ _ _ _ => n - (intOf iv).toNat)
  case atStart => exact ⟨0, Nat.zero_le _, rfl, rfl, rfl, rfl, Below.refl _ _⟩
  case round =>
    obtain ⟨i, hi, rfl, rfl, rfl, rfl, hbr⟩ := hrel
    have HXr := Lib.hid (HX6.out.below hbr HX6.out.lt)
    have HMr := Lib.hid (HM6.out.below hbr HM6.out.lt)
    obtain ⟨m0, m1, m2, m3, m4, m5, m6, m7, m8⟩ := bk9 HMr.out
    obtain ⟨r0, r1, r2⟩ := roadbk HXr.out
    have HBr := Lib.hid hbr
    by_cases hin : i < n
    case neg =>
      obtain rfl : i = n := by omega
      have e1 : cntK 1 L i = kn := by rw [HN.out, cntK_all, HF1.out, List.length_map, HKN.out]
      have e5 : cntK 5 L i = cn := by rw [HN.out, cntK_all, HF5.out, List.length_map, HCL.out]
      have e7 : cntK 7 L i = jn := by rw [HN.out, cntK_all, HF7.out, List.length_map, HJL.out]
      rw [e1, e5, e7]
      have g1 : ((kn : Int) == (kn : Int)) = true := by simp
      have g2 : ((cn : Int) == (cn : Int)) = true := by simp
      have g3 : ((jn : Int) == (jn : Int)) = true := by simp
      have gi : decide ((i : Int) < (i : Int)) = false := by simp
      have HBE := Lib.hid (HB6.out.trans (hbr.mono HB6.out.size))
      have HTE := Lib.hid (pow10_stays HT.out HBE.out (Nat.le_refl _))
      clear e1 e5 e7 hbr
      go_wp2_with fail
      refine (known2_any _ HTE.out).mono ?_
      rintro e w9 ⟨rfl, hb9⟩
      go_wp2_with fail
      go_ret
      exact ⟨rfl, HBE.out.trans (hb9.mono HBE.out.size)⟩
    have hil : i < L.length := by rw [← HN.out]; exact hin
    have gi : decide ((i : Int) < (n : Int)) = true := by simp; omega
    have giN : decide (i < n) = true := decide_eq_true hin
    have hii : (i : Int) < (n : Int) := by omega
    have s1 := cntK_succ 1 L i hil
    have s5 := cntK_succ 5 L i hil
    have s7 := cntK_succ 7 L i hil
    have t1 := fun q => tell_of HF1.out (i := i) hil q
    have t5 := fun q => tell_of HF5.out (i := i) hil q
    have t7 := fun q => tell_of HF7.out (i := i) hil q
    obtain ⟨lb, lo, hLA, hlB, c0, c1, c2, c3, c4, c5, c6, c7, c8, c9⟩ := NS.at_ (HSL6.out.below hbr) hil
    generalize L[i]'hil = x at *
    subst hLA
    clear hil hbr
    obtain ⟨a1, ha1⟩ : ∃ v, cntK 1 L i = v := ⟨_, rfl⟩
    obtain ⟨a5, ha5⟩ : ∃ v, cntK 5 L i = v := ⟨_, rfl⟩
    obtain ⟨a7, ha7⟩ : ∃ v, cntK 7 L i = v := ⟨_, rfl⟩
    rw [ha1] at s1
    rw [ha5] at s5
    rw [ha7] at s7
    simp only [ha1, ha5, ha7] at t1 t5 t7 ⊢
    clear ha1 ha5 ha7
    by_cases k1 : x.k = 1
    · as_aux_lemma =>
        obtain ⟨y, hy, hxe⟩ := t1 k1
        have htell := HTELL.out _ (List.mem_of_getElem? hy)
        obtain ⟨hx, hyx⟩ := List.getElem?_eq_some_iff.1 hy
        have S1 : Hid (cntK 1 L (i + 1) = a1 + 1) := by show _ = _; rw [s1, if_pos k1]
        have S5 : Hid (cntK 5 L (i + 1) = a5) := by show _ = _; rw [s5, if_neg (by omega)]; rfl
        have S7 : Hid (cntK 7 L (i + 1) = a7) := by show _ = _; rw [s7, if_neg (by omega)]; rfl
        obtain ⟨kb, ko, hKA, hkB, d0, d1, d2, d3, d4, d5, d6⟩ := KS.at_ (HSK.out.below HBr.out) hx
        rw [hyx] at d0 d1 d2 d3 d4 d5 d6
        subst hKA
        rw [hxe] at htell
        obtain ⟨hnv, htu, m, hm, hm1, hm2, hm3⟩ := htell
        have ha1k : a1 < kn := by rw [HKN.out]; exact hx
        have HNV := Lib.hid hnv
        have HK1 := Lib.hid k1
        have gk1 : (x.k == 1) = true := by simpa using k1
        have ga1 : decide ((kn : Int) ≤ (a1 : Int)) = false := by simp; omega
        have ga2 : (a1 : Int) < (kn : Int) := by omega
        have gtu : (x.tu != y.turn) = false := by simpa using htu
        have hcall := fun (w1 : World) (h1 : Below w.heap.size w w1) => nMeaning_ok b HV.out A c x HNV.out HK1.out w1 ((HS.out.below h1).more h1.size)
        rw [hm] at hcall
        unfold bkA nA at hcall
        simp only [meanOr, Option.getD_some, Option.isSome_some, if_true, mA] at hcall
        have HC := Lib.hid hcall
        clear t1 t5 t7 s1 s5 s7 hx hyx hy hxe hnv htu hm hcall k1
        go_wp2_with fail
        go_quiet (fail)
        go_wp2_with fail
        obtain ⟨w7, hw7⟩ : ∃ w9, w9 = wr.drewN nq := ⟨_, rfl⟩
        have HB7 : Hid (Below w6.heap.size w6 w7) := by show Below _ _ _; rw [hw7]; exact below_drewN HBr.out _
        have c0 : w7.cell? ⟨lb, lo + i * 10, none⟩ = some (.int .i64 x.k) := by rw [hw7]; exact c0
        have c1 : w7.cell? ⟨lb, lo + i * 10 + 1, none⟩ = some (.int .i64 x.tu) := by rw [hw7]; exact c1
        have c2 : w7.cell? ⟨lb, lo + i * 10 + 2, none⟩ = some (.int .i64 x.gr) := by rw [hw7]; exact c2
        have c3 : w7.cell? ⟨lb, lo + i * 10 + 3, none⟩ = some (.int .i64 x.lo) := by rw [hw7]; exact c3
        have c4 : w7.cell? ⟨lb, lo + i * 10 + 4, none⟩ = some (.int .i64 x.ch) := by rw [hw7]; exact c4
        have c5 : w7.cell? ⟨lb, lo + i * 10 + 5, none⟩ = some (.int .i64 x.ton) := by rw [hw7]; exact c5
        have c6 : w7.cell? ⟨lb, lo + i * 10 + 6, none⟩ = some (.int .i64 x.me) := by rw [hw7]; exact c6
        have c7 : w7.cell? ⟨lb, lo + i * 10 + 7, none⟩ = some (.int .i64 x.si) := by rw [hw7]; exact c7
        have c8 : w7.cell? ⟨lb, lo + i * 10 + 8, none⟩ = some (.int .i64 x.wa) := by rw [hw7]; exact c8
        have c9 : w7.cell? ⟨lb, lo + i * 10 + 9, none⟩ = some (.int .i64 x.ar) := by rw [hw7]; exact c9
        have d0 : w7.cell? ⟨kb, ko + a1 * 7, none⟩ = some (.int .i64 y.fr) := by rw [hw7]; exact d0
        have d1 : w7.cell? ⟨kb, ko + a1 * 7 + 1, none⟩ = some (.int .i64 y.til) := by rw [hw7]; exact d1
        have d2 : w7.cell? ⟨kb, ko + a1 * 7 + 2, none⟩ = some (.int .i64 y.turn) := by rw [hw7]; exact d2
        have d3 : w7.cell? ⟨kb, ko + a1 * 7 + 3, none⟩ = some (.int .i64 y.rad) := by rw [hw7]; exact d3
        have d4 : w7.cell? ⟨kb, ko + a1 * 7 + 4, none⟩ = some (.int .i64 y.inn) := by rw [hw7]; exact d4
        have d5 : w7.cell? ⟨kb, ko + a1 * 7 + 5, none⟩ = some (.int .i64 y.out) := by rw [hw7]; exact d5
        have d6 : w7.cell? ⟨kb, ko + a1 * 7 + 6, none⟩ = some (.int .i64 y.ang) := by rw [hw7]; exact d6
        rw [← hw7]
        clear hw7 m0 m1 m2 m3 m4 m5 m6 m7 m8 r0 r1 r2 HXr HMr HBr
        have HM7 := Lib.hid (HM6.out.below HB7.out HM6.out.lt)
        obtain ⟨m0', m1', m2', m3', m4', m5', m6', m7', m8'⟩ := bk9 HM7.out
        have m0 := fun d os => cell_regrown m0' d os
        have m1 := fun d os => cell_regrown m1' d os
        have m2 := fun d os => cell_regrown m2' d os
        have m3 := fun d os => cell_regrown m3' d os
        have m4 := fun d os => cell_regrown m4' d os
        have m5 := fun d os => cell_regrown m5' d os
        have m6 := fun d os => cell_regrown m6' d os
        have m7 := fun d os => cell_regrown m7' d os
        have m8 := fun d os => cell_regrown m8' d os
        have cc0 := fun d os => cell_regrown c0 d os
        have cc1 := fun d os => cell_regrown c1 d os
        have cc2 := fun d os => cell_regrown c2 d os
        have cc3 := fun d os => cell_regrown c3 d os
        have cc4 := fun d os => cell_regrown c4 d os
        have cc5 := fun d os => cell_regrown c5 d os
        have cc6 := fun d os => cell_regrown c6 d os
        have cc7 := fun d os => cell_regrown c7 d os
        have cc8 := fun d os => cell_regrown c8 d os
        have cc9 := fun d os => cell_regrown c9 d os
        refine wp_region_one 11 9 10 [5] 53 #[.int .i64 0, .int .i64 0, .int .i64 0, .int .i64 0, .int .i64 0, .int .i64 0] #[.int .i64 m.fr, .int .i64 m.to_, .int .i64 m.lt, .int .i64 m.la, .int .i64 m.an, .int .i64 m.mo] 13 90 (.agg #[.int .i64 m.fr, .int .i64 m.to_, .int .i64 m.lt, .int .i64 m.la, .int .i64 m.an, .int .i64 m.mo]) _ _ hmo (by decide) rfl rfl rfl (fun a w => rfl) rfl rfl rfl (by kernel_rfl) (by kernel_rfl) (fun a w b h1 h2 h3 => store_mean m.fr m.to_ m.lt m.la m.an m.mo 13 90 a w b h1 h2 h3 _ rfl) (by kernel_rfl) ?_
        simp only [List.take_succ_cons, List.take_zero, List.drop_succ_cons, List.drop_zero]
        repeat (refine wpCG_q (by decide) (by decide) (fun K hK => ?_); go_simp; refine hK _ ?_; clear hK K)
        refine wpCG_c (ι := Unit) 29 #[.agg #[.slice A b.gs.length c, .int .i64 b.sh, .int .i64 b.lo, .int .i64 b.ra, .int .i64 b.an, .int .i64 b.io, .int .i64 b.st, .int .i64 b.ga, .int .i64 b.le], .agg #[.int .i64 x.k, .int .i64 x.tu, .int .i64 x.gr, .int .i64 x.lo, .int .i64 x.ch, .int .i64 x.ton, .int .i64 x.me, .int .i64 x.si, .int .i64 x.wa, .int .i64 x.ar]] (fun _ => .tuple #[.agg #[.int .i64 m.fr, .int .i64 m.to_, .int .i64 m.lt, .int .i64 m.la, .int .i64 m.an, .int .i64 m.mo], .int .i64 0]) (by decide) (by decide) rfl (fun w => by go_simp) (fun _ _ _ _ => trivial) (fun _ _ _ _ => trivial) (fun W hW _ => ?_) (fun i1 => ?_)
        · obtain ⟨p, rfl⟩ := hW
          have hb := below_regrown w7 p.d p.os
          refine (HC.out _ ((HB6.out.trans (HB7.out.mono HB6.out.size)).trans (hb.mono (Nat.le_trans HB6.out.size HB7.out.size)))).mono ?_
          rintro e w' ⟨rfl, hbl⟩
          exact ⟨(), rfl, hbl⟩
        repeat (refine wpCG_q (by decide) (by decide) (fun K hK => ?_); go_simp; refine hK _ ?_; clear hK K)
        refine wpCG_a (by decide) (fun h => by cases h) ?_
        refine wpCG_a (by decide) (fun _ => ⟨rfl, by simp⟩) ?_
        refine wpCG_nil ?_
        intro tb w8 hk8 _ htb hTB
        have hlB7 : lb < w7.heap.size := by have := HB7.out.size; omega
        have hkB7 : kb < w7.heap.size := by have := HB7.out.size; omega
        have bc : ∀ {p : Addr} {v : Value}, p.block < w7.heap.size → w7.cell? p = some v → w8.cell? p = some v := fun hp hv => (World.cell?_of_block (hk8.block _ hp)).trans hv
        have c4 := bc hlB7 c4
        have d3 := bc hkB7 d3
        have d6 := bc hkB7 d6
        have HB8 : Hid (Below w6.heap.size w6 w8) := HB7.out.trans (hk8.mono HB7.out.size)
        obtain ⟨z0, z1, z2, z3, z4, z5⟩ := hTB.t6
        clear bc hlB7 hkB7 hk8 htb hTB m0 m1 m2 m3 m4 m5 m6 m7 m8 m0' m1' m2' m3' m4' m5' m6' m7' m8' cc0 cc1 cc2 cc3 cc4 cc5 cc6 cc7 cc8 cc9 c0 c1 c2 c3 c5 c6 c7 c8 c9 d0 d1 d2 d4 d5 HB7 HM7 HC HNV HK1 HTELL
        have ua : IntKind.i64.wrap ((a1 : Int) + 1) = (a1 : Int) + 1 := IntWalk.i64_in _ (by omega)
        have p1 : decide (y.ang < m.an) = false := by simp; omega
        by_cases q2 : m.mo < y.ang
        · have p2 : decide (m.mo < y.ang) = true := decide_eq_true q2
          have p3 : decide (m.mo < 10000) = false := by simp; omega
          by_cases q4 : x.ch = 0
          · have p4 : (x.ch == 0) = true := by simpa using q4
            have q5 := hm3 q4
            have p5 : decide (y.rad < m.fr) = false := by simp; omega
            have p6 : decide (m.to_ < y.rad) = false := by simp; omega
            clear hm1 hm2 hm3 q2 q4
            go_wp2_with fail
            go_quiet (fail)
            go_wp2_with fail
            go_roundw
            case rel => exact ⟨i + 1, by omega, by go_num, by rw [S1.out]; go_num, by rw [S5.out], by rw [S7.out], below_drewN HB8.out _⟩
            case measure => simp [intOf]; omega
          · have p4 : (x.ch == 0) = false := by simpa using q4
            clear hm1 hm2 hm3 q2 q4
            go_wp2_with fail
            go_quiet (fail)
            go_wp2_with fail
            go_roundw
            case rel => exact ⟨i + 1, by omega, by go_num, by rw [S1.out]; go_num, by rw [S5.out], by rw [S7.out], below_drewN HB8.out _⟩
            case measure => simp [intOf]; omega
        · have p2 : decide (m.mo < y.ang) = false := decide_eq_false q2
          by_cases q4 : x.ch = 0
          · have p4 : (x.ch == 0) = true := by simpa using q4
            have q5 := hm3 q4
            have p5 : decide (y.rad < m.fr) = false := by simp; omega
            have p6 : decide (m.to_ < y.rad) = false := by simp; omega
            clear hm1 hm2 hm3 q2 q4
            go_wp2_with fail
            go_quiet (fail)
            go_wp2_with fail
            go_roundw
            case rel => exact ⟨i + 1, by omega, by go_num, by rw [S1.out]; go_num, by rw [S5.out], by rw [S7.out], below_drewN HB8.out _⟩
            case measure => simp [intOf]; omega
          · have p4 : (x.ch == 0) = false := by simpa using q4
            clear hm1 hm2 hm3 q2 q4
            go_wp2_with fail
            go_quiet (fail)
            go_wp2_with fail
            go_roundw
            case rel => exact ⟨i + 1, by omega, by go_num, by rw [S1.out]; go_num, by rw [S5.out], by rw [S7.out], below_drewN HB8.out _⟩
            case measure => simp [intOf]; omega
    have gk1 : (x.k == 1) = false := by simpa using k1
    have S1 : Hid (cntK 1 L (i + 1) = a1) := by show _ = _; rw [s1, if_neg k1]; rfl
    by_cases k5 : x.k = 5
    · obtain ⟨y, hy, hxe⟩ := t5 k5
      obtain ⟨hx, hyx⟩ := List.getElem?_eq_some_iff.1 hy
      have S5 : Hid (cntK 5 L (i + 1) = a5 + 1) := by show _ = _; rw [s5, if_pos k5]
      have S7 : Hid (cntK 7 L (i + 1) = a7) := by show _ = _; rw [s7, if_neg (by omega)]; rfl
      obtain ⟨kb, ko, hKA, hkB, d0, d1⟩ := CS.at_ (HRD6.out.c.below HBr.out) hx
      rw [hyx] at d0 d1
      subst hKA
      have ha5c : a5 < cn := by rw [HCL.out]; exact hx
      have gk5 : (x.k == 5) = true := by simpa using k5
      have ga1 : decide ((cn : Int) ≤ (a5 : Int)) = false := by simp; omega
      have ga2 : (a5 : Int) < (cn : Int) := by omega
      have hsi : x.si = y.siz := by rw [← hxe]; rfl
      have gsi : (x.si != y.siz) = false := by simpa using hsi
      have ua : IntKind.i64.wrap ((a5 : Int) + 1) = (a5 : Int) + 1 := IntWalk.i64_in _ (by omega)
      clear t1 t5 t7 s1 s5 s7 hx hyx hy hxe hsi k1 k5
      go_wp2_with fail
      go_quiet (fail)
      go_wp2_with fail
      go_roundw
      case rel => exact ⟨i + 1, by omega, by go_num, by rw [S1.out], by rw [S5.out]; go_num, by rw [S7.out], below_drewN HBr.out _⟩
      case measure => simp [intOf]; omega
    have gk5 : (x.k == 5) = false := by simpa using k5
    have S5 : Hid (cntK 5 L (i + 1) = a5) := by show _ = _; rw [s5, if_neg k5]; rfl
    by_cases k7 : x.k = 7
    · obtain ⟨y, hy, hxe⟩ := t7 k7
      obtain ⟨hx, hyx⟩ := List.getElem?_eq_some_iff.1 hy
      have S7 : Hid (cntK 7 L (i + 1) = a7 + 1) := by show _ = _; rw [s7, if_pos k7]
      obtain ⟨kb, ko, hKA, hkB, d0, d1, d2⟩ := JS.at_ (HRD6.out.j.below HBr.out) hx
      rw [hyx] at d0 d1 d2
      subst hKA
      have ha7c : a7 < jn := by rw [HJL.out]; exact hx
      have gk7 : (x.k == 7) = true := by simpa using k7
      have ga1 : decide ((jn : Int) ≤ (a7 : Int)) = false := by simp; omega
      have ga2 : (a7 : Int) < (jn : Int) := by omega
      have hwa : x.wa = y.way := by rw [← hxe]; rfl
      have har : x.ar = y.arms := by rw [← hxe]; rfl
      have gwa : (x.wa != y.way) = false := by simpa using hwa
      have gar : (x.ar != y.arms) = false := by simpa using har
      have ua : IntKind.i64.wrap ((a7 : Int) + 1) = (a7 : Int) + 1 := IntWalk.i64_in _ (by omega)
      clear t1 t5 t7 s1 s5 s7 hx hyx hy hxe hwa har k1 k5 k7
      go_wp2_with fail
      go_quiet (fail)
      go_wp2_with fail
      go_roundw
      case rel => exact ⟨i + 1, by omega, by go_num, by rw [S1.out], by rw [S5.out], by rw [S7.out]; go_num, below_drewN HBr.out _⟩
      case measure => simp [intOf]; omega
    have gk7 : (x.k == 7) = false := by simpa using k7
    have S7 : Hid (cntK 7 L (i + 1) = a7) := by show _ = _; rw [s7, if_neg k7]; rfl
    clear t1 t5 t7 s1 s5 s7 k1 k5 k7
    go_wp2_with fail
    go_roundw
    case rel => exact ⟨i + 1, by omega, by go_num, by rw [S1.out], by rw [S5.out], by rw [S7.out], HBr.out⟩
    case measure => simp [intOf]; omega
end Go.Proofs.YtnmipejpjeakbaaGreatDoor
