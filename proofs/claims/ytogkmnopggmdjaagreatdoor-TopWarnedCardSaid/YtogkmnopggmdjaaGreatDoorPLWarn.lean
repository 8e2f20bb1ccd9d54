/- TopWarned, walked. Printed by genwarn.py. -/
import Derived.Test.YtogkmnopggmdjaaGreatDoorPHeardP
namespace Go.Proofs.YtogkmnopggmdjaaGreatDoor
open Go.RowKit Go.Shelf Go.Sort Go.Proofs

theorem btwA_step {S : Spd} {R : Road} (hv : OK R) (hS : SOK S) {f t : Nat} (h1 : f ≤ t) (h2 : (t : Int) ≤ sumL R.ps) : btwA S R f t = (tQ S R.ps t - tQ S R.ps f, tSl S R.ps t - tSl S R.ps f, 0) := by
  unfold btwA
  rw [if_pos (by rw [Bool.and_eq_true]; exact ⟨(val_iff R).2 hv, (spB_iff S).2 hS⟩)]
  unfold btw
  rw [if_pos (by simp [inR]; omega), Int.toNat_natCast, Int.toNat_natCast]
theorem saidL_at' {cs : List CallR} {ls run : List Int} {n i : Nat} (h : i < n) : (saidL cs ls run n)[i]? = some (endAt cs ls run (i + 1)) := by simp [saidL, h]
theorem saidL_len' (cs : List CallR) (ls run : List Int) (n : Nat) : (saidL cs ls run n).length = n := by simp [saidL]
set_option maxRecDepth 100000 in
set_option maxHeartbeats 8000000 in
theorem LWarn_walk (v l lead : Int) (pa : Option Addr) (pn pc : Nat) (ca : Option Addr) (cn cc : Nat) (ja : Option Addr) (jn jc : Nat) (R : Road) (ra : Option Addr) (rn rc : Nat) (sa : Option Addr) (sn sc : Nat) (S : Spd) (A : Option Addr) (c : Nat) (b : BkR) (ua : Option Addr) (un uc : Nat) (us : List Int) (w : World)
    (hr : RD w w.heap.size pa pn ca cn ja jn R) (hD : SD w w.heap.size ra rn sa sn S) (h : SL iC 1 w w.heap.size A b.gs.length b.gs) (_ : b.gs.length ≤ 9223372036854775807) (hU : SL iC 1 w w.heap.size ua un us) (_ : pn ≤ 9223372036854775807) (ht : Lib.TabIs Tryz.prog w pow10N .u64 Lib.pow10Tab) :
    Calls Tryz.prog 4 #[.agg #[.slice pa pn pc, .slice ca cn cc, .slice ja jn jc], .agg #[.int .i64 S.least, .int .i64 S.most, .slice ra rn rc, .slice sa sn sc], bkA A c b, .agg #[.int .i64 v, .int .i64 l], .int .i64 lead, .slice ua un uc] w fun e w' => e = .returned (.bool true) ∧ Below w.heap.size w w' := by
  have hmo : Tryz.prog.follows .mixedOrders = true := by kernel_rfl
  obtain ⟨w0, hw0⟩ : ∃ w0, w0 = (((w.alloc (.cells #[.slice pa pn pc, .slice ca cn cc, .slice ja jn jc] 26)).alloc (.cells #[.int .i64 S.least, .int .i64 S.most, .slice ra rn rc, .slice sa sn sc] 60)).alloc (.cells #[.slice A b.gs.length c, .int .i64 b.sh, .int .i64 b.lo, .int .i64 b.ra, .int .i64 b.an, .int .i64 b.io, .int .i64 b.st, .int .i64 b.ga, .int .i64 b.le] 31)).alloc (.cells #[.int .i64 v, .int .i64 l] 33) := ⟨_, rfl⟩
  have HX0 : Hid (BK w0 w.heap.size 26 #[.slice pa pn pc, .slice ca cn cc, .slice ja jn jc]) := by show BK _ _ _ _; rw [hw0]; exact (((BK.new w _ _).alloc _).alloc _).alloc _
  have HY0 : Hid (BK w0 (w.heap.size + 1) 60 #[.int .i64 S.least, .int .i64 S.most, .slice ra rn rc, .slice sa sn sc]) := by
    show BK _ _ _ _
    have := BK.new (w.alloc (.cells #[.slice pa pn pc, .slice ca cn cc, .slice ja jn jc] 26)) 60 #[.int .i64 S.least, .int .i64 S.most, .slice ra rn rc, .slice sa sn sc]
    rw [World.size_alloc] at this
    rw [hw0]; exact (this.alloc _).alloc _
  have HM0 : Hid (BK w0 (w.heap.size + 2) 31 #[.slice A b.gs.length c, .int .i64 b.sh, .int .i64 b.lo, .int .i64 b.ra, .int .i64 b.an, .int .i64 b.io, .int .i64 b.st, .int .i64 b.ga, .int .i64 b.le]) := by
    show BK _ _ _ _
    have := BK.new ((w.alloc (.cells #[.slice pa pn pc, .slice ca cn cc, .slice ja jn jc] 26)).alloc (.cells #[.int .i64 S.least, .int .i64 S.most, .slice ra rn rc, .slice sa sn sc] 60)) 31 #[.slice A b.gs.length c, .int .i64 b.sh, .int .i64 b.lo, .int .i64 b.ra, .int .i64 b.an, .int .i64 b.io, .int .i64 b.st, .int .i64 b.ga, .int .i64 b.le]
    rw [World.size_alloc, World.size_alloc] at this
    rw [hw0]; exact this.alloc _
  have HZ0 : Hid (BK w0 (w.heap.size + 3) 33 #[.int .i64 v, .int .i64 l]) := by
    show BK _ _ _ _
    have := BK.new (((w.alloc (.cells #[.slice pa pn pc, .slice ca cn cc, .slice ja jn jc] 26)).alloc (.cells #[.int .i64 S.least, .int .i64 S.most, .slice ra rn rc, .slice sa sn sc] 60)).alloc (.cells #[.slice A b.gs.length c, .int .i64 b.sh, .int .i64 b.lo, .int .i64 b.ra, .int .i64 b.an, .int .i64 b.io, .int .i64 b.st, .int .i64 b.ga, .int .i64 b.le] 31)) 33 #[.int .i64 v, .int .i64 l]
    rw [World.size_alloc, World.size_alloc, World.size_alloc] at this
    rw [hw0]; exact this
  have HB0 : Hid (Below w.heap.size w w0) := by show Below _ _ _; rw [hw0]; exact ((((Below.refl _ w).alloc (Nat.le_refl _) _).alloc (by simp) _).alloc (by simp; omega) _).alloc (by simp; omega) _
  have HR := Lib.hid hr
  have HD := Lib.hid hD
  have HS := Lib.hid h
  have HU := Lib.hid hU
  have HT := Lib.hid ht
  have HUL := Lib.hid hU.1
  have hman := fun (w1 : World) (h1 : Below w.heap.size w w1) => rmanual_any b A c w1 ((HS.out.below h1).more h1.size)
  unfold bkA at hman
  have HMA := Lib.hid hman
  obtain ⟨m0, m1, m2, m3, m4, m5, m6, m7, m8⟩ := bk9 HM0.out
  obtain ⟨r0, r1, r2⟩ := roadbk HX0.out
  obtain ⟨s0, s1, s2, s3⟩ := sp4 HY0.out
  obtain ⟨z0, z1⟩ := sp2 HZ0.out
  clear hr hD h hU ht hman
  unfold bkA
  go_enter Tryz.func4, Tryz.ntmps4
  go_wp2_with fail
  rw [← hw0]
  clear hw0
  go_wp2_with fail
  refine (short_any pa pn pc ca cn cc ja jn jc R 1000 _ (HR.out.grow HB0.out HB0.out.size)).mono ?_
  rintro e w1 ⟨ok, rfl, hok, hb⟩
  have HB1 := Lib.hid (HB0.out.trans (hb.mono HB0.out.size))
  have HX1 := Lib.hid (HX0.out.below hb HX0.out.lt)
  have HY1 := Lib.hid (HY0.out.below hb HY0.out.lt)
  have HM1 := Lib.hid (HM0.out.below hb HM0.out.lt)
  have HZ1 := Lib.hid (HZ0.out.below hb HZ0.out.lt)
  clear hb m0 m1 m2 m3 m4 m5 m6 m7 m8 r0 r1 r2 s0 s1 s2 s3 z0 z1 HX0 HY0 HM0 HZ0
  obtain ⟨m0, m1, m2, m3, m4, m5, m6, m7, m8⟩ := bk9 HM1.out
  obtain ⟨r0, r1, r2⟩ := roadbk HX1.out
  obtain ⟨s0, s1, s2, s3⟩ := sp4 HY1.out
  obtain ⟨z0, z1⟩ := sp2 HZ1.out
  cases ok with
  | false =>
    clear hok
    go_wp2_with fail
    refine (known03_any _ (pow10_stays HT.out HB1.out (Nat.le_refl _))).mono ?_
    rintro e w9 ⟨rfl, hb9⟩
    go_wp2_with fail
    go_ret
    exact ⟨rfl, HB1.out.trans (hb9.mono HB1.out.size)⟩
  | true =>
  have HOK := Lib.hid (hok rfl).1
  have HSZ := Lib.hid (hok rfl).2
  clear hok
  go_wp2_with fail
  refine (rows_any ra rn rc sa sn sc S _ (HD.out.grow HB1.out HB1.out.size)).mono ?_
  rintro e w2 ⟨ok, rfl, hok, hb⟩
  have HB2 := Lib.hid (HB1.out.trans (hb.mono HB1.out.size))
  have HX2 := Lib.hid (HX1.out.below hb HX1.out.lt)
  have HY2 := Lib.hid (HY1.out.below hb HY1.out.lt)
  have HM2 := Lib.hid (HM1.out.below hb HM1.out.lt)
  have HZ2 := Lib.hid (HZ1.out.below hb HZ1.out.lt)
  clear hb m0 m1 m2 m3 m4 m5 m6 m7 m8 r0 r1 r2 s0 s1 s2 s3 z0 z1 HX1 HY1 HM1 HZ1
  obtain ⟨m0, m1, m2, m3, m4, m5, m6, m7, m8⟩ := bk9 HM2.out
  obtain ⟨r0, r1, r2⟩ := roadbk HX2.out
  obtain ⟨s0, s1, s2, s3⟩ := sp4 HY2.out
  obtain ⟨z0, z1⟩ := sp2 HZ2.out
  cases ok with
  | false =>
    clear hok
    go_wp2_with fail
    refine (known03_any _ (pow10_stays HT.out HB2.out (Nat.le_refl _))).mono ?_
    rintro e w9 ⟨rfl, hb9⟩
    go_wp2_with fail
    go_ret
    exact ⟨rfl, HB2.out.trans (hb9.mono HB2.out.size)⟩
  | true =>
  have HSO := Lib.hid (hok rfl)
  clear hok
  by_cases h8 : 8 < b.gs.length
  · have g8 : decide ((8 : Int) < (b.gs.length : Int)) = true := by simp; omega
    clear h8
    go_wp2_with fail
    refine (known03_any _ (pow10_stays HT.out HB2.out (Nat.le_refl _))).mono ?_
    rintro e w9 ⟨rfl, hb9⟩
    go_wp2_with fail
    go_ret
    exact ⟨rfl, HB2.out.trans (hb9.mono HB2.out.size)⟩
  have g8 : decide ((8 : Int) < (b.gs.length : Int)) = false := by simp; omega
  clear h8
  go_wp2_with fail
  refine (HMA.out _ HB2.out).mono ?_
  rintro e w3 ⟨ok, rfl, hok, hb⟩
  have HB3 := Lib.hid (HB2.out.trans (hb.mono HB2.out.size))
  have HX3 := Lib.hid (HX2.out.below hb HX2.out.lt)
  have HY3 := Lib.hid (HY2.out.below hb HY2.out.lt)
  have HM3 := Lib.hid (HM2.out.below hb HM2.out.lt)
  have HZ3 := Lib.hid (HZ2.out.below hb HZ2.out.lt)
  clear hb m0 m1 m2 m3 m4 m5 m6 m7 m8 r0 r1 r2 s0 s1 s2 s3 z0 z1 HX2 HY2 HM2 HZ2
  obtain ⟨m0, m1, m2, m3, m4, m5, m6, m7, m8⟩ := bk9 HM3.out
  obtain ⟨r0, r1, r2⟩ := roadbk HX3.out
  obtain ⟨s0, s1, s2, s3⟩ := sp4 HY3.out
  obtain ⟨z0, z1⟩ := sp2 HZ3.out
  cases ok with
  | false =>
    clear hok
    go_wp2_with fail
    refine (known03_any _ (pow10_stays HT.out HB3.out (Nat.le_refl _))).mono ?_
    rintro e w9 ⟨rfl, hb9⟩
    go_wp2_with fail
    go_ret
    exact ⟨rfl, HB3.out.trans (hb9.mono HB3.out.size)⟩
  | true =>
  have HV := Lib.hid (hok.1 rfl)
  clear hok g8 HMA
  go_wp2_with fail
  refine (rspeech_any v l _).mono ?_
  rintro e w4 ⟨rfl, hb⟩
  have HB4 := Lib.hid (HB3.out.trans (hb.mono HB3.out.size))
  have HX4 := Lib.hid (HX3.out.below hb HX3.out.lt)
  have HY4 := Lib.hid (HY3.out.below hb HY3.out.lt)
  have HM4 := Lib.hid (HM3.out.below hb HM3.out.lt)
  have HZ4 := Lib.hid (HZ3.out.below hb HZ3.out.lt)
  clear hb m0 m1 m2 m3 m4 m5 m6 m7 m8 r0 r1 r2 s0 s1 s2 s3 z0 z1 HX3 HY3 HM3 HZ3
  obtain ⟨m0, m1, m2, m3, m4, m5, m6, m7, m8⟩ := bk9 HM4.out
  obtain ⟨r0, r1, r2⟩ := roadbk HX4.out
  obtain ⟨s0, s1, s2, s3⟩ := sp4 HY4.out
  obtain ⟨z0, z1⟩ := sp2 HZ4.out
  cases hsp : spchB v l with
  | false =>
    clear hsp
    go_wp2_with fail
    refine (known03_any _ (pow10_stays HT.out HB4.out (Nat.le_refl _))).mono ?_
    rintro e w9 ⟨rfl, hb9⟩
    go_wp2_with fail
    go_ret
    exact ⟨rfl, HB4.out.trans (hb9.mono HB4.out.size)⟩
  | true =>
  have HSP := Lib.hid hsp
  clear hsp
  by_cases hl0 : lead < 0
  · have g1 : decide (lead < 0) = true := decide_eq_true hl0
    clear hl0
    go_wp2_with fail
    refine (known03_any _ (pow10_stays HT.out HB4.out (Nat.le_refl _))).mono ?_
    rintro e w9 ⟨rfl, hb9⟩
    go_wp2_with fail
    go_ret
    exact ⟨rfl, HB4.out.trans (hb9.mono HB4.out.size)⟩
  have g1 : decide (lead < 0) = false := decide_eq_false hl0
  by_cases hl1 : 100000000 < lead
  · have g2 : decide ((100000000 : Int) < lead) = true := decide_eq_true hl1
    clear hl0 hl1
    go_wp2_with fail
    refine (known03_any _ (pow10_stays HT.out HB4.out (Nat.le_refl _))).mono ?_
    rintro e w9 ⟨rfl, hb9⟩
    go_wp2_with fail
    go_ret
    exact ⟨rfl, HB4.out.trans (hb9.mono HB4.out.size)⟩
  have g2 : decide ((100000000 : Int) < lead) = false := decide_eq_false hl1
  by_cases hu0 : un = 0
  · have g3 : ((un : Int) == 0) = true := by simp [hu0]
    clear hl0 hl1 hu0
    go_wp2_with fail
    refine (known03_any _ (pow10_stays HT.out HB4.out (Nat.le_refl _))).mono ?_
    rintro e w9 ⟨rfl, hb9⟩
    go_wp2_with fail
    go_ret
    exact ⟨rfl, HB4.out.trans (hb9.mono HB4.out.size)⟩
  have g3 : ((un : Int) == 0) = false := by simp; omega
  by_cases hu1 : 2000 < un
  · have g4 : decide ((2000 : Int) < (un : Int)) = true := by simp; omega
    clear hl0 hl1 hu0 hu1
    go_wp2_with fail
    refine (known03_any _ (pow10_stays HT.out HB4.out (Nat.le_refl _))).mono ?_
    rintro e w9 ⟨rfl, hb9⟩
    go_wp2_with fail
    go_ret
    exact ⟨rfl, HB4.out.trans (hb9.mono HB4.out.size)⟩
  have g4 : decide ((2000 : Int) < (un : Int)) = false := by simp; omega
  have HLD : Hid (0 ≤ lead ∧ lead ≤ 100000000) := ⟨by omega, by omega⟩
  have HUN : Hid (1 ≤ un ∧ un ≤ 2000) := ⟨by omega, by omega⟩
  clear hl0 hl1 hu0 hu1
  have hcl := crns_len b.ga b.le R
  have hnn : R.js.length + R.cs.length + R.ps.length ≤ 200 := by have := HSZ.out; omega
  have hpc := fun (w1 : World) (h1 : Below w.heap.size w w1) => pCalls_ok b HV.out A c pa pn pc ca cn cc ja jn jc R HOK.out v l lead 1125899906842624 HSP.out (by have := HLD.out; simp [inR]; omega) (by simp [inR]) hnn w1 (HR.out.grow h1 h1.size) ((HS.out.below h1).more h1.size) (pow10_stays HT.out h1 (Nat.le_refl _))
  unfold bkA at hpc
  have HPC := Lib.hid hpc
  obtain ⟨cs, hcs⟩ : ∃ cs, cs = callsR b R v l lead 1125899906842624 := ⟨_, rfl⟩
  have HCS := Lib.hid hcs
  have HCOK : Hid (COK (sumL R.ps) cs) := by
    show COK _ _
    rw [hcs]
    exact callsR_ok HV.out HOK.out (spch_bd HSP.out).1 (spch_bd HSP.out).2 (by have := HLD.out; unfold maxM; omega) (by unfold maxM; omega) (by omega)
  have HCL : Hid (cs.length ≤ 200) := by show _ ≤ _; rw [hcs, callsR_len HOK.out]; omega
  have HLE : Hid (∀ i (hi : i < cs.length), (cs[i]'hi).lead = lead) := by
    intro i hi
    subst hcs
    exact callsR_lead HOK.out v l lead _ (List.getElem_mem hi)
  have HCC : Hid (∀ k ∈ crns b.ga b.le R, ∃ i : Nat, ∃ x : CallR, cs[i]? = some x ∧ x.place = k.fr) := fun k hk => by subst hcs; exact callsR_corner HOK.out v l lead _ hk
  rw [← hcs] at hpc
  have HPC := Lib.hid hpc
  clear hcl hnn hpc hcs
  go_wp2_with fail
  refine (HPC.out _ HB4.out).mono ?_
  rintro e w5 ⟨hb, KA, kc, rfl, hK⟩
  have HK5 := Lib.hid (hK.drop0 HB4.out.size)
  clear hK HPC
  have HB5 := Lib.hid (HB4.out.trans (hb.mono HB4.out.size))
  have HX5 := Lib.hid (HX4.out.below hb HX4.out.lt)
  have HY5 := Lib.hid (HY4.out.below hb HY4.out.lt)
  have HM5 := Lib.hid (HM4.out.below hb HM4.out.lt)
  have HZ5 := Lib.hid (HZ4.out.below hb HZ4.out.lt)
  clear hb m0 m1 m2 m3 m4 m5 m6 m7 m8 r0 r1 r2 s0 s1 s2 s3 z0 z1 HX4 HY4 HM4 HZ4
  obtain ⟨m0, m1, m2, m3, m4, m5, m6, m7, m8⟩ := bk9 HM5.out
  obtain ⟨r0, r1, r2⟩ := roadbk HX5.out
  obtain ⟨s0, s1, s2, s3⟩ := sp4 HY5.out
  obtain ⟨z0, z1⟩ := sp2 HZ5.out
  have hcl2 := HCL.out
  obtain ⟨kn, hkn⟩ : ∃ kn, kn = cs.length := ⟨_, rfl⟩
  have HKN := Lib.hid hkn
  have HK5' : Hid (OW caC 5 49 w.heap.size w5 KA kn kc cs) := by show OW _ _ _ _ _ _ _ _ _; rw [hkn]; exact HK5.out
  have hkn2 : kn ≤ 200 := by rw [hkn]; exact hcl2
  have HK2 := Lib.hid hkn2
  rw [← hkn]
  clear hkn HK5 hcl2 hkn2
  go_wp2_with fail
  refine (Plan_any pa pn pc ca cn cc ja jn jc R ra rn rc sa sn sc S KA kn kc cs _ (HR.out.grow HB5.out HB5.out.size) (HD.out.grow HB5.out HB5.out.size) (HK5'.out.sl caC_len) HOK.out HSO.out HCOK.out).mono ?_
  rintro e w6 ⟨PW, pn2, pc2, rfl, hP, hb⟩
  have HP6 := Lib.hid hP
  have HK6 := Lib.hid (HK5'.out.call hb)
  clear hP HK5'
  have HB6 := Lib.hid (HB5.out.trans (hb.mono HB5.out.size))
  have HX6 := Lib.hid (HX5.out.below hb HX5.out.lt)
  have HY6 := Lib.hid (HY5.out.below hb HY5.out.lt)
  have HM6 := Lib.hid (HM5.out.below hb HM5.out.lt)
  have HZ6 := Lib.hid (HZ5.out.below hb HZ5.out.lt)
  clear hb m0 m1 m2 m3 m4 m5 m6 m7 m8 r0 r1 r2 s0 s1 s2 s3 z0 z1 HX5 HY5 HM5 HZ5
  obtain ⟨m0, m1, m2, m3, m4, m5, m6, m7, m8⟩ := bk9 HM6.out
  obtain ⟨r0, r1, r2⟩ := roadbk HX6.out
  obtain ⟨s0, s1, s2, s3⟩ := sp4 HY6.out
  obtain ⟨z0, z1⟩ := sp2 HZ6.out
  have hout : Hid ((planR (qS S R) (sS S R) cs).2.2 = 5 ∨ ((planR (qS S R) (sS S R) cs).2.2 = 0 ∧ (planR (qS S R) (sS S R) cs).1 = trigsL S R cs ∧ TOK (sumL R.ps) cs.length (trigsL S R cs) ∧ ∀ j, j < cs.length → goodAt S R cs (trigsL S R cs) j = true)) := by
    rcases plan_cases (S := S) HCOK.out with ⟨_, _, h⟩ | ⟨⟨h1, h2⟩, h⟩
    · exact .inl h
    · exact .inr ⟨by rw [h], by rw [h], trigs_ok HSO.out HOK.out HCOK.out h1, trigs_good HSO.out HOK.out HCOK.out h1 h2⟩
  generalize (planR (qS S R) (sS S R) cs).2.1.first = cf at *
  generalize (planR (qS S R) (sS S R) cs).2.1.last = cl at *
  generalize (planR (qS S R) (sS S R) cs).2.1.early = ce at *
  generalize (planR (qS S R) (sS S R) cs).2.2 = er at *
  generalize (planR (qS S R) (sS S R) cs).1 = pl at *
  obtain ⟨w7, hw7⟩ : ∃ w7, w7 = w6.alloc (.cells #[.int .i64 cf, .int .i64 cl, .bool ce] 64) := ⟨_, rfl⟩
  have hb : Below w6.heap.size w6 w7 := by rw [hw7]; exact (Below.refl _ _).alloc (Nat.le_refl _) _
  have HP7 := Lib.hid ((HP6.out.below hb).more hb.size)
  have HK7 := Lib.hid (HK6.out.call hb)
  have HB7 := Lib.hid (HB6.out.trans (hb.mono HB6.out.size))
  have HX7 := Lib.hid (HX6.out.below hb HX6.out.lt)
  have HY7 := Lib.hid (HY6.out.below hb HY6.out.lt)
  have HM7 := Lib.hid (HM6.out.below hb HM6.out.lt)
  have HZ7 := Lib.hid (HZ6.out.below hb HZ6.out.lt)
  obtain ⟨m0', m1', m2', m3', m4', m5', m6', m7', m8'⟩ := bk9 HM7.out
  obtain ⟨r0', r1', r2'⟩ := roadbk HX7.out
  obtain ⟨s0', s1', s2', s3'⟩ := sp4 HY7.out
  obtain ⟨z0', z1'⟩ := sp2 HZ7.out
  rw [hw7] at m0' m1' m2' m3' m4' m5' m6' m7' m8' r0' r1' r2' s0' s1' s2' s3' z0' z1'
  go_wp2_with fail
  rw [← hw7]
  clear hb hw7 m0' m1' m2' m3' m4' m5' m6' m7' m8' r0' r1' r2' s0' s1' s2' s3' z0' z1' m0 m1 m2 m3 m4 m5 m6 m7 m8 r0 r1 r2 s0 s1 s2 s3 z0 z1 HB6 HX6 HY6 HM6 HZ6 HP6 HK6
  refine (Corners_in b.ga b.le pa pn pc ca cn cc ja jn jc R _ (HR.out.grow HB7.out HB7.out.size) HOK.out (by have := HV.out.ga1; have := HV.out.ga2; have := HV.out.le1; have := HV.out.le2; simp [bendsOk', inR]; omega)).mono ?_
  rintro e w8 ⟨QA, qn, qc, rfl, hQ, hb⟩
  have HQ8 := Lib.hid (hQ.drop0 HB7.out.size)
  have HQN : Hid ((crns b.ga b.le R).length = qn) := hQ.2.symm
  have HP8 := Lib.hid ((HP7.out.below hb).more hb.size)
  have HK8 := Lib.hid (HK7.out.call hb)
  have HB8 := Lib.hid (HB7.out.trans (hb.mono HB7.out.size))
  have HX8 := Lib.hid (HX7.out.below hb HX7.out.lt)
  have HY8 := Lib.hid (HY7.out.below hb HY7.out.lt)
  have HM8 := Lib.hid (HM7.out.below hb HM7.out.lt)
  have HZ8 := Lib.hid (HZ7.out.below hb HZ7.out.lt)
  clear hb hQ HX7 HY7 HM7 HZ7 HB7 HP7 HK7
  obtain ⟨m0, m1, m2, m3, m4, m5, m6, m7, m8⟩ := bk9 HM8.out
  obtain ⟨r0, r1, r2⟩ := roadbk HX8.out
  obtain ⟨s0, s1, s2, s3⟩ := sp4 HY8.out
  obtain ⟨z0, z1⟩ := sp2 HZ8.out
  rcases hout.out with he | ⟨he, hpl, htok, hgood⟩
  · have ge : (er != 0) = true := by rw [he]; rfl
    have ge5 : (er == 5) = true := by rw [he]; rfl
    subst he
    clear hout
    go_wp2_with fail
    refine (known03_any _ (pow10_stays HT.out HB8.out (Nat.le_refl _))).mono ?_
    rintro e w9 ⟨rfl, hb9⟩
    go_wp2_with fail
    go_ret
    exact ⟨rfl, HB8.out.trans (hb9.mono HB8.out.size)⟩
  subst he
  have HP8' : Hid (SL iC 1 w8 w8.heap.size PW pn2 (trigsL S R cs)) := by show SL _ _ _ _ _ _ _; rw [← hpl]; exact HP8.out
  have HTO := Lib.hid htok
  have HGO := Lib.hid hgood
  have HPN : Hid (pn2 = kn) := by show _ = _; rw [HP8'.out.1, HTO.out.l, HKN.out]
  obtain ⟨N, hN⟩ : ∃ N : Nat, sumL R.ps = (N : Int) := ⟨(sumL R.ps).toNat, by have := (sumL_bd R.ps HOK.out.pk).1; omega⟩
  have HN := Lib.hid hN
  have hN1 : N ≤ 1000 := by have := HSZ.out.2.2.2; omega
  have HN1 := Lib.hid hN1
  have HRN := Lib.hid (runW_runs (S := S) HSO.out HOK.out hN us)
  have h10 : R.ps.length ≤ 100000 := by have := HSZ.out; omega
  have hpn5 : pn ≤ 100000 := by rw [HR.out.p.1]; exact h10
  have HPN5 := Lib.hid hpn5
  clear hout hpl htok hgood HP8 hN hN1 h10 hpn5
  go_wp2_with fail
  obtain ⟨W0, hW0⟩ : ∃ W0, W0 = w8.alloc (.cells #[.int .i64 0] 3) := ⟨_, rfl⟩
  have hNB : BK W0 w8.heap.size 3 #[.int .i64 0] := by rw [hW0]; exact BK.new _ _ _
  have hb : Below w8.heap.size w8 W0 := by rw [hW0]; exact (Below.refl _ _).alloc (Nat.le_refl _) _
  have HO0 : Hid (OW iC 1 3 w8.heap.size W0 (some ⟨w8.heap.size, 0, none⟩) 1 1 (runL 0 (runW S R us))) := OW.one hNB rfl rfl (Nat.le_refl _)
  have HBW := Lib.hid hb
  rw [← hW0]
  have HZ8 := Lib.hid HB8.out.size
  clear hW0 hNB hb m0 m1 m2 m3 m4 m5 m6 m7 m8 r0 r1 r2 s0 s1 s2 s3 z0 z1
  go_loopw [20, 21] (fun rv iv wr => ∃ (k : Nat) (Ao : Option Addr) (co : Nat), k ≤ N ∧ iv = .int .i64 k ∧ rv = .slice Ao (k + 1) co ∧ OW iC 1 3 w8.heap.size wr Ao (k + 1) co (runL k (runW S R us)) ∧ Below w8.heap.size w8 wr)
    (fun _ i _ => N - (intOf i).toNat)
  case atStart => exact ⟨0, _, 1, Nat.zero_le _, rfl, rfl, HO0.out, HBW.out⟩
  case round =>
    obtain ⟨k, Ao, co, hk, rfl, rfl, hO, hb⟩ := hrel
    have HO := Lib.hid hO
    have HbR := Lib.hid hb
    have HBR := Lib.hid (HB8.out.trans (hb.mono HZ8.out))
    have HXr := Lib.hid (HX8.out.below hb HX8.out.lt)
    have HYr := Lib.hid (HY8.out.below hb HY8.out.lt)
    obtain ⟨r0, r1, r2⟩ := roadbk HXr.out
    obtain ⟨s0, s1, s2, s3⟩ := sp4 HYr.out
    have hpn5 : pn ≤ 100000 := HPN5.out
    clear hO hb
    go_wp2_with fail
    refine (rLength_any pa pn pc ca cn cc ja jn jc R _ (HR.out.grow HBR.out HBR.out.size) HOK.out.pk HPN5.out).mono ?_
    rintro e wl ⟨rfl, hb⟩
    rw [HN.out]
    have HO1 := Lib.hid (HO.out.call hb)
    have HbL := Lib.hid (HbR.out.trans (hb.mono HbR.out.size))
    have HBL := Lib.hid (HB8.out.trans (HbL.out.mono HZ8.out))
    have HXl := Lib.hid (HX8.out.below HbL.out HX8.out.lt)
    have HYl := Lib.hid (HY8.out.below HbL.out HY8.out.lt)
    clear hb r0 r1 r2 s0 s1 s2 s3 HO HbR HBR HXr HYr
    obtain ⟨r0, r1, r2⟩ := roadbk HXl.out
    obtain ⟨s0, s1, s2, s3⟩ := sp4 HYl.out
    by_cases hlt : k < N
    case pos =>
      have g0 : decide ((k : Int) < (N : Int)) = true := decide_eq_true (by omega)
      obtain ⟨m, hm⟩ : ∃ m, m = k + 1 := ⟨_, rfl⟩
      have hwm : IntKind.i64.wrap ((k : Int) + 1) = (m : Int) := (IntWalk.i64_in _ (by have := HN1.out; omega)).trans (by omega)
      have HM := Lib.hid hm
      have hbt := Between_all (k : Int) (m : Int) pa pn pc ca cn cc ja jn jc R ra rn rc sa sn sc S wl (HR.out.grow HBL.out HBL.out.size) (HD.out.grow HBL.out HBL.out.size)
      rw [btwA_step HOK.out HSO.out (show k ≤ m by omega) (by rw [HN.out]; omega)] at hbt
      have HBT := Lib.hid hbt
      have hd := HRN.out.d k hlt
      have hv0 := HRN.out.bd HSO.out HOK.out (b := k) (by omega)
      have hv1 := HRN.out.bd HSO.out HOK.out (b := k + 1) (by omega)
      have hq0 := tQ_mono HSO.out HOK.out (show k ≤ k + 1 by omega)
      have hb3 := tSl_bd HSO.out HOK.out (k + 1)
      have hb4 := tSl_bd HSO.out HOK.out k
      have HST : Hid (runW S R us (k + 1) = runW S R us k + min (tSl S R.ps (k + 1) - tSl S R.ps k) (tQ S R.ps (k + 1) - tQ S R.ps k + moreAt us k)) := by show _ = _; rfl
      have HSU := Lib.hid (runL_succ k (runW S R us))
      have HRK : Hid ((runL k (runW S R us))[k]? = some (runW S R us k)) := runL_at (Nat.le_refl k)
      rw [← hm] at hd hv1 hq0 hb3 HST HSU
      clear hbt hm
      go_wp2_with fail
      refine HBT.out.mono ?_
      rintro e wq ⟨rfl, hb⟩
      dsimp only
      have HO2 := Lib.hid (HO1.out.call hb)
      have HbQ := Lib.hid (HbL.out.trans (hb.mono HbL.out.size))
      clear hb r0 r1 r2 s0 s1 s2 s3 HBT HO1 HbL HBL HXl HYl
      obtain ⟨dq, hdq⟩ : ∃ dq, dq = tQ S R.ps m - tQ S R.ps k := ⟨_, rfl⟩
      obtain ⟨ds, hds⟩ : ∃ ds, ds = tSl S R.ps m - tSl S R.ps k := ⟨_, rfl⟩
      have hds1 : ds ≤ 1000070000000 := by omega
      rw [← hdq, ← hds] at hd HST ⊢
      have hdq0 : 0 ≤ dq := by omega
      clear hdq hds hb3 hb4 hq0
      have hum : k % un < us.length := by rw [← HUL.out]; exact Nat.mod_lt _ (by have := HUN.out; omega)
      obtain ⟨ub, uo, hUA, hbB, u0⟩ := IS.at_ (HU.out.grow (HB8.out.trans (HbQ.out.mono HZ8.out)) (HB8.out.trans (HbQ.out.mono HZ8.out)).size) (k := k % un) hum
      have HMO : Hid (moreAt us k = max 0 (min (us[k % un]'hum) 100000000)) := by
        show _ = _
        unfold moreAt
        rw [← HUL.out, List.getElem?_eq_getElem hum]
        rfl
      generalize us[k % un]'hum = x at *
      have hrem : (k : Int).tmod (un : Int) = ((k % un : Nat) : Int) := by rw [Int.ofNat_tmod]
      have hun0 : ((un : Int) == 0) = false := by have := HUN.out; simp; omega
      have hur : ((k % un : Nat) : Int) < (un : Int) := by have := Nat.mod_lt k (show 0 < un by have := HUN.out; omega); omega
      obtain ⟨q, hq⟩ : ∃ q, q = k % un := ⟨_, rfl⟩
      rw [← hq] at u0 hrem hur
      have HQQ := Lib.hid hq
      obtain ⟨a1, ha1⟩ : ∃ a1, a1 = min x 100000000 := ⟨_, rfl⟩
      have hi1 : min x 100000000 = a1 := ha1.symm
      obtain ⟨a2, ha2⟩ : ∃ a2, a2 = max 0 a1 := ⟨_, rfl⟩
      have hi2 : max 0 a1 = a2 := ha2.symm
      have hMA : moreAt us k = a2 := by rw [HMO.out, ha2, ha1]
      have ha2b : 0 ≤ a2 ∧ a2 ≤ 100000000 := by rw [ha2, ha1]; omega
      rw [hMA] at HST
      have hw1 : IntKind.i64.wrap (dq + a2) = dq + a2 := IntWalk.i64_in _ (by omega)
      obtain ⟨a3, ha3⟩ : ∃ a3, a3 = min ds (dq + a2) := ⟨_, rfl⟩
      have hi3 : min ds (dq + a2) = a3 := ha3.symm
      rw [← ha3] at HST
      obtain ⟨y, hy⟩ : ∃ y, y = runW S R us k := ⟨_, rfl⟩
      have hw2 : IntKind.i64.wrap (y + a3) = y + a3 := IntWalk.i64_in _ (by rw [hy, ← HST.out]; omega)
      have HSU2 : Hid (runL m (runW S R us) = runL k (runW S R us) ++ [y + a3]) := by show _ = _; rw [HSU.out, HST.out, hy]
      have hrl : k < (runL k (runW S R us)).length := by rw [runL_len]; omega
      obtain ⟨tb, to', hTA, -, t0⟩ := IS.at_ (HO2.out.sl (fun _ => rfl)) (k := k) hrl
      rw [Option.some.inj ((List.getElem?_eq_getElem hrl).symm.trans HRK.out), ← hy] at t0
      subst hTA
      subst hUA
      have hk1 : (k : Int) < (k : Int) + 1 := by omega
      have hzq := HbQ.out.size
      have hn1000 : N ≤ 1000 := HN1.out
      clear ha1 ha2 ha3 hy hMA HMO HST HSU HRK hum hrl hbB hd hv0 hv1 hq
      have hNew : BK (wq.alloc (.cells #[.int .i64 (y + a3)] 3)) wq.heap.size 3 #[.int .i64 (y + a3)] := BK.new _ _ _
      go_wp2_with (at_builtin; refine wpList_app rfl _ _ 27 rfl w8.heap.size 3 _ 1 8 Tryz.underlying27 infoI4 rfl (by decide) iC (some ⟨tb, to', none⟩) (k + 1) co _ rfl (HO2.out.alloc _) (y + a3) #[.int .i64 (y + a3)] rfl rfl 3 wq.heap.size rfl hNew (by simp [iC, Value.oneCell']) (by omega) (by omega) (by simp; omega) ?_; intro g' c9 wz hap; have HAP := Lib.hid hap; clear hap)
      have hbN := (HbQ.out.alloc hzq (.cells #[.int .i64 (y + a3)] 3)).trans HAP.out.bel
      go_roundw
      case rel => exact ⟨m, some ⟨g', 0, none⟩, c9, by have := HM.out; omega, by go_num, by rw [HM.out], by rw [HSU2.out]; have := HAP.out.own; rw [HM.out]; exact this, hbN⟩
      case measure => have := HM.out; simp [intOf]; omega
    case neg =>
    obtain rfl : N = k := by omega
    clear hlt hk
    have HRL := Lib.hid ((HO1.out.sl (fun _ => rfl)) : SL iC 1 wl wl.heap.size Ao (N + 1) (runL N (runW S R us)))
    have HP9 := Lib.hid ((HP8'.out.below HbL.out).more HbL.out.size)
    have HK9 := Lib.hid (HK8.out.call HbL.out)
    have HQ9 := Lib.hid (HQ8.out.call HbL.out)
    have HN10 : Hid (N ≤ 1000) := HN1.out
    clear HO1 HP8' HK8 HQ8 HX8 HY8 HM8 HZ8 HN1
    go_wp2_with fail
    have HFA : Hid (fitAll S R [] (runL N (runW S R us)) = (true, 0)) := by
      show _ = _
      rw [fitAll_ok (by unfold fitOkB; rw [(val_iff R).2 HOK.out, (spB_iff S).2 HSO.out, pB_ok ⟨Nat.zero_le _, fun i hi => absurd hi (Nat.not_lt_zero _)⟩, runL_len, HN.out, Int.toNat_natCast, decide_eq_true rfl]; rfl), runs_fit HRN.out]
    have HRG : Hid (∀ x ∈ runL N (runW S R us), -9223372036854775808 ≤ x ∧ x ≤ 9223372036854775807) := by
      intro x hx
      obtain ⟨i, hi, rfl⟩ := List.getElem_of_mem hx
      rw [runL_len] at hi
      have h1 := HRN.out.bd HSO.out HOK.out (b := i) (by omega)
      have h2 : (runL N (runW S R us))[i]? = some (runW S R us i) := runL_at (by omega)
      rw [List.getElem?_eq_getElem (by rw [runL_len]; omega)] at h2
      rw [Option.some.inj h2]
      omega
    refine (Fits_all pa pn pc ca cn cc ja jn jc R ra rn rc sa sn sc S none 0 0 [] Ao (N + 1) co (runL N (runW S R us)) _ (HR.out.grow HBL.out HBL.out.size) (HD.out.grow HBL.out HBL.out.size) SL.nil_ HRL.out (by omega) (by have := HN10.out; omega) HRG.out).mono ?_
    rintro e w20 ⟨rfl, hb⟩
    rw [HFA.out]
    dsimp only
    have HRL20 := Lib.hid ((HRL.out.below hb).more hb.size)
    have HP20 := Lib.hid ((HP9.out.below hb).more hb.size)
    have HK20 := Lib.hid (HK9.out.call hb)
    have HQ20 := Lib.hid (HQ9.out.call hb)
    have HB20 := Lib.hid (HBL.out.trans (hb.mono HBL.out.size))
    have HX20 := Lib.hid (HXl.out.below hb HXl.out.lt)
    clear hb HRG HFA HRL HP9 HK9 HQ9 HXl HYl HbL HBL r0 r1 r2 s0 s1 s2 s3
    obtain ⟨r0, r1, r2⟩ := roadbk HX20.out
    go_wp2_with fail
    have HSA : Hid (saidAll R cs (trigsL S R cs) (runL N (runW S R us)) = (saidL cs (trigsL S R cs) (runL N (runW S R us)) cs.length, 0)) := by
      show _ = _
      rw [saidAll_ok (by unfold saidOkB; rw [(val_iff R).2 HOK.out, cB_ok HCOK.out, trB_ok HTO.out, HN.out, Int.toNat_natCast, trB_ok (runs_tok HRN.out HSO.out HOK.out)]; rfl)]
    refine (Said_all pa pn pc ca cn cc ja jn jc R KA kn kc cs PW pn2 pc2 (trigsL S R cs) Ao (N + 1) co (runL N (runW S R us)) w20 (HR.out.grow HB20.out HB20.out.size) (HK20.out.sl caC_len) HP20.out HRL20.out (by have := HK2.out; omega) (by rw [HPN.out]; have := HK2.out; omega) (by have := HN10.out; omega)).mono ?_
    rintro e w21 ⟨EA, en, ec, rfl, hQ, hb⟩
    rw [HSA.out] at hQ ⊢
    dsimp only at hQ ⊢
    have hen : en = kn := by rw [hQ.1, saidL_len', HKN.out]
    rw [hen] at hQ ⊢
    have HE21 := Lib.hid hQ
    have HRL21 := Lib.hid ((HRL20.out.below hb).more hb.size)
    have HK21 := Lib.hid (HK20.out.call hb)
    have HQ21 := Lib.hid (HQ20.out.call hb)
    have HB21 := Lib.hid (HB20.out.trans (hb.mono HB20.out.size))
    have gkk : ((kn : Int) != (kn : Int)) = false := by simp
    clear hb HSA hQ hen HRL20 HP20 HK20 HQ20 HB20 HX20 r0 r1 r2
    go_wp2_with fail
    go_loopw [30] (fun iv wr => ∃ k : Nat, k ≤ kn ∧ iv = .int .i64 k ∧ Below w21.heap.size w21 wr) (fun iv _ => kn - (intOf iv).toNat)
    case atStart => exact ⟨0, Nat.zero_le _, rfl, Below.refl _ _⟩
    case round =>
      obtain ⟨k, hk, rfl, hbx⟩ := hrel
      have hk2' : kn ≤ 200 := HK2.out
      by_cases hlt : k < kn
      case pos =>
        have hkl : k < cs.length := by rw [← HKN.out]; exact hlt
        obtain ⟨q, z, h1, h2, hqN, hzN, h3, -⟩ := heard HSO.out HOK.out HN.out HCOK.out HTO.out HRN.out HGO.out hkl
        have hsl : k < (saidL cs (trigsL S R cs) (runL N (runW S R us)) cs.length).length := by rw [saidL_len']; exact hkl
        have hzl : z < (runL N (runW S R us)).length := by rw [runL_len]; omega
        obtain ⟨b1, o1, hA1, -, d0⟩ := IS.at_ ((HE21.out.below hbx).more hbx.size) (k := k) hsl
        obtain ⟨b2, o2, hA2, -, e0, e1, e2, e3, e4⟩ := KS5.at_ (HK21.out.call hbx |>.sl caC_len) (k := k) hkl
        obtain ⟨b3, o3, hA3, -, f0⟩ := IS.at_ ((HRL21.out.below hbx).more hbx.size) (k := z) hzl
        rw [Option.some.inj ((List.getElem?_eq_getElem hsl).symm.trans (saidL_at' hkl))] at d0
        rw [Option.some.inj ((List.getElem?_eq_getElem hzl).symm.trans (runL_at hzN))] at f0
        have heb := end_in (ls := trigsL S R cs) HCOK.out (runs_tok HRN.out HSO.out HOK.out) (k := k + 1) (by have := HK2.out; omega)
        have hvz := HRN.out.bd HSO.out HOK.out hzN
        have hle := HLE.out k hkl
        rw [h2] at e0
        rw [hle] at h3
        generalize cs[k]'hkl = x at e0 e1 e2 e3 e4 h2 h3 hle
        generalize endAt cs (trigsL S R cs) (runL N (runW S R us)) (k + 1) = E at d0 h3 heb
        generalize runW S R us z = vz at f0 h3 hvz
        have hw1 : IntKind.i64.wrap (E + lead) = E + lead := IntWalk.i64_in _ (by have := HLD.out; omega)
        have g1 : decide (vz < E + lead) = false := decide_eq_false (by omega)
        have hi1 : (0 : Int) ≤ (k : Int) := by omega
        have hi2 : (k : Int) < (kn : Int) := by omega
        have hi5 : (0 : Int) ≤ (z : Int) := by omega
        have hi6 : (z : Int) < (N : Int) + 1 := by omega
        clear h1 h2 h3 hkl hsl hzl heb hvz hle
        subst hA1
        subst hA2
        subst hA3
        go_wp2_with fail
        go_quiet (fail)
        go_wp2_with fail
        go_roundw
        case rel => exact ⟨k + 1, by omega, by go_num, below_drewN hbx _⟩
        case measure => simp [intOf]; omega
      case neg =>
      obtain rfl : k = kn := by omega
      have HKx := Lib.hid (HK21.out.call hbx)
      have HQx := Lib.hid (HQ21.out.call hbx)
      have HBx := Lib.hid (HB21.out.trans (hbx.mono HB21.out.size))
      have hQn := HQN.out
      clear hbx hlt HK21 HQ21 HB21 HE21 HRL21
      go_wp2_with fail
      go_loopw [31] (fun iv w' => ∃ j : Nat, j ≤ qn ∧ iv = .int .i64 j ∧ w' = wr) (fun iv _ => qn - (intOf iv).toNat)
      case atStart => exact ⟨0, Nat.zero_le _, rfl, rfl⟩
      case round =>
        obtain ⟨j, hj, rfl, rfl⟩ := hrel
        have hq15 : qn ≤ 15 := by rw [← HQN.out]; exact Nat.le_trans (crns_len _ _ _) HSZ.out.1
        by_cases hlt : j < qn
        case pos =>
          have hjl : j < (crns b.ga b.le R).length := by rw [HQN.out]; exact hlt
          obtain ⟨cb, off, hA, hbB, c0, c1, c2, c3, c4, c5, c6⟩ := KS.at_ (HQx.out.sl kC_len) (k := j) hjl
          obtain ⟨i, x, hx, hp⟩ := HCC.out _ (List.getElem_mem hjl)
          generalize (crns b.ga b.le R)[j]'hjl = E at *
          subst hA
          have hji : (j : Int) < (qn : Int) := by omega
          clear hbB hjl
          go_wp2_with fail
          refine (called_any KA k kc cs E.fr _ (HKx.out.sl caC_len) (by have := HK2.out; omega) hx hp).mono ?_
          rintro e w' ⟨rfl, rfl⟩
          go_wp2_with fail
          go_roundw
          case rel => exact ⟨j + 1, by omega, by go_num, trivial⟩
          case measure => simp [intOf]; omega
        case neg =>
        obtain rfl : j = qn := by omega
        go_wp2_with fail
        refine (known03_any _ (pow10_stays HT.out HBx.out (Nat.le_refl _))).mono ?_
        rintro e w9 ⟨rfl, hb9⟩
        go_wp2_with fail
        go_ret
        exact ⟨rfl, HBx.out.trans (hb9.mono HBx.out.size)⟩
end Go.Proofs.YtogkmnopggmdjaaGreatDoor
