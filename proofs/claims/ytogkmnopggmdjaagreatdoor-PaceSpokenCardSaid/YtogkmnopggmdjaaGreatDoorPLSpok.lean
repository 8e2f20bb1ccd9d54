/- PaceSpoken, walked. Printed by genspok.py. -/
import Derived.Test.YtogkmnopggmdjaaGreatDoorPPCal
import Derived.Test.YtogkmnopggmdjaaGreatDoorPRMan
import Derived.Test.YtogkmnopggmdjaaGreatDoorPKnown3
namespace Go.Proofs.YtogkmnopggmdjaaGreatDoor
open Go.RowKit Go.Shelf Go.Sort Go.Proofs

theorem sp2 {w : World} {g : Nat} {t : TypeId} {v0 v1 : Value} (h : BK w g t #[v0, v1]) : w.cell? ⟨g, 0, none⟩ = some v0 ∧ w.cell? ⟨g, 1, none⟩ = some v1 := by
  have c0 := h.cell 0
  have c1 := h.cell 1
  simp only [List.getElem?_toArray, List.getElem?_cons_zero, List.getElem?_cons_succ] at c0 c1
  exact ⟨c0, c1⟩
theorem few_all {R : Road} (h : fewB R = true) : R.ps.length ≤ 60 ∧ R.cs.length ≤ 40 ∧ R.js.length ≤ 40 := by
  unfold fewB at h
  simp only [Bool.and_eq_true, decide_eq_true_eq] at h
  exact h.2
theorem allS_take {v l : Int} (L : List NoteR) {k : Nat} (hk : k < L.length) : allS v l (L.take (k + 1)) = allS v l (L.take k) + lastS v l (nTxt (L[k]'hk)) := by
  rw [List.take_succ_eq_append_getElem hk, allS_app]
  simp [allS]
theorem allS_bd {v l : Int} (hv : 0 ≤ v ∧ v ≤ 10000000) (hl : 0 ≤ l ∧ l ≤ 1000000) : ∀ (L : List NoteR), (∀ n ∈ L, nVal n = true) → 0 ≤ allS v l L ∧ allS v l L ≤ 1000000000000 * L.length
  | [], _ => by simp [allS]
  | n :: r, h => by
    have h1 := allS_bd hv hl r (fun x hx => h x (List.mem_cons_of_mem _ hx))
    have h2 := lastS_le hv hl (h n (List.mem_cons_self ..))
    have h3 : allS v l (n :: r) = lastS v l (nTxt n) + allS v l r := by simp [allS]
    rw [h3, List.length_cons]
    omega
def sumC (cs : List CallR) (k : Nat) : Int := ((cs.take k).map CallR.lasts).sum
theorem sumC_succ (cs : List CallR) {k : Nat} (hk : k < cs.length) : sumC cs (k + 1) = sumC cs k + (cs[k]'hk).lasts := by
  unfold sumC
  rw [List.take_succ_eq_append_getElem hk, List.map_append, List.sum_append]
  simp
theorem sumC_bd {n : Int} {cs : List CallR} (hc : COK n cs) : ∀ k, k ≤ cs.length → 0 ≤ sumC cs k ∧ sumC cs k ≤ 1125899906842624 * k
  | 0, _ => by simp [sumC]
  | k + 1, h => by
    have h1 := sumC_bd hc k (by omega)
    have h2 := (hc.k k (by omega) _ (List.getElem?_eq_getElem (show k < cs.length by omega))).2.1
    rw [sumC_succ cs (show k < cs.length by omega)]
    simp only [inR, Bool.and_eq_true, decide_eq_true_eq] at h2
    rw [show maxM = 1125899906842624 from rfl] at h2
    omega
set_option maxRecDepth 100000 in
set_option maxHeartbeats 8000000 in
theorem LSpok_walk (v l : Int) (pa : Option Addr) (pn pc : Nat) (ca : Option Addr) (cn cc : Nat) (ja : Option Addr) (jn jc : Nat) (R : Road) (A : Option Addr) (c : Nat) (b : BkR) (w : World)
    (hr : RD w w.heap.size pa pn ca cn ja jn R) (h : SL iC 1 w w.heap.size A b.gs.length b.gs) (_ : b.gs.length ≤ 9223372036854775807) (hmx : pn ≤ 9223372036854775807) (ht : Lib.TabIs Tryz.prog w pow10N .u64 Lib.pow10Tab) :
    Calls Tryz.prog 3 #[.agg #[.slice pa pn pc, .slice ca cn cc, .slice ja jn jc], bkA A c b, .agg #[.int .i64 v, .int .i64 l]] w fun e w' => e = .returned (.bool true) ∧ Below w.heap.size w w' := by
  have hmo : Tryz.prog.follows .mixedOrders = true := by kernel_rfl
  obtain ⟨w0, hw0⟩ : ∃ w0, w0 = ((w.alloc (.cells #[.slice pa pn pc, .slice ca cn cc, .slice ja jn jc] 26)).alloc (.cells #[.slice A b.gs.length c, .int .i64 b.sh, .int .i64 b.lo, .int .i64 b.ra, .int .i64 b.an, .int .i64 b.io, .int .i64 b.st, .int .i64 b.ga, .int .i64 b.le] 31)).alloc (.cells #[.int .i64 v, .int .i64 l] 33) := ⟨_, rfl⟩
  have HX0 : Hid (BK w0 w.heap.size 26 #[.slice pa pn pc, .slice ca cn cc, .slice ja jn jc]) := by show BK _ _ _ _; rw [hw0]; exact ((BK.new w _ _).alloc _).alloc _
  have HM0 : Hid (BK w0 (w.heap.size + 1) 31 #[.slice A b.gs.length c, .int .i64 b.sh, .int .i64 b.lo, .int .i64 b.ra, .int .i64 b.an, .int .i64 b.io, .int .i64 b.st, .int .i64 b.ga, .int .i64 b.le]) := by
    show BK _ _ _ _
    have := BK.new (w.alloc (.cells #[.slice pa pn pc, .slice ca cn cc, .slice ja jn jc] 26)) 31 #[.slice A b.gs.length c, .int .i64 b.sh, .int .i64 b.lo, .int .i64 b.ra, .int .i64 b.an, .int .i64 b.io, .int .i64 b.st, .int .i64 b.ga, .int .i64 b.le]
    rw [World.size_alloc] at this
    rw [hw0]; exact this.alloc _
  have HZ0 : Hid (BK w0 (w.heap.size + 2) 33 #[.int .i64 v, .int .i64 l]) := by
    show BK _ _ _ _
    have := BK.new ((w.alloc (.cells #[.slice pa pn pc, .slice ca cn cc, .slice ja jn jc] 26)).alloc (.cells #[.slice A b.gs.length c, .int .i64 b.sh, .int .i64 b.lo, .int .i64 b.ra, .int .i64 b.an, .int .i64 b.io, .int .i64 b.st, .int .i64 b.ga, .int .i64 b.le] 31)) 33 #[.int .i64 v, .int .i64 l]
    rw [World.size_alloc, World.size_alloc] at this
    rw [hw0]; exact this
  have HB0 : Hid (Below w.heap.size w w0) := by show Below _ _ _; rw [hw0]; exact (((Below.refl _ w).alloc (Nat.le_refl _) _).alloc (by simp) _).alloc (by simp; omega) _
  have HR := Lib.hid hr
  have HS := Lib.hid h
  have HT := Lib.hid ht
  have HMX := Lib.hid hmx
  have HCNL : Hid (R.cs.length = cn) := hr.c.1.symm
  have HJNL : Hid (R.js.length = jn) := hr.j.1.symm
  have hman := fun (w1 : World) (h1 : Below w.heap.size w w1) => rmanual_any b A c w1 ((HS.out.below h1).more h1.size)
  unfold bkA at hman
  have HMA := Lib.hid hman
  obtain ⟨m0, m1, m2, m3, m4, m5, m6, m7, m8⟩ := bk9 HM0.out
  obtain ⟨r0, r1, r2⟩ := roadbk HX0.out
  obtain ⟨z0, z1⟩ := sp2 HZ0.out
  clear hr h ht hman
  unfold bkA
  go_enter Tryz.func3, Tryz.ntmps3
  go_wp2_with fail
  rw [← hw0]
  clear hw0
  go_wp2_with fail
  refine (few_any pa pn pc ca cn cc ja jn jc R _ (HR.out.grow HB0.out HB0.out.size) HMX.out).mono ?_
  rintro e w1 ⟨rfl, hb⟩
  have HB1 := Lib.hid (HB0.out.trans (hb.mono HB0.out.size))
  have HX1 := Lib.hid (HX0.out.below hb HX0.out.lt)
  have HM1 := Lib.hid (HM0.out.below hb HM0.out.lt)
  have HZ1 := Lib.hid (HZ0.out.below hb HZ0.out.lt)
  clear hb m0 m1 m2 m3 m4 m5 m6 m7 m8 r0 r1 r2 z0 z1 HX0 HM0 HZ0
  obtain ⟨m0, m1, m2, m3, m4, m5, m6, m7, m8⟩ := bk9 HM1.out
  obtain ⟨r0, r1, r2⟩ := roadbk HX1.out
  obtain ⟨z0, z1⟩ := sp2 HZ1.out
  cases hfw : fewB R with
  | false =>
    clear hfw
    go_wp2_with fail
    refine (known_any _).mono ?_
    rintro e w9 ⟨rfl, hb9⟩
    go_wp2_with fail
    go_ret
    exact ⟨rfl, HB1.out.trans (hb9.mono HB1.out.size)⟩
  | true =>
  have HFW := Lib.hid hfw
  clear hfw
  by_cases h8 : 20 < b.gs.length
  · have g8 : decide ((20 : Int) < (b.gs.length : Int)) = true := by simp; omega
    clear h8
    go_wp2_with fail
    refine (known_any _).mono ?_
    rintro e w9 ⟨rfl, hb9⟩
    go_wp2_with fail
    go_ret
    exact ⟨rfl, HB1.out.trans (hb9.mono HB1.out.size)⟩
  have g8 : decide ((20 : Int) < (b.gs.length : Int)) = false := by simp; omega
  clear h8
  go_wp2_with fail
  refine (Valid_any pa pn pc ca cn cc ja jn jc R _ (HR.out.grow HB1.out HB1.out.size)).mono ?_
  rintro e w2 ⟨rfl, hb⟩
  have HB2 := Lib.hid (HB1.out.trans (hb.mono HB1.out.size))
  have HX2 := Lib.hid (HX1.out.below hb HX1.out.lt)
  have HM2 := Lib.hid (HM1.out.below hb HM1.out.lt)
  have HZ2 := Lib.hid (HZ1.out.below hb HZ1.out.lt)
  clear hb m0 m1 m2 m3 m4 m5 m6 m7 m8 r0 r1 r2 z0 z1 HX1 HM1 HZ1
  obtain ⟨m0, m1, m2, m3, m4, m5, m6, m7, m8⟩ := bk9 HM2.out
  obtain ⟨r0, r1, r2⟩ := roadbk HX2.out
  obtain ⟨z0, z1⟩ := sp2 HZ2.out
  cases hvl : val R with
  | false =>
    clear hvl
    go_wp2_with fail
    refine (known_any _).mono ?_
    rintro e w9 ⟨rfl, hb9⟩
    go_wp2_with fail
    go_ret
    exact ⟨rfl, HB2.out.trans (hb9.mono HB2.out.size)⟩
  | true =>
  have HOK := Lib.hid ((val_iff R).1 hvl)
  clear hvl
  go_wp2_with fail
  refine (HMA.out _ HB2.out).mono ?_
  rintro e w3 ⟨ok, rfl, hok, hb⟩
  have HB3 := Lib.hid (HB2.out.trans (hb.mono HB2.out.size))
  have HX3 := Lib.hid (HX2.out.below hb HX2.out.lt)
  have HM3 := Lib.hid (HM2.out.below hb HM2.out.lt)
  have HZ3 := Lib.hid (HZ2.out.below hb HZ2.out.lt)
  clear hb m0 m1 m2 m3 m4 m5 m6 m7 m8 r0 r1 r2 z0 z1 HX2 HM2 HZ2
  obtain ⟨m0, m1, m2, m3, m4, m5, m6, m7, m8⟩ := bk9 HM3.out
  obtain ⟨r0, r1, r2⟩ := roadbk HX3.out
  obtain ⟨z0, z1⟩ := sp2 HZ3.out
  cases ok with
  | false =>
    clear hok
    go_wp2_with fail
    refine (known_any _).mono ?_
    rintro e w9 ⟨rfl, hb9⟩
    go_wp2_with fail
    go_ret
    exact ⟨rfl, HB3.out.trans (hb9.mono HB3.out.size)⟩
  | true =>
  have HV := Lib.hid (hok.1 rfl)
  clear hok g8 HMA
  go_wp2_with fail
  refine (rspeech_any v l _).mono ?_
  rintro e w4 ⟨rfl, hb⟩
  have HB4 := Lib.hid (HB3.out.trans (hb.mono HB3.out.size))
  have HX4 := Lib.hid (HX3.out.below hb HX3.out.lt)
  have HM4 := Lib.hid (HM3.out.below hb HM3.out.lt)
  have HZ4 := Lib.hid (HZ3.out.below hb HZ3.out.lt)
  clear hb m0 m1 m2 m3 m4 m5 m6 m7 m8 r0 r1 r2 z0 z1 HX3 HM3 HZ3
  obtain ⟨m0, m1, m2, m3, m4, m5, m6, m7, m8⟩ := bk9 HM4.out
  obtain ⟨r0, r1, r2⟩ := roadbk HX4.out
  obtain ⟨z0, z1⟩ := sp2 HZ4.out
  cases hsp : spchB v l with
  | false =>
    clear hsp
    go_wp2_with fail
    refine (known_any _).mono ?_
    rintro e w9 ⟨rfl, hb9⟩
    go_wp2_with fail
    go_ret
    exact ⟨rfl, HB4.out.trans (hb9.mono HB4.out.size)⟩
  | true =>
  have HSP := Lib.hid hsp
  clear hsp
  have hfa := few_all HFW.out
  have hcl := crns_len b.ga b.le R
  have hnn : R.js.length + R.cs.length + R.ps.length ≤ 200 := by omega
  have hnn3 : R.js.length + R.cs.length + (crns b.ga b.le R).length ≤ 300 := by omega
  have hml := makeL_len (b := b) (R := R)
  have HML : Hid ((makeL b R).length ≤ 400) := by show _ ≤ _; omega
  have hpc := fun (w1 : World) (h1 : Below w.heap.size w w1) => pCalls_ok b HV.out A c pa pn pc ca cn cc ja jn jc R HOK.out v l 0 0 HSP.out (by simp [inR]) (by simp [inR]) hnn w1 (HR.out.grow h1 h1.size) ((HS.out.below h1).more h1.size) (pow10_stays HT.out h1 (Nat.le_refl _))
  unfold bkA at hpc
  have hmk := fun (w1 : World) (h1 : Below w.heap.size w w1) => nMake_ok b HV.out A c pa pn pc ca cn cc ja jn jc R HOK.out w1 (HR.out.grow h1 h1.size) ((HS.out.below h1).more h1.size)
  unfold bkA at hmk
  have HMK := Lib.hid hmk
  have HVAL := Lib.hid (makeL_val HV.out HOK.out)
  have HSUM := Lib.hid (callsR_sum (b := b) HOK.out v l 0 0)
  have HCLN := Lib.hid (callsR_len (b := b) HOK.out v l 0 0)
  have HCOK : Hid (COK (sumL R.ps) (callsR b R v l 0 0)) := callsR_ok HV.out HOK.out (spch_bd HSP.out).1 (spch_bd HSP.out).2 (by unfold maxM; omega) (by unfold maxM; omega) hnn3
  have HCC : Hid (∀ k ∈ crns b.ga b.le R, ∃ i : Nat, ∃ x : CallR, (callsR b R v l 0 0)[i]? = some x ∧ x.place = k.fr) := fun k hk => callsR_corner HOK.out v l 0 0 hk
  obtain ⟨cs, hcs⟩ : ∃ cs, cs = callsR b R v l 0 0 := ⟨_, rfl⟩
  rw [← hcs] at hpc HSUM HCLN HCOK HCC
  have HPC := Lib.hid hpc
  have HN3 := Lib.hid hnn3
  clear hcl hnn hpc hcs hfa hml hmk hnn3
  go_wp2_with fail
  refine (HPC.out _ HB4.out).mono ?_
  rintro e w5 ⟨hb, KA, kc, rfl, hK⟩
  have HK5 := Lib.hid (hK.drop0 HB4.out.size)
  clear hK HPC
  have HB5 := Lib.hid (HB4.out.trans (hb.mono HB4.out.size))
  have HX5 := Lib.hid (HX4.out.below hb HX4.out.lt)
  have HM5 := Lib.hid (HM4.out.below hb HM4.out.lt)
  have HZ5 := Lib.hid (HZ4.out.below hb HZ4.out.lt)
  clear hb m0 m1 m2 m3 m4 m5 m6 m7 m8 r0 r1 r2 z0 z1 HX4 HM4 HZ4
  obtain ⟨m0, m1, m2, m3, m4, m5, m6, m7, m8⟩ := bk9 HM5.out
  obtain ⟨r0, r1, r2⟩ := roadbk HX5.out
  obtain ⟨z0, z1⟩ := sp2 HZ5.out
  obtain ⟨kn, hkn⟩ : ∃ kn, kn = cs.length := ⟨_, rfl⟩
  have HKN := Lib.hid hkn
  have HK5' : Hid (OW caC 5 49 w.heap.size w5 KA kn kc cs) := by show OW _ _ _ _ _ _ _ _ _; rw [hkn]; exact HK5.out
  have hkn2 : kn ≤ 300 := by rw [hkn, HCLN.out]; exact HN3.out
  have HK2 := Lib.hid hkn2
  rw [← hkn]
  clear hkn HK5 hkn2
  go_wp2_with fail
  refine (HMK.out _ HB5.out).mono ?_
  intro e w6 hm
  obtain ⟨hb, NA, nc, rfl, hO⟩ := rm_okC (Nat.le_trans HML.out (by decide)) hm
  have HN6 := Lib.hid (hO.drop0 HB5.out.size)
  have HK6 := Lib.hid (HK5'.out.call hb)
  clear hm hO HMK HK5'
  have HB6 := Lib.hid (HB5.out.trans (hb.mono HB5.out.size))
  have HX6 := Lib.hid (HX5.out.below hb HX5.out.lt)
  have HM6 := Lib.hid (HM5.out.below hb HM5.out.lt)
  have HZ6 := Lib.hid (HZ5.out.below hb HZ5.out.lt)
  clear hb m0 m1 m2 m3 m4 m5 m6 m7 m8 r0 r1 r2 z0 z1 HX5 HM5 HZ5
  obtain ⟨m0, m1, m2, m3, m4, m5, m6, m7, m8⟩ := bk9 HM6.out
  obtain ⟨r0, r1, r2⟩ := roadbk HX6.out
  obtain ⟨z0, z1⟩ := sp2 HZ6.out
  obtain ⟨nn, hnn⟩ : ∃ nn, nn = (makeL b R).length := ⟨_, rfl⟩
  have HNN := Lib.hid hnn
  have HN6' : Hid (OW nC 10 54 w.heap.size w6 NA nn nc (makeL b R)) := by show OW _ _ _ _ _ _ _ _ _; rw [hnn]; exact HN6.out
  have HN4 : Hid (nn ≤ 400) := by show _ ≤ _; rw [hnn]; exact HML.out
  rw [← hnn]
  clear hnn HN6
  go_wp2_with fail
  refine (Corners_in b.ga b.le pa pn pc ca cn cc ja jn jc R _ (HR.out.grow HB6.out HB6.out.size) HOK.out (by have := HV.out.ga1; have := HV.out.ga2; have := HV.out.le1; have := HV.out.le2; simp [bendsOk', inR]; omega)).mono ?_
  rintro e w7 ⟨QA, qn, qc, rfl, hQ, hb⟩
  have HQ7 := Lib.hid (hQ.drop0 HB6.out.size)
  have HQN : Hid ((crns b.ga b.le R).length = qn) := hQ.2.symm
  have HN7 := Lib.hid (HN6'.out.call hb)
  have HK7 := Lib.hid (HK6.out.call hb)
  clear hQ HN6' HK6
  have HB7 := Lib.hid (HB6.out.trans (hb.mono HB6.out.size))
  have HX7 := Lib.hid (HX6.out.below hb HX6.out.lt)
  have HM7 := Lib.hid (HM6.out.below hb HM6.out.lt)
  have HZ7 := Lib.hid (HZ6.out.below hb HZ6.out.lt)
  clear hb m0 m1 m2 m3 m4 m5 m6 m7 m8 r0 r1 r2 z0 z1 HX6 HM6 HZ6
  obtain ⟨m0, m1, m2, m3, m4, m5, m6, m7, m8⟩ := bk9 HM7.out
  obtain ⟨r0, r1, r2⟩ := roadbk HX7.out
  obtain ⟨z0, z1⟩ := sp2 HZ7.out
  have hq3 : jn + cn + qn ≤ 300 := by have := HN3.out; rw [HJNL.out, HCNL.out, HQN.out] at this; exact this
  have hkq : kn = qn + cn + jn := by rw [HKN.out, HCLN.out, HJNL.out, HCNL.out, HQN.out]; omega
  have hwa : IntKind.i64.wrap ((qn : Int) + (cn : Int)) = (qn : Int) + (cn : Int) := IntWalk.i64_in _ (by omega)
  have hwb : IntKind.i64.wrap ((qn : Int) + (cn : Int) + (jn : Int)) = (qn : Int) + (cn : Int) + (jn : Int) := IntWalk.i64_in _ (by omega)
  have gk : ((kn : Int) != (qn : Int) + (cn : Int) + (jn : Int)) = false := by simp; omega
  have HQ3 := Lib.hid hq3
  have HKQ := Lib.hid hkq
  clear hkq hq3
  go_wp2_with fail
  clear hwa hwb gk
  go_loopw [13, 15] (fun sv iv wr => ∃ k : Nat, k ≤ kn ∧ iv = .int .i64 k ∧ sv = .int .i64 (sumC cs k) ∧ Below w7.heap.size w7 wr) (fun _ iv _ => kn - (intOf iv).toNat)
  case atStart => exact ⟨0, Nat.zero_le _, rfl, rfl, Below.refl _ _⟩
  case round =>
    obtain ⟨k, hk, rfl, rfl, hbx⟩ := hrel
    have hk2' : kn ≤ 300 := HK2.out
    by_cases hlt : k < kn
    case pos =>
      have hkl : k < cs.length := by rw [← HKN.out]; exact hlt
      obtain ⟨b2, o2, hA2, -, e0, e1, -, -, -⟩ := KS5.at_ (HK7.out.call hbx |>.sl caC_len) (k := k) hkl
      have hsu := sumC_succ cs hkl
      have hs0 := sumC_bd HCOK.out k (by omega)
      have hs1 := sumC_bd HCOK.out (k + 1) (by omega)
      have HSU : Hid (sumC cs (k + 1) = sumC cs k + (cs[k]'hkl).lasts) := hsu
      have hka := (HCOK.out.k k hkl _ (List.getElem?_eq_getElem hkl)).2.2.2.2.2
      have HKA := Lib.hid hka
      have hw1 : IntKind.i64.wrap (sumC cs k + (cs[k]'hkl).lasts) = sumC cs k + (cs[k]'hkl).lasts := IntWalk.i64_in _ (by rw [← hsu]; have := HK2.out; omega)
      clear hsu hs0 hs1 hka
      by_cases h0 : k = 0
      · have g0 : decide ((0 : Int) < (k : Int)) = false := decide_eq_false (by omega)
        have g0n : decide (0 < k) = false := decide_eq_false (by omega)
        generalize sumC cs k = S0 at *
        generalize cs[k]'hkl = x at *
        subst hA2
        have hi2 : (k : Int) < (kn : Int) := by omega
        clear h0 hkl
        go_wp2_with fail
        go_quiet (fail)
        go_wp2_with fail
        go_roundw
        case rel => exact ⟨k + 1, by omega, by go_num, by rw [HSU.out], below_drewN hbx _⟩
        case measure => simp [intOf]; omega
      · obtain ⟨j, hj⟩ : ∃ j, k = j + 1 := ⟨k - 1, by omega⟩
        have hjl : j < cs.length := by omega
        obtain ⟨b3, o3, hA3, -, f0, -, -, -, -⟩ := KS5.at_ (HK7.out.call hbx |>.sl caC_len) (k := j) hjl
        have hle := HKA.out (cs[j]'hjl) (by omega) (by rw [show k - 1 = j by omega]; exact List.getElem?_eq_getElem hjl)
        generalize sumC cs k = S0 at *
        generalize cs[k]'hkl = x at *
        generalize (cs[j]'hjl).place = y at *
        rw [hA2] at hA3
        injection hA3 with hA3
        injection hA3 with hA3 hA4
        subst hA3
        subst hA4
        subst hA2
        have g0 : decide ((0 : Int) < (k : Int)) = true := decide_eq_true (by omega)
        have g0n : decide (0 < k) = true := decide_eq_true (by omega)
        have hwj : IntKind.i64.wrap ((k : Int) - 1) = (j : Int) := (IntWalk.i64_in _ (by omega)).trans (by omega)
        have gl : decide (x.place < y) = false := decide_eq_false (by omega)
        have hi2 : (k : Int) < (kn : Int) := by omega
        have hi3 : (j : Int) < (kn : Int) := by omega
        have hi4 : (0 : Int) ≤ (j : Int) := by omega
        have HJ := Lib.hid hj
        clear hj hle h0 hjl hkl
        go_wp2_with fail
        go_quiet (fail)
        go_wp2_with fail
        go_roundw
        case rel => exact ⟨k + 1, by omega, by go_num, by rw [HSU.out], below_drewN hbx _⟩
        case measure => simp [intOf]; omega
    case neg =>
    obtain rfl : k = kn := by omega
    obtain ⟨W8, hW8⟩ : ∃ x, x = wr := ⟨_, rfl⟩
    subst hW8
    have HS1 : Hid (sumC cs k = allS v l (makeL b R)) := by show _ = _; unfold sumC; rw [List.take_of_length_le (by rw [HKN.out]; exact Nat.le_refl _)]; exact HSUM.out
    have HN8 := Lib.hid (HN7.out.call hbx)
    have HK8 := Lib.hid (HK7.out.call hbx)
    have HQ8 := Lib.hid (HQ7.out.call hbx)
    have HZ8 := Lib.hid (HZ7.out.below hbx HZ7.out.lt)
    have HB8 := Lib.hid (HB7.out.trans (hbx.mono HB7.out.size))
    generalize sumC cs k = S0 at *
    clear hbx hlt hk m0 m1 m2 m3 m4 m5 m6 m7 m8 r0 r1 r2 z0 z1 HN7 HK7 HQ7 HZ7 HX7 HM7 HB7
    go_wp2_with fail
    go_loopw [14, 16] (fun av iv wr => ∃ j : Nat, j ≤ nn ∧ iv = .int .i64 j ∧ av = .int .i64 (allS v l ((makeL b R).take j)) ∧ Below W8.heap.size W8 wr) (fun _ iv _ => nn - (intOf iv).toNat)
    case atStart => exact ⟨0, Nat.zero_le _, rfl, rfl, Below.refl _ _⟩
    case round =>
      obtain ⟨j, hj, rfl, rfl, hbx⟩ := hrel
      have hn4' : nn ≤ 400 := HN4.out
      by_cases hlt : j < nn
      case pos =>
        have hjl : j < (makeL b R).length := by rw [← HNN.out]; exact hlt
        have hsu := allS_take (v := v) (l := l) _ hjl
        have hb0 := allS_bd (spch_bd HSP.out).1 (spch_bd HSP.out).2 ((makeL b R).take (j + 1)) (fun n hn => HVAL.out n (List.mem_of_mem_take hn))
        have hln : ((makeL b R).take (j + 1)).length ≤ 400 := Nat.le_trans (List.length_take_le' _ _) HML.out
        have hval := HVAL.out _ (List.getElem_mem hjl)
        have HBx := Lib.hid (HB8.out.trans (hbx.mono HB8.out.size))
        obtain ⟨eb, off, hA, hbB, c0', c1', c2', c3', c4', c5', c6', c7', c8', c9'⟩ := NS.at_ (HN8.out.call hbx |>.sl nC_len) hjl
        generalize (makeL b R)[j]'hjl = E at *
        obtain ⟨z0', z1'⟩ := sp2 (HZ8.out.below hbx HZ8.out.lt)
        have HSU := Lib.hid hsu
        have hlr : lastR ⟨E.k, E.tu, E.gr, E.lo, E.ch, E.ton, E.me, E.si, E.wa, E.ar⟩ v l = (lastS v l (nTxt E), 0) := by unfold lastR lastV; rw [if_pos HSP.out, if_pos hval]
        obtain ⟨t, ht⟩ : ∃ t, t = lastS v l (nTxt E) := ⟨_, rfl⟩
        rw [← ht] at hlr hsu HSU
        obtain ⟨S1, hS1⟩ : ∃ S1, S1 = allS v l ((makeL b R).take j) := ⟨_, rfl⟩
        rw [← hS1] at hsu HSU ⊢
        have hw1 : IntKind.i64.wrap (S1 + t) = S1 + t := IntWalk.i64_in _ (by rw [← hsu]; omega)
        have HLA : Hid (∀ d os, Calls Tryz.prog 13 #[.agg #[.int .i64 E.k, .int .i64 E.tu, .int .i64 E.gr, .int .i64 E.lo, .int .i64 E.ch, .int .i64 E.ton, .int .i64 E.me, .int .i64 E.si, .int .i64 E.wa, .int .i64 E.ar], .agg #[.int .i64 v, .int .i64 l]] (grow (redrawn wr d) os) fun e w' => e = .returned (.tuple #[.int .i64 t, .int .i64 0]) ∧ Below (grow (redrawn wr d) os).heap.size (grow (redrawn wr d) os) w') := by
          intro d os
          have := pLasts_any E.k E.tu E.gr E.lo E.ch E.ton E.me E.si E.wa E.ar v l (grow (redrawn wr d) os) (pow10_stays HT.out (HBx.out.trans ((below_regrown wr d os).mono HBx.out.size)) (Nat.le_refl _))
          rw [hlr] at this
          exact this
        have c0 := fun d os => cell_regrown c0' d os
        have c1 := fun d os => cell_regrown c1' d os
        have c2 := fun d os => cell_regrown c2' d os
        have c3 := fun d os => cell_regrown c3' d os
        have c4 := fun d os => cell_regrown c4' d os
        have c5 := fun d os => cell_regrown c5' d os
        have c6 := fun d os => cell_regrown c6' d os
        have c7 := fun d os => cell_regrown c7' d os
        have c8 := fun d os => cell_regrown c8' d os
        have c9 := fun d os => cell_regrown c9' d os
        have z0 := fun d os => cell_regrown z0' d os
        have z1 := fun d os => cell_regrown z1' d os
        subst hA
        have hji : (j : Int) < (nn : Int) := by omega
        clear hsu hb0 hln hval hlr ht hS1 hbB hjl c0' c1' c2' c3' c4' c5' c6' c7' c8' c9' z0' z1'
        go_wp2_with fail
        refine wp_region_ch 10 [5, 9] hmo (by kernel_rfl) ?_
        simp only [List.take_succ_cons, List.take_zero, List.drop_succ_cons, List.drop_zero]
        repeat (with_reducible refine wpC_q (by decide) (by decide) (fun K hK => ?_); go_simp; refine hK _ ?_; clear hK K)
        with_reducible refine wpC_c (ι := Unit) 13 #[.agg #[.int .i64 E.k, .int .i64 E.tu, .int .i64 E.gr, .int .i64 E.lo, .int .i64 E.ch, .int .i64 E.ton, .int .i64 E.me, .int .i64 E.si, .int .i64 E.wa, .int .i64 E.ar], .agg #[.int .i64 v, .int .i64 l]] (fun _ => .tuple #[.int .i64 t, .int .i64 0]) (fun _ _ => True) (by decide) (by decide) rfl (fun w => by go_simp) stable_true (fun _ => stable_true) (fun W hW _ => ?_) (fun i0 hs0 => ?_)
        · obtain ⟨pp, rfl⟩ := hW
          refine (HLA.out _ _).mono ?_
          rintro e w' ⟨rfl, hbl⟩
          exact ⟨(), rfl, trivial, hbl⟩
        repeat (with_reducible refine wpC_q (by decide) (by decide) (fun K hK => ?_); go_simp; refine hK _ ?_; clear hK K)
        refine wpC_v (ι := Unit) (fun _ => .int .i64 t) (fun _ _ => True) (by decide) (by decide) rfl hs0 (fun _ => stable_true) (fun W _ _ => ⟨(), W, by go_simp, trivial, Below.refl _ _⟩) (fun i1 hs1 => ?_)
        refine wpC_nil ?_
        intro wy hby _
        have HbY := Lib.hid (hbx.trans (hby.mono hbx.size))
        clear hs0 hs1 hby hbx HLA c0 c1 c2 c3 c4 c5 c6 c7 c8 c9 z0 z1
        go_wp2_with fail
        go_roundw
        case rel => exact ⟨j + 1, by omega, by go_num, by rw [HSU.out], HbY.out⟩
        case measure => simp [intOf]; omega
      case neg =>
      obtain rfl : j = nn := by omega
      obtain ⟨W9, hW9⟩ : ∃ x, x = wr := ⟨_, rfl⟩
      subst hW9
      have HS2 : Hid (allS v l ((makeL b R).take j) = S0) := by show _ = _; rw [List.take_of_length_le (by rw [HNN.out]; exact Nat.le_refl _), HS1.out]
      have HK9 := Lib.hid (HK8.out.call hbx)
      have HQ9 := Lib.hid (HQ8.out.call hbx)
      have HB9 := Lib.hid (HB8.out.trans (hbx.mono HB8.out.size))
      rw [HS2.out]
      clear hbx hlt hj HN8 HK8 HQ8 HZ8 HB8
      go_wp2_with fail
      go_loopw [19] (fun iv wy => ∃ q : Nat, q ≤ qn ∧ iv = .int .i64 q ∧ Below W9.heap.size W9 wy) (fun iv _ => qn - (intOf iv).toNat)
      case atStart => exact ⟨0, Nat.zero_le _, rfl, Below.refl _ _⟩
      case round =>
        obtain ⟨q, hq, rfl, hby⟩ := hrel
        have hq3' : jn + cn + qn ≤ 300 := HQ3.out
        by_cases hlt : q < qn
        case pos =>
          have hql : q < (crns b.ga b.le R).length := by rw [HQN.out]; exact hlt
          obtain ⟨i, x, hx, hp⟩ := HCC.out _ (List.getElem_mem hql)
          have hqi : (q : Int) < (qn : Int) := by omega
          obtain ⟨hil, hxe⟩ := List.getElem?_eq_some_iff.1 hx
          have hin : i < k := by rw [HKN.out]; exact hil
          have HIN := Lib.hid hin
          have HXE : Hid (∀ u (hu : u < cs.length), u = i → (cs[u]'hu).place = ((crns b.ga b.le R)[q]'hql).fr) := by
            intro u hu e
            subst e
            rw [hxe, hp]
          clear hx hp hxe hil hin
          obtain ⟨W10, hW10⟩ : ∃ x, x = wr := ⟨_, rfl⟩
          subst hW10
          go_wp2_with fail
          go_loopw [20, 21] (fun mv uv wz => ∃ (u : Nat) (m : Bool), u ≤ k ∧ uv = .int .i64 u ∧ mv = .bool m ∧ (m = true ∨ u ≤ i) ∧ Below W10.heap.size W10 wz) (fun _ uv _ => k - (intOf uv).toNat)
          case atStart => exact ⟨0, false, Nat.zero_le _, rfl, rfl, .inr (Nat.zero_le _), Below.refl _ _⟩
          case round =>
            obtain ⟨u, m, hu, rfl, rfl, hm, hbz⟩ := hrel
            have hk2' : k ≤ 300 := HK2.out
            by_cases hul : u < k
            case pos =>
              have hui : (u : Int) < (k : Int) := by omega
              cases m with
              | true =>
                clear hm
                go_wp2_with fail
                go_quiet (fail)
                go_wp2_with fail
                go_roundw
                case rel => exact ⟨u + 1, true, by omega, by go_num, rfl, .inl rfl, below_drewN hbz _⟩
                case measure => simp [intOf]; omega
              | false =>
                have huc : u < cs.length := by rw [← HKN.out]; exact hul
                have hbq := hby.trans (hbz.mono hby.size)
                obtain ⟨b2, o2, hA2, -, e0, -, -, -, -⟩ := KS5.at_ (HK9.out.call hbq |>.sl caC_len) (k := u) huc
                obtain ⟨b3, o3, hA3, -, f0, -, -, -, -, -, -⟩ := KS.at_ (HQ9.out.call hbq |>.sl kC_len) (k := q) hql
                have hpe := HXE.out u huc
                generalize (cs[u]'huc).place = P1 at *
                generalize ((crns b.ga b.le R)[q]'hql).fr = P2 at *
                obtain ⟨m2, hm2⟩ : ∃ m2, m2 = (P1 == P2) := ⟨_, rfl⟩
                have hor : m2 = true ∨ u + 1 ≤ i := by
                  by_cases hui2 : u = i
                  · left; rw [hm2, hpe hui2]; simp
                  · right; rcases hm with h | h
                    · cases h
                    · omega
                have gm : (P1 == P2) = m2 := hm2.symm
                have HOR := Lib.hid hor
                subst hA2
                subst hA3
                clear hm hm2 hor hpe huc hbq
                go_wp2_with fail
                go_quiet (fail)
                go_wp2_with fail
                go_roundw
                case rel => exact ⟨u + 1, m2, by omega, by go_num, rfl, HOR.out, below_drewN hbz _⟩
                case measure => simp [intOf]; omega
            case neg =>
            obtain rfl : u = k := by omega
            have hmt : m = true := by rcases hm with h | h; exact h; exact absurd HIN.out (by omega)
            subst hmt
            have HbZ := Lib.hid (hby.trans (hbz.mono hby.size))
            clear hm hbz hby
            go_wp2_with fail
            go_roundw
            case rel => exact ⟨q + 1, by omega, by go_num, HbZ.out⟩
            case measure => simp [intOf]; omega
        case neg =>
        obtain rfl : q = qn := by omega
        have HBy := Lib.hid (HB9.out.trans (hby.mono HB9.out.size))
        have gss : (S0 == S0) = true := by simp
        clear hby hlt hq
        go_wp2_with fail
        refine (known_any _).mono ?_
        rintro e w9 ⟨rfl, hb9⟩
        go_wp2_with fail
        go_ret
        exact ⟨rfl, HBy.out.trans (hb9.mono HBy.out.size)⟩
end Go.Proofs.YtogkmnopggmdjaaGreatDoor
