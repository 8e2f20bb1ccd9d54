/- NoteAgrees, walked. Printed by genagrees.py. -/
import Derived.Test.YtnmipejpjeakbaaGreatDoorTellP
import Derived.Test.YtnmipejpjeakbaaGreatDoorNLw
import Derived.Test.YtnmipejpjeakbaaGreatDoorSml2
import Derived.Test.YtnmipejpjeakbaaGreatDoorNWrg
import Derived.Test.YtnmipejpjeakbaaGreatDoorVReg9
namespace Go.Proofs.YtnmipejpjeakbaaGreatDoor
open Go.RowKit Go.Shelf Go.Sort Go.Proofs

theorem wr_corner {rg : MeanR → MeanR → Bool} {a b : BkR} {x : NoteR} (h : x.k ≠ 1) : wrB rg a b x = false := by unfold wrB; rw [decide_eq_false h]; rfl
/-- A list says of each place whether its note is not right. -/
theorem wr_at (rg : MeanR → MeanR → Bool) (a b : BkR) (xs : List NoteR) (i : Nat) (hi : i < xs.length) : decide (((i : Nat) : Int) ∈ wrL rg a b 0 xs) = wrB rg a b xs[i] := by
  rw [Bool.eq_iff_iff, decide_eq_true_eq, wrL_mem]
  constructor
  · rintro ⟨j, hj, h1, h2⟩
    obtain rfl : i = j := by omega
    exact h2
  · intro h
    exact ⟨i, hi, by simp, h⟩
theorem wr_own {a : BkR} {x : NoteR} (h : x.k = 1) : wrB rgC a a x = !(meanN a x).isSome := by
  unfold wrB
  rw [decide_eq_true h]
  cases meanN a x with
  | none => rfl
  | some p => simp [rgC_self]
theorem wr_clear {a b : BkR} {x : NoteR} (h : wrB rgC a b x = false) : wrB rgS a b x = false ∧ wrB rgS b a x = false := by
  by_cases hk : x.k = 1
  case neg => exact ⟨wr_corner hk, wr_corner hk⟩
  unfold wrB at *
  rw [decide_eq_true hk] at *
  simp only [Bool.true_and, Bool.not_eq_false'] at *
  revert h
  cases meanN a x with
  | none => intro h; cases h
  | some p =>
    cases meanN b x with
    | none => intro h; cases h
    | some q =>
      intro h
      obtain rfl := rgC_eq h
      exact ⟨rgS_self p, rgS_self p⟩
/-- The second book with the first one's grades and angles. -/
def mixB (a b : BkR) : BkR := ⟨a.gs, a.sh, a.lo, b.ra, b.an, b.io, b.st, b.ga, b.le⟩
theorem mix_ok {a b : BkR} (ha : BkOK a) (hb : BkOK b) : BkOK (mixB a b) := ⟨ha.n8, ha.sh1, ha.shl, ha.lo1, hb.ra1, hb.ra2, hb.an1, hb.an2, hb.io2, hb.st1, hb.st2, hb.ga1, hb.ga2, hb.le1, hb.le2, ha.rng, ha.inc⟩
theorem mix_mean (a b : BkR) (x : NoteR) : meanN (mixB a b) x = meanN a x := rfl
theorem made_clear {a b : BkR} (ha : BkOK a) {R : Road} (hv : OK R) : wrL rgC a (mixB a b) 0 (makeL a R) = [] := by
  have h : ∀ x ∈ makeL a R, wrB rgC a (mixB a b) x = false := by
    intro x hx
    by_cases hk : x.k = 1
    case neg => exact wr_corner hk
    have hf : x ∈ (makeL a R).filter (isK 1) := List.mem_filter.2 ⟨hx, by unfold isK; rw [hk]; rfl⟩
    rw [makeL_corners hv] at hf
    obtain ⟨k, hk1, rfl⟩ := List.mem_map.1 hf
    obtain ⟨-, -, m, hm, -⟩ := corn_tell ha hv hk1
    unfold wrB
    rw [decide_eq_true hk, mix_mean, hm]
    simp [rgC_self]
  cases hq : wrL rgC a (mixB a b) 0 (makeL a R) with
  | nil => rfl
  | cons v r =>
    obtain ⟨j, hj, -, h2⟩ := (wrL_mem rgC a (mixB a b) (makeL a R) 0 v).1 (by rw [hq]; simp)
    rw [h _ (List.getElem_mem hj)] at h2
    cases h2
set_option maxRecDepth 100000 in
set_option maxHeartbeats 8000000 in
theorem LAgrees_walk (A0 : Option Addr) (n c0 : Nat) (xs : List NoteR) (A1 : Option Addr) (c1 : Nat) (a : BkR) (A2 : Option Addr) (c2 : Nat) (b : BkR) (pa : Option Addr) (pn pc : Nat) (ca : Option Addr) (cn cc : Nat) (ja : Option Addr) (jn jc : Nat) (R : Road) (w : World)
    (hx : SL nC 10 w w.heap.size A0 n xs) (_ : n ≤ c0 ∧ n ≤ 9223372036854775807) (ha : SL iC 1 w w.heap.size A1 a.gs.length a.gs) (_ : a.gs.length ≤ 9223372036854775807) (hb : SL iC 1 w w.heap.size A2 b.gs.length b.gs) (_ : b.gs.length ≤ 9223372036854775807) (hr : RD w w.heap.size pa pn ca cn ja jn R) (_ : pn ≤ 9223372036854775807) (ht : Lib.TabIs Tryz.prog w pow10N .u64 Lib.pow10Tab) :
    Calls Tryz.prog 12 #[.slice A0 n c0, bkA A1 c1 a, bkA A2 c2 b, .agg #[.slice pa pn pc, .slice ca cn cc, .slice ja jn jc]] w fun e w' => e = .returned (.bool true) ∧ Below w.heap.size w w' := by
  have hmo : Tryz.prog.follows .mixedOrders = true := by kernel_rfl
  obtain ⟨w0, hw0⟩ : ∃ w0, w0 = ((w.alloc (.cells #[.slice A1 a.gs.length c1, .int .i64 a.sh, .int .i64 a.lo, .int .i64 a.ra, .int .i64 a.an, .int .i64 a.io, .int .i64 a.st, .int .i64 a.ga, .int .i64 a.le] 50)).alloc (.cells #[.slice A2 b.gs.length c2, .int .i64 b.sh, .int .i64 b.lo, .int .i64 b.ra, .int .i64 b.an, .int .i64 b.io, .int .i64 b.st, .int .i64 b.ga, .int .i64 b.le] 50)).alloc (.cells #[.slice pa pn pc, .slice ca cn cc, .slice ja jn jc] 63) := ⟨_, rfl⟩
  have HMA0 : Hid (BK w0 w.heap.size 50 #[.slice A1 a.gs.length c1, .int .i64 a.sh, .int .i64 a.lo, .int .i64 a.ra, .int .i64 a.an, .int .i64 a.io, .int .i64 a.st, .int .i64 a.ga, .int .i64 a.le]) := by show BK _ _ _ _; rw [hw0]; exact ((BK.new w _ _).alloc _).alloc _
  have HMB0 : Hid (BK w0 (w.heap.size + 1) 50 #[.slice A2 b.gs.length c2, .int .i64 b.sh, .int .i64 b.lo, .int .i64 b.ra, .int .i64 b.an, .int .i64 b.io, .int .i64 b.st, .int .i64 b.ga, .int .i64 b.le]) := by show BK _ _ _ _; rw [hw0]; exact (bk2 w _ _ _ _).alloc _
  have HX0 : Hid (BK w0 (w.heap.size + 1 + 1) 63 #[.slice pa pn pc, .slice ca cn cc, .slice ja jn jc]) := by
    show BK _ _ _ _
    rw [hw0]
    have := bk2 (w.alloc (.cells #[.slice A1 a.gs.length c1, .int .i64 a.sh, .int .i64 a.lo, .int .i64 a.ra, .int .i64 a.an, .int .i64 a.io, .int .i64 a.st, .int .i64 a.ga, .int .i64 a.le] 50)) 63 50 #[.slice pa pn pc, .slice ca cn cc, .slice ja jn jc] #[.slice A2 b.gs.length c2, .int .i64 b.sh, .int .i64 b.lo, .int .i64 b.ra, .int .i64 b.an, .int .i64 b.io, .int .i64 b.st, .int .i64 b.ga, .int .i64 b.le]
    rw [World.size_alloc] at this
    exact this
  have HB0 : Hid (Below w.heap.size w w0) := by show Below _ _ _; rw [hw0]; exact (((Below.refl _ w).alloc (Nat.le_refl _) _).alloc (by simp) _).alloc (by simp; omega) _
  have HLX := Lib.hid hx.1
  have HN := Lib.hid hx
  have HSA := Lib.hid ha
  have HSB := Lib.hid hb
  have HR := Lib.hid hr
  have HT := Lib.hid ht
  have hsml := fun (w1 : World) (h1 : Below w.heap.size w w1) => sml2_any pa pn pc ca cn cc ja jn jc R w1 ⟨(HR.out.p.below h1).more h1.size, (HR.out.c.below h1).more h1.size, (HR.out.j.below h1).more h1.size⟩
  have hval := fun (w1 : World) (h1 : Below w.heap.size w w1) => Valid_any pa pn pc ca cn cc ja jn jc R w1 ⟨(HR.out.p.below h1).more h1.size, (HR.out.c.below h1).more h1.size, (HR.out.j.below h1).more h1.size⟩
  have hfa := fun (w1 : World) => few2_any a A1 c1 w1
  have hfb := fun (w1 : World) => few2_any b A2 c2 w1
  have hma := fun (w1 : World) (h1 : Below w.heap.size w w1) => rmanual_any a A1 c1 w1 ((HSA.out.below h1).more h1.size)
  have hmb := fun (w1 : World) (h1 : Below w.heap.size w w1) => rmanual_any b A2 c2 w1 ((HSB.out.below h1).more h1.size)
  unfold bkA at hfa hfb hma hmb
  have HSM := Lib.hid hsml
  have HVA := Lib.hid hval
  have HFA := Lib.hid hfa
  have HFB := Lib.hid hfb
  have HMAN := Lib.hid hma
  have HMBN := Lib.hid hmb
  obtain ⟨m0, m1, m2, m3, m4, m5, m6, m7, m8⟩ := bk9 HMA0.out
  obtain ⟨l0, l1, l2, l3, l4, l5, l6, l7, l8⟩ := bk9 HMB0.out
  obtain ⟨r0, r1, r2⟩ := roadbk HX0.out
  clear hx ha hb hr ht hsml hval hfa hfb hma hmb
  unfold bkA
  by_cases hn : 20 < n
  · have g1 : decide ((20 : Int) < (n : Int)) = true := by simp; omega
    go_enter Tryz.func12, Tryz.ntmps12
    go_wp2_with fail
    rw [← hw0]
    clear hw0
    have HTK := Lib.hid (pow10_stays HT.out HB0.out (Nat.le_refl _))
    go_wp2_with fail
    refine (known2_any _ HTK.out).mono ?_
    rintro e w9 ⟨rfl, hb9⟩
    go_wp2_with fail
    go_ret
    exact ⟨rfl, HB0.out.trans (hb9.mono HB0.out.size)⟩
  have g1 : decide ((20 : Int) < (n : Int)) = false := by simp; omega
  have hn20 : n ≤ 20 := by omega
  clear hn
  go_enter Tryz.func12, Tryz.ntmps12
  go_wp2_with fail
  rw [← hw0]
  clear hw0
  go_wp2_with fail
  refine (rall_any A0 n c0 xs _ ((HN.out.below HB0.out).more HB0.out.size) (by omega)).mono ?_
  rintro e w1 ⟨rfl, hb⟩
  have HB1 := Lib.hid (HB0.out.trans (hb.mono HB0.out.size))
  have HMA1 := Lib.hid (HMA0.out.below hb HMA0.out.lt)
  have HMB1 := Lib.hid (HMB0.out.below hb HMB0.out.lt)
  have HX1 := Lib.hid (HX0.out.below hb HX0.out.lt)
  clear hb m0 m1 m2 m3 m4 m5 m6 m7 m8 l0 l1 l2 l3 l4 l5 l6 l7 l8 r0 r1 r2 HMA0 HMB0 HX0
  obtain ⟨m0, m1, m2, m3, m4, m5, m6, m7, m8⟩ := bk9 HMA1.out
  obtain ⟨l0, l1, l2, l3, l4, l5, l6, l7, l8⟩ := bk9 HMB1.out
  obtain ⟨r0, r1, r2⟩ := roadbk HX1.out
  cases hall : xs.all nVal with
  | false =>
    clear hall
    have HTK := Lib.hid (pow10_stays HT.out HB1.out (Nat.le_refl _))
    go_wp2_with fail
    refine (known2_any _ HTK.out).mono ?_
    rintro e w9 ⟨rfl, hb9⟩
    go_wp2_with fail
    go_ret
    exact ⟨rfl, HB1.out.trans (hb9.mono HB1.out.size)⟩
  | true =>
  have HALL := Lib.hid hall
  clear hall
  go_wp2_with fail
  refine (HFA.out _).mono ?_
  rintro e w2 ⟨rfl, hb⟩
  have HB2 := Lib.hid (HB1.out.trans (hb.mono HB1.out.size))
  have HMA2 := Lib.hid (HMA1.out.below hb HMA1.out.lt)
  have HMB2 := Lib.hid (HMB1.out.below hb HMB1.out.lt)
  have HX2 := Lib.hid (HX1.out.below hb HX1.out.lt)
  clear hb m0 m1 m2 m3 m4 m5 m6 m7 m8 l0 l1 l2 l3 l4 l5 l6 l7 l8 r0 r1 r2 HMA1 HMB1 HX1
  obtain ⟨m0, m1, m2, m3, m4, m5, m6, m7, m8⟩ := bk9 HMA2.out
  obtain ⟨l0, l1, l2, l3, l4, l5, l6, l7, l8⟩ := bk9 HMB2.out
  obtain ⟨r0, r1, r2⟩ := roadbk HX2.out
  cases hf : decide (a.gs.length ≤ 12) with
  | false =>
    clear hf
    have HTK := Lib.hid (pow10_stays HT.out HB2.out (Nat.le_refl _))
    go_wp2_with fail
    refine (known2_any _ HTK.out).mono ?_
    rintro e w9 ⟨rfl, hb9⟩
    go_wp2_with fail
    go_ret
    exact ⟨rfl, HB2.out.trans (hb9.mono HB2.out.size)⟩
  | true =>
  clear hf
  go_wp2_with fail
  refine (HFB.out _).mono ?_
  rintro e w3 ⟨rfl, hb⟩
  have HB3 := Lib.hid (HB2.out.trans (hb.mono HB2.out.size))
  have HMA3 := Lib.hid (HMA2.out.below hb HMA2.out.lt)
  have HMB3 := Lib.hid (HMB2.out.below hb HMB2.out.lt)
  have HX3 := Lib.hid (HX2.out.below hb HX2.out.lt)
  clear hb m0 m1 m2 m3 m4 m5 m6 m7 m8 l0 l1 l2 l3 l4 l5 l6 l7 l8 r0 r1 r2 HMA2 HMB2 HX2
  obtain ⟨m0, m1, m2, m3, m4, m5, m6, m7, m8⟩ := bk9 HMA3.out
  obtain ⟨l0, l1, l2, l3, l4, l5, l6, l7, l8⟩ := bk9 HMB3.out
  obtain ⟨r0, r1, r2⟩ := roadbk HX3.out
  cases hf : decide (b.gs.length ≤ 12) with
  | false =>
    clear hf
    have HTK := Lib.hid (pow10_stays HT.out HB3.out (Nat.le_refl _))
    go_wp2_with fail
    refine (known2_any _ HTK.out).mono ?_
    rintro e w9 ⟨rfl, hb9⟩
    go_wp2_with fail
    go_ret
    exact ⟨rfl, HB3.out.trans (hb9.mono HB3.out.size)⟩
  | true =>
  clear hf
  go_wp2_with fail
  refine (HMAN.out _ HB3.out).mono ?_
  rintro e w4 ⟨ok, rfl, hok, hb⟩
  have HB4 := Lib.hid (HB3.out.trans (hb.mono HB3.out.size))
  have HMA4 := Lib.hid (HMA3.out.below hb HMA3.out.lt)
  have HMB4 := Lib.hid (HMB3.out.below hb HMB3.out.lt)
  have HX4 := Lib.hid (HX3.out.below hb HX3.out.lt)
  clear hb m0 m1 m2 m3 m4 m5 m6 m7 m8 l0 l1 l2 l3 l4 l5 l6 l7 l8 r0 r1 r2 HMA3 HMB3 HX3
  obtain ⟨m0, m1, m2, m3, m4, m5, m6, m7, m8⟩ := bk9 HMA4.out
  obtain ⟨l0, l1, l2, l3, l4, l5, l6, l7, l8⟩ := bk9 HMB4.out
  obtain ⟨r0, r1, r2⟩ := roadbk HX4.out
  cases ok with
  | false =>
    clear hok
    have HTK := Lib.hid (pow10_stays HT.out HB4.out (Nat.le_refl _))
    go_wp2_with fail
    refine (known2_any _ HTK.out).mono ?_
    rintro e w9 ⟨rfl, hb9⟩
    go_wp2_with fail
    go_ret
    exact ⟨rfl, HB4.out.trans (hb9.mono HB4.out.size)⟩
  | true =>
  have HVa := Lib.hid (hok.1 rfl)
  clear hok
  go_wp2_with fail
  refine (HMBN.out _ HB4.out).mono ?_
  rintro e w5 ⟨ok, rfl, hok, hb⟩
  have HB5 := Lib.hid (HB4.out.trans (hb.mono HB4.out.size))
  have HMA5 := Lib.hid (HMA4.out.below hb HMA4.out.lt)
  have HMB5 := Lib.hid (HMB4.out.below hb HMB4.out.lt)
  have HX5 := Lib.hid (HX4.out.below hb HX4.out.lt)
  clear hb m0 m1 m2 m3 m4 m5 m6 m7 m8 l0 l1 l2 l3 l4 l5 l6 l7 l8 r0 r1 r2 HMA4 HMB4 HX4
  obtain ⟨m0, m1, m2, m3, m4, m5, m6, m7, m8⟩ := bk9 HMA5.out
  obtain ⟨l0, l1, l2, l3, l4, l5, l6, l7, l8⟩ := bk9 HMB5.out
  obtain ⟨r0, r1, r2⟩ := roadbk HX5.out
  cases ok with
  | false =>
    clear hok
    have HTK := Lib.hid (pow10_stays HT.out HB5.out (Nat.le_refl _))
    go_wp2_with fail
    refine (known2_any _ HTK.out).mono ?_
    rintro e w9 ⟨rfl, hb9⟩
    go_wp2_with fail
    go_ret
    exact ⟨rfl, HB5.out.trans (hb9.mono HB5.out.size)⟩
  | true =>
  have HVb := Lib.hid (hok.1 rfl)
  clear hok
  go_wp2_with fail
  refine (HSM.out _ HB5.out).mono ?_
  rintro e w6 ⟨ok, rfl, hok, hb⟩
  have HB6 := Lib.hid (HB5.out.trans (hb.mono HB5.out.size))
  have HMA6 := Lib.hid (HMA5.out.below hb HMA5.out.lt)
  have HMB6 := Lib.hid (HMB5.out.below hb HMB5.out.lt)
  have HX6 := Lib.hid (HX5.out.below hb HX5.out.lt)
  clear hb m0 m1 m2 m3 m4 m5 m6 m7 m8 l0 l1 l2 l3 l4 l5 l6 l7 l8 r0 r1 r2 HMA5 HMB5 HX5
  obtain ⟨m0, m1, m2, m3, m4, m5, m6, m7, m8⟩ := bk9 HMA6.out
  obtain ⟨l0, l1, l2, l3, l4, l5, l6, l7, l8⟩ := bk9 HMB6.out
  obtain ⟨r0, r1, r2⟩ := roadbk HX6.out
  cases ok with
  | false =>
    clear hok
    have HTK := Lib.hid (pow10_stays HT.out HB6.out (Nat.le_refl _))
    go_wp2_with fail
    refine (known2_any _ HTK.out).mono ?_
    rintro e w9 ⟨rfl, hb9⟩
    go_wp2_with fail
    go_ret
    exact ⟨rfl, HB6.out.trans (hb9.mono HB6.out.size)⟩
  | true =>
  have HSZ := Lib.hid (hok rfl)
  clear hok
  go_wp2_with fail
  refine (HVA.out _ HB6.out).mono ?_
  rintro e w7 ⟨rfl, hb⟩
  have HB7 := Lib.hid (HB6.out.trans (hb.mono HB6.out.size))
  have HMA7 := Lib.hid (HMA6.out.below hb HMA6.out.lt)
  have HMB7 := Lib.hid (HMB6.out.below hb HMB6.out.lt)
  have HX7 := Lib.hid (HX6.out.below hb HX6.out.lt)
  clear hb m0 m1 m2 m3 m4 m5 m6 m7 m8 l0 l1 l2 l3 l4 l5 l6 l7 l8 r0 r1 r2 HMA6 HMB6 HX6
  obtain ⟨m0, m1, m2, m3, m4, m5, m6, m7, m8⟩ := bk9 HMA7.out
  obtain ⟨l0, l1, l2, l3, l4, l5, l6, l7, l8⟩ := bk9 HMB7.out
  obtain ⟨r0, r1, r2⟩ := roadbk HX7.out
  cases hv : val R with
  | false =>
    clear hv
    have HTK := Lib.hid (pow10_stays HT.out HB7.out (Nat.le_refl _))
    go_wp2_with fail
    refine (known2_any _ HTK.out).mono ?_
    rintro e w9 ⟨rfl, hb9⟩
    go_wp2_with fail
    go_ret
    exact ⟨rfl, HB7.out.trans (hb9.mono HB7.out.size)⟩
  | true =>
  have HOK := Lib.hid ((val_iff R).1 hv)
  clear hv HSM HVA HFA HFB HMAN HMBN g1
  have huc := fun (u v : BkR) (hu : BkOK u) (hv : BkOK v) (Au Av : Option Addr) (cu cv : Nat) (w1 : World) (h1 : Below w.heap.size w w1) (su : SL iC 1 w w.heap.size Au u.gs.length u.gs) (sv : SL iC 1 w w.heap.size Av v.gs.length v.gs) => nUnclear_any xs A0 n c0 u hu Au cu v hv Av cv w1 ((HN.out.below h1).more h1.size) ((su.below h1).more h1.size) ((sv.below h1).more h1.size) (by omega) HALL.out
  have hus := fun (u v : BkR) (hu : BkOK u) (hv : BkOK v) (Au Av : Option Addr) (cu cv : Nat) (w1 : World) (h1 : Below w.heap.size w w1) (su : SL iC 1 w w.heap.size Au u.gs.length u.gs) (sv : SL iC 1 w w.heap.size Av v.gs.length v.gs) => nUnsafe_any xs A0 n c0 u hu Au cu v hv Av cv w1 ((HN.out.below h1).more h1.size) ((su.below h1).more h1.size) ((sv.below h1).more h1.size) (by omega) HALL.out
  unfold bkA at huc hus
  have HUC := Lib.hid huc
  have HUS := Lib.hid hus
  clear huc hus
  have hlx : ∀ (rg : MeanR → MeanR → Bool) (u v : BkR), (wrL rg u v 0 xs).length ≤ 100000 := fun rg u v => by have := wrL_len rg u v xs 0; have := HLX.out; omega
  have HLW := Lib.hid hlx
  clear hlx
  go_wp2_with fail
  refine (HUC.out a a HVa.out HVa.out A1 A1 c1 c1 _ HB7.out HSA.out HSA.out).mono ?_
  rintro e w8 ⟨O1, o1, rfl, hO, hb⟩
  have HO18 := Lib.hid (hO.sl iC_len)
  clear hO
  have HB8 := Lib.hid (HB7.out.trans (hb.mono HB7.out.size))
  have HMA8 := Lib.hid (HMA7.out.below hb HMA7.out.lt)
  have HMB8 := Lib.hid (HMB7.out.below hb HMB7.out.lt)
  have HX8 := Lib.hid (HX7.out.below hb HX7.out.lt)
  clear hb m0 m1 m2 m3 m4 m5 m6 m7 m8 l0 l1 l2 l3 l4 l5 l6 l7 l8 r0 r1 r2 HMA7 HMB7 HX7
  obtain ⟨m0, m1, m2, m3, m4, m5, m6, m7, m8⟩ := bk9 HMA8.out
  obtain ⟨l0, l1, l2, l3, l4, l5, l6, l7, l8⟩ := bk9 HMB8.out
  obtain ⟨r0, r1, r2⟩ := roadbk HX8.out
  go_wp2_with fail
  refine (HUC.out a b HVa.out HVb.out A1 A2 c1 c2 _ HB8.out HSA.out HSB.out).mono ?_
  rintro e w9 ⟨O2, o2, rfl, hO, hb⟩
  have HO29 := Lib.hid (hO.sl iC_len)
  have HO19 := Lib.hid (HO18.out.grow hb hb.size)
  clear hO
  have HB9 := Lib.hid (HB8.out.trans (hb.mono HB8.out.size))
  have HMA9 := Lib.hid (HMA8.out.below hb HMA8.out.lt)
  have HMB9 := Lib.hid (HMB8.out.below hb HMB8.out.lt)
  have HX9 := Lib.hid (HX8.out.below hb HX8.out.lt)
  clear hb m0 m1 m2 m3 m4 m5 m6 m7 m8 l0 l1 l2 l3 l4 l5 l6 l7 l8 r0 r1 r2 HMA8 HMB8 HX8
  obtain ⟨m0, m1, m2, m3, m4, m5, m6, m7, m8⟩ := bk9 HMA9.out
  obtain ⟨l0, l1, l2, l3, l4, l5, l6, l7, l8⟩ := bk9 HMB9.out
  obtain ⟨r0, r1, r2⟩ := roadbk HX9.out
  go_wp2_with fail
  refine (HUS.out a b HVa.out HVb.out A1 A2 c1 c2 _ HB9.out HSA.out HSB.out).mono ?_
  rintro e w10 ⟨O3, o3, rfl, hO, hb⟩
  have HO3t := Lib.hid (hO.sl iC_len)
  have HO1t := Lib.hid (HO19.out.grow hb hb.size)
  have HO2t := Lib.hid (HO29.out.grow hb hb.size)
  clear hO
  have HBt := Lib.hid (HB9.out.trans (hb.mono HB9.out.size))
  have HMAt := Lib.hid (HMA9.out.below hb HMA9.out.lt)
  have HMBt := Lib.hid (HMB9.out.below hb HMB9.out.lt)
  have HXt := Lib.hid (HX9.out.below hb HX9.out.lt)
  clear hb m0 m1 m2 m3 m4 m5 m6 m7 m8 l0 l1 l2 l3 l4 l5 l6 l7 l8 r0 r1 r2 HMA9 HMB9 HX9
  obtain ⟨m0, m1, m2, m3, m4, m5, m6, m7, m8⟩ := bk9 HMAt.out
  obtain ⟨l0, l1, l2, l3, l4, l5, l6, l7, l8⟩ := bk9 HMBt.out
  obtain ⟨r0, r1, r2⟩ := roadbk HXt.out
  go_wp2_with fail
  refine (HUS.out b a HVb.out HVa.out A2 A1 c2 c1 _ HBt.out HSB.out HSA.out).mono ?_
  rintro e w11 ⟨O4, o4, rfl, hO, hb⟩
  have HO4 := Lib.hid (hO.sl iC_len)
  have HO1 := Lib.hid (HO1t.out.grow hb hb.size)
  have HO2 := Lib.hid (HO2t.out.grow hb hb.size)
  have HO3 := Lib.hid (HO3t.out.grow hb hb.size)
  clear hO
  have HBu := Lib.hid (HBt.out.trans (hb.mono HBt.out.size))
  have HMAu := Lib.hid (HMAt.out.below hb HMAt.out.lt)
  have HMBu := Lib.hid (HMBt.out.below hb HMBt.out.lt)
  have HXu := Lib.hid (HXt.out.below hb HXt.out.lt)
  clear hb m0 m1 m2 m3 m4 m5 m6 m7 m8 l0 l1 l2 l3 l4 l5 l6 l7 l8 r0 r1 r2 HMAt HMBt HXt
  obtain ⟨m0, m1, m2, m3, m4, m5, m6, m7, m8⟩ := bk9 HMAu.out
  obtain ⟨l0, l1, l2, l3, l4, l5, l6, l7, l8⟩ := bk9 HMBu.out
  obtain ⟨r0, r1, r2⟩ := roadbk HXu.out
  clear HO18 HO19 HO29 HO1t HO2t HO3t HUC HUS
  have HL1 : Hid ((wrL rgC a a 0 xs).length ≤ 100000) := HLW.out _ _ _
  have HL2 : Hid ((wrL rgC a b 0 xs).length ≤ 100000) := HLW.out _ _ _
  have HL3 : Hid ((wrL rgS a b 0 xs).length ≤ 100000) := HLW.out _ _ _
  have HL4 : Hid ((wrL rgS b a 0 xs).length ≤ 100000) := HLW.out _ _ _
  have HW1 := Lib.hid (wr_at rgC a a xs)
  have HW2 := Lib.hid (wr_at rgC a b xs)
  have HW3 := Lib.hid (wr_at rgS a b xs)
  have HW4 := Lib.hid (wr_at rgS b a xs)
  generalize wrL rgC a a 0 xs = L1 at *
  generalize wrL rgC a b 0 xs = L2 at *
  generalize wrL rgS a b 0 xs = L3 at *
  generalize wrL rgS b a 0 xs = L4 at *
  have HN11 := Lib.hid ((HN.out.below HBu.out).more HBu.out.size)
  go_wp2_with fail
  clear m0 m1 m2 m3 m4 m5 m6 m7 m8 l0 l1 l2 l3 l4 l5 l6 l7 l8 r0 r1 r2 HB1 HB2 HB3 HB4 HB5 HB6 HB7 HB8 HB9 HBt HB0 HLW
  go_loopw [17, 18, 19] (fun iv _ _ wr => ∃ i : Nat, i ≤ n ∧ iv = .int .i64 (i : Nat) ∧ Below w11.heap.size w11 wr) (fun iv _ _ _ => n - (intOf iv).toNat)
  case atStart => exact ⟨0, Nat.zero_le _, rfl, Below.refl _ _⟩
  case round =>
    obtain ⟨i, hi, rfl, hbr⟩ := hrel
    have HBr := Lib.hid hbr
    clear hbr
    by_cases hin : i < n
    case neg =>
      obtain rfl : i = n := by omega
      have gi : decide ((i : Int) < (i : Int)) = false := by simp
      have HMAr := Lib.hid (HMAu.out.below HBr.out HMAu.out.lt)
      have HMBr := Lib.hid (HMBu.out.below HBr.out HMBu.out.lt)
      have HXr := Lib.hid (HXu.out.below HBr.out HXu.out.lt)
      have HBw := Lib.hid (HBu.out.trans (HBr.out.mono HBu.out.size))
      obtain ⟨m0, m1, m2, m3, m4, m5, m6, m7, m8⟩ := bk9 HMAr.out
      obtain ⟨l0, l1, l2, l3, l4, l5, l6, l7, l8⟩ := bk9 HMBr.out
      have lf := HMBr.out.frozen
      have hne : w.heap.size ≠ w.heap.size + 1 := by omega
      have hne2 : w.heap.size + 1 + 1 ≠ w.heap.size + 1 := by omega
      have HNE := Lib.hid hne2
      clear HW1 HW2 HW3 HW4 HO1 HO2 HO3 HO4 HL1 HL2 HL3 HL4 hne2
      go_wp2_with fail
      go_region
      clear m0 m1 m2 m3 m4 m5 m6 m7 m8 l0 l1 l2 l3 l4 l5 l6 l7 l8 lf
      obtain ⟨wk, hwk⟩ : ∃ wk, wk = (((wr.setCell ⟨w.heap.size + 1, 0, none⟩ (.slice A1 a.gs.length c1)).setCell ⟨w.heap.size + 1, 1, none⟩ (.int .i64 a.sh)).setCell ⟨w.heap.size + 1, 2, none⟩ (.int .i64 a.lo)).drew := ⟨_, rfl⟩
      have HBk : Hid (Below w.heap.size w wk) := by show Below _ _ _; rw [hwk]; exact (((HBw.out.setCell (p := ⟨w.heap.size + 1, 0, none⟩) (by simp) _).setCell (p := ⟨w.heap.size + 1, 1, none⟩) (by simp) _).setCell (p := ⟨w.heap.size + 1, 2, none⟩) (by simp) _).drew
      have HMAk : Hid (BK wk w.heap.size 50 #[.slice A1 a.gs.length c1, .int .i64 a.sh, .int .i64 a.lo, .int .i64 a.ra, .int .i64 a.an, .int .i64 a.io, .int .i64 a.st, .int .i64 a.ga, .int .i64 a.le]) := by show BK _ _ _ _; rw [hwk]; exact (((HMAr.out.far (p := ⟨w.heap.size + 1, 0, none⟩) hne _).far (p := ⟨w.heap.size + 1, 1, none⟩) hne _).far (p := ⟨w.heap.size + 1, 2, none⟩) hne _).drew
      have HMBk : Hid (BK wk (w.heap.size + 1) 50 #[.slice A1 a.gs.length c1, .int .i64 a.sh, .int .i64 a.lo, .int .i64 b.ra, .int .i64 b.an, .int .i64 b.io, .int .i64 b.st, .int .i64 b.ga, .int .i64 b.le]) := by show BK _ _ _ _; rw [hwk]; exact (((HMBr.out.set_ 0 _).set_ 1 _).set_ 2 _).drew
      have HXk : Hid (BK wk (w.heap.size + 1 + 1) 63 #[.slice pa pn pc, .slice ca cn cc, .slice ja jn jc]) := by show BK _ _ _ _; rw [hwk]; exact (((HXr.out.far (p := ⟨w.heap.size + 1, 0, none⟩) HNE.out _).far (p := ⟨w.heap.size + 1, 1, none⟩) HNE.out _).far (p := ⟨w.heap.size + 1, 2, none⟩) HNE.out _).drew
      rw [← hwk]
      clear hwk HMAr HMBr HXr HBw hne
      have hml : (makeL a R).length ≤ 2000 := by have h1 := makeL_len (b := a) (R := R); have := HSZ.out; omega
      have hmk := nMake_ok a HVa.out A1 c1 pa pn pc ca cn cc ja jn jc R HOK.out wk ⟨(HR.out.p.below HBk.out).more HBk.out.size, (HR.out.c.below HBk.out).more HBk.out.size, (HR.out.j.below HBk.out).more HBk.out.size⟩ ((HSA.out.below HBk.out).more HBk.out.size)
      have huc := fun (A9 : Option Addr) (c9 : Nat) (w1 : World) (h1 : Below w.heap.size w w1) (hs : SL nC 10 w1 w1.heap.size A9 (makeL a R).length (makeL a R)) => nUnclear_any (makeL a R) A9 (makeL a R).length c9 a HVa.out A1 c1 (mixB a b) (mix_ok HVa.out HVb.out) A1 c1 w1 hs ((HSA.out.below h1).more h1.size) ((HSA.out.below h1).more h1.size) hml (List.all_eq_true.2 (makeL_val HVa.out HOK.out))
      rw [made_clear HVa.out HOK.out] at huc
      unfold bkA at hmk huc
      simp only [mixB, List.length_nil] at huc
      have HMK := Lib.hid hmk
      have HUC := Lib.hid huc
      have HML := Lib.hid hml
      obtain ⟨m0, m1, m2, m3, m4, m5, m6, m7, m8⟩ := bk9 HMAk.out
      obtain ⟨r0, r1, r2⟩ := roadbk HXk.out
      clear hmk huc hml
      go_wp2_with fail
      refine HMK.out.mono ?_
      rintro e wm hRM
      obtain ⟨hb, LA, lc, rfl, hO⟩ := rm_ok HML.out hRM
      have HSM := Lib.hid (hO.sl nC_len)
      have HBm := Lib.hid (HBk.out.trans (hb.mono HBk.out.size))
      have HMAm := Lib.hid (HMAk.out.below hb HMAk.out.lt)
      have HMBm := Lib.hid (HMBk.out.below hb HMBk.out.lt)
      clear hb hO hRM m0 m1 m2 m3 m4 m5 m6 m7 m8 r0 r1 r2 HMAk HMBk HXk HMK
      obtain ⟨m0, m1, m2, m3, m4, m5, m6, m7, m8⟩ := bk9 HMAm.out
      obtain ⟨l0, l1, l2, l3, l4, l5, l6, l7, l8⟩ := bk9 (b := mixB a b) HMBm.out
      simp only [mixB] at l1 l2 l3 l4 l5 l6 l7 l8
      go_wp2_with fail
      refine (HUC.out LA lc _ HBm.out HSM.out).mono ?_
      rintro e wz ⟨ZA, zc, rfl, -, hb⟩
      have HBz := Lib.hid (HBm.out.trans (hb.mono HBm.out.size))
      have HTz := Lib.hid (pow10_stays HT.out HBz.out (Nat.le_refl _))
      clear hb m0 m1 m2 m3 m4 m5 m6 m7 m8 l0 l1 l2 l3 l4 l5 l6 l7 l8
      go_wp2_with fail
      refine (known2_any _ HTz.out).mono ?_
      rintro e w9 ⟨rfl, hb9⟩
      go_wp2_with fail
      go_ret
      exact ⟨rfl, HBz.out.trans (hb9.mono HBz.out.size)⟩
    have gi : decide ((i : Int) < (n : Int)) = true := by simp; omega
    have giN : decide (i < n) = true := decide_eq_true hin
    have hii : (i : Int) < (n : Int) := by omega
    have hil : i < xs.length := by rw [← HLX.out]; exact hin
    have HIL := Lib.hid hil
    obtain ⟨lb, lo, hLA, hlB, c0', c1', c2', c3, c4, c5, c6, c7, c8, c9⟩ := NS.at_ (HN11.out.below HBr.out) hil
    obtain ⟨x, hx⟩ : ∃ x, xs[i]'hil = x := ⟨_, rfl⟩
    rw [hx] at c0' c1' c2' c3 c4 c5 c6 c7 c8 c9
    have HXE : Hid (xs[i]'HIL.out = x) := hx
    have hnv : nVal x = true := by rw [← hx]; exact List.all_eq_true.1 HALL.out _ (List.getElem_mem hil)
    have HNV := Lib.hid hnv
    subst hLA
    clear hx hnv hil
    by_cases k1 : x.k = 1
    case neg =>
      have gk1 : (x.k == 1) = false := by simpa using k1
      have V1 : Hid (decide (((i : Nat) : Int) ∈ L1) = false) := by show _ = _; rw [HW1.out i HIL.out, HXE.out]; exact wr_corner k1
      have V2 : Hid (decide (((i : Nat) : Int) ∈ L2) = false) := by show _ = _; rw [HW2.out i HIL.out, HXE.out]; exact wr_corner k1
      have V3 : Hid (decide (((i : Nat) : Int) ∈ L3) = false) := by show _ = _; rw [HW3.out i HIL.out, HXE.out]; exact wr_corner k1
      have V4 : Hid (decide (((i : Nat) : Int) ∈ L4) = false) := by show _ = _; rw [HW4.out i HIL.out, HXE.out]; exact wr_corner k1
      clear k1
      go_wp2_with fail
      refine (has_any O1 L1.length o1 L1 ((i : Nat) : Int) _ (HO1.out.grow HBr.out HBr.out.size) HL1.out).mono ?_
      rintro e w9 ⟨rfl, rfl⟩
      rw [V1.out]
      go_wp2_with fail
      refine (has_any O2 L2.length o2 L2 ((i : Nat) : Int) _ (HO2.out.grow HBr.out HBr.out.size) HL2.out).mono ?_
      rintro e w9 ⟨rfl, rfl⟩
      rw [V2.out]
      go_wp2_with fail
      refine (has_any O3 L3.length o3 L3 ((i : Nat) : Int) _ (HO3.out.grow HBr.out HBr.out.size) HL3.out).mono ?_
      rintro e w9 ⟨rfl, rfl⟩
      rw [V3.out]
      go_wp2_with fail
      refine (has_any O2 L2.length o2 L2 ((i : Nat) : Int) _ (HO2.out.grow HBr.out HBr.out.size) HL2.out).mono ?_
      rintro e w9 ⟨rfl, rfl⟩
      rw [V2.out]
      go_wp2_with fail
      refine (has_any O3 L3.length o3 L3 ((i : Nat) : Int) _ (HO3.out.grow HBr.out HBr.out.size) HL3.out).mono ?_
      rintro e w9 ⟨rfl, rfl⟩
      rw [V3.out]
      go_wp2_with fail
      refine (has_any O4 L4.length o4 L4 ((i : Nat) : Int) _ (HO4.out.grow HBr.out HBr.out.size) HL4.out).mono ?_
      rintro e w9 ⟨rfl, rfl⟩
      rw [V4.out]
      go_wp2_with fail
      go_roundw
      case rel => exact ⟨i + 1, by omega, by go_num, HBr.out⟩
      case measure => simp [intOf]; omega
    as_aux_lemma =>
      have gk1 : (x.k == 1) = true := by simpa using k1
      have HK1 := Lib.hid k1
      have HMAr := Lib.hid (HMAu.out.below HBr.out HMAu.out.lt)
      obtain ⟨m0', m1', m2', m3', m4', m5', m6', m7', m8'⟩ := bk9 HMAr.out
      have hcall := fun (w1 : World) (h1 : Below w.heap.size w w1) => nMeaning_ok a HVa.out A1 c1 x HNV.out HK1.out w1 ((HSA.out.below h1).more h1.size)
      have V1 : Hid (decide (((i : Nat) : Int) ∈ L1) = !(meanN a x).isSome) := by show _ = _; rw [HW1.out i HIL.out, HXE.out]; exact wr_own HK1.out
      obtain ⟨m, hm⟩ : ∃ m, meanOr (meanN a x) = m := ⟨_, rfl⟩
      obtain ⟨sm, hsm⟩ : ∃ sm, (meanN a x).isSome = sm := ⟨_, rfl⟩
      rw [hm, hsm] at hcall
      rw [hsm] at V1
      obtain ⟨ev, hev⟩ : ∃ ev : Int, (if sm = true then 0 else 5) = ev := ⟨_, rfl⟩
      rw [hev] at hcall
      unfold bkA nA mA at hcall
      have HC := Lib.hid hcall
      have HEV := Lib.hid hev
      clear hcall hm hsm hev k1
      go_wp2_with fail
      have m0 := fun d os => cell_regrown m0' d os
      have m1 := fun d os => cell_regrown m1' d os
      have m2 := fun d os => cell_regrown m2' d os
      have m3 := fun d os => cell_regrown m3' d os
      have m4 := fun d os => cell_regrown m4' d os
      have m5 := fun d os => cell_regrown m5' d os
      have m6 := fun d os => cell_regrown m6' d os
      have m7 := fun d os => cell_regrown m7' d os
      have m8 := fun d os => cell_regrown m8' d os
      have cc0 := fun d os => cell_regrown c0' d os
      have cc1 := fun d os => cell_regrown c1' d os
      have cc2 := fun d os => cell_regrown c2' d os
      have cc3 := fun d os => cell_regrown c3 d os
      have cc4 := fun d os => cell_regrown c4 d os
      have cc5 := fun d os => cell_regrown c5 d os
      have cc6 := fun d os => cell_regrown c6 d os
      have cc7 := fun d os => cell_regrown c7 d os
      have cc8 := fun d os => cell_regrown c8 d os
      have cc9 := fun d os => cell_regrown c9 d os
      refine wp_region_one 11 9 10 [5] 53 #[.int .i64 0, .int .i64 0, .int .i64 0, .int .i64 0, .int .i64 0, .int .i64 0] #[.int .i64 m.fr, .int .i64 m.to_, .int .i64 m.lt, .int .i64 m.la, .int .i64 m.an, .int .i64 m.mo] 18 124 (.agg #[.int .i64 m.fr, .int .i64 m.to_, .int .i64 m.lt, .int .i64 m.la, .int .i64 m.an, .int .i64 m.mo]) _ _ hmo (by decide) rfl rfl rfl (fun a w => rfl) rfl rfl rfl (by kernel_rfl) (by kernel_rfl) (fun a w b h1 h2 h3 => store_mean m.fr m.to_ m.lt m.la m.an m.mo 18 124 a w b h1 h2 h3 _ rfl) (by kernel_rfl) ?_
      simp only [List.take_succ_cons, List.take_zero, List.drop_succ_cons, List.drop_zero]
      repeat (refine wpCG_q (by decide) (by decide) (fun K hK => ?_); go_simp; refine hK _ ?_; clear hK K)
      refine wpCG_c (ι := Unit) 29 #[.agg #[.slice A1 a.gs.length c1, .int .i64 a.sh, .int .i64 a.lo, .int .i64 a.ra, .int .i64 a.an, .int .i64 a.io, .int .i64 a.st, .int .i64 a.ga, .int .i64 a.le], .agg #[.int .i64 x.k, .int .i64 x.tu, .int .i64 x.gr, .int .i64 x.lo, .int .i64 x.ch, .int .i64 x.ton, .int .i64 x.me, .int .i64 x.si, .int .i64 x.wa, .int .i64 x.ar]] (fun _ => .tuple #[.agg #[.int .i64 m.fr, .int .i64 m.to_, .int .i64 m.lt, .int .i64 m.la, .int .i64 m.an, .int .i64 m.mo], .int .i64 ev]) (by decide) (by decide) rfl (fun w => by go_simp) (fun _ _ _ _ => trivial) (fun _ _ _ _ => trivial) (fun W hW _ => ?_) (fun i1 => ?_)
      · obtain ⟨p, rfl⟩ := hW
        have hb := below_regrown wr p.d p.os
        refine (HC.out _ ((HBu.out.trans (HBr.out.mono HBu.out.size)).trans (hb.mono (Nat.le_trans HBu.out.size HBr.out.size)))).mono ?_
        rintro e w' ⟨rfl, hbl⟩
        exact ⟨(), rfl, hbl⟩
      repeat (refine wpCG_q (by decide) (by decide) (fun K hK => ?_); go_simp; refine hK _ ?_; clear hK K)
      refine wpCG_a (by decide) (fun h => by cases h) ?_
      refine wpCG_a (by decide) (fun _ => ⟨rfl, by simp⟩) ?_
      refine wpCG_nil ?_
      intro tb w8 hk8 _ htb hTB
      have HBs : Hid (Below w11.heap.size w11 w8) := HBr.out.trans (hk8.mono HBr.out.size)
      clear hk8 htb hTB m0 m1 m2 m3 m4 m5 m6 m7 m8 m0' m1' m2' m3' m4' m5' m6' m7' m8' cc0 cc1 cc2 cc3 cc4 cc5 cc6 cc7 cc8 cc9 c0' c1' c2' c3 c4 c5 c6 c7 c8 c9 HC HMAr
      cases sm with
      | true =>
        have hev : ev = 0 := HEV.out.symm
        subst hev
        have V1' : Hid (decide (((i : Nat) : Int) ∈ L1) = false) := V1.out
        go_wp2_with fail
        refine (has_any O1 L1.length o1 L1 ((i : Nat) : Int) _ (HO1.out.grow HBs.out HBs.out.size) HL1.out).mono ?_
        rintro e w9 ⟨rfl, rfl⟩
        rw [V1'.out]
        cases hU : wrB rgC a b x with
        | true =>
          have U2 : Hid (decide (((i : Nat) : Int) ∈ L2) = true) := by show _ = _; rw [HW2.out i HIL.out, HXE.out]; exact hU
          go_wp2_with fail
          refine (has_any O2 L2.length o2 L2 ((i : Nat) : Int) _ (HO2.out.grow HBs.out HBs.out.size) HL2.out).mono ?_
          rintro e w9 ⟨rfl, rfl⟩
          rw [U2.out]
          go_wp2_with fail
          go_roundw
          case rel => exact ⟨i + 1, by omega, by go_num, HBs.out⟩
          case measure => simp [intOf]; omega
        | false =>
          have U2 : Hid (decide (((i : Nat) : Int) ∈ L2) = false) := by show _ = _; rw [HW2.out i HIL.out, HXE.out]; exact hU
          have U3 : Hid (decide (((i : Nat) : Int) ∈ L3) = false) := by show _ = _; rw [HW3.out i HIL.out, HXE.out]; exact (wr_clear hU).1
          have U4 : Hid (decide (((i : Nat) : Int) ∈ L4) = false) := by show _ = _; rw [HW4.out i HIL.out, HXE.out]; exact (wr_clear hU).2
          go_wp2_with fail
          refine (has_any O2 L2.length o2 L2 ((i : Nat) : Int) _ (HO2.out.grow HBs.out HBs.out.size) HL2.out).mono ?_
          rintro e w9 ⟨rfl, rfl⟩
          rw [U2.out]
          go_wp2_with fail
          refine (has_any O3 L3.length o3 L3 ((i : Nat) : Int) _ (HO3.out.grow HBs.out HBs.out.size) HL3.out).mono ?_
          rintro e w9 ⟨rfl, rfl⟩
          rw [U3.out]
          go_wp2_with fail
          refine (has_any O4 L4.length o4 L4 ((i : Nat) : Int) _ (HO4.out.grow HBs.out HBs.out.size) HL4.out).mono ?_
          rintro e w9 ⟨rfl, rfl⟩
          rw [U4.out]
          go_wp2_with fail
          go_roundw
          case rel => exact ⟨i + 1, by omega, by go_num, HBs.out⟩
          case measure => simp [intOf]; omega
      | false =>
        have hev : ev = 5 := HEV.out.symm
        subst hev
        have V1' : Hid (decide (((i : Nat) : Int) ∈ L1) = true) := V1.out
        go_wp2_with fail
        refine (has_any O1 L1.length o1 L1 ((i : Nat) : Int) _ (HO1.out.grow HBs.out HBs.out.size) HL1.out).mono ?_
        rintro e w9 ⟨rfl, rfl⟩
        rw [V1'.out]
        cases hU : wrB rgC a b x with
        | true =>
          have U2 : Hid (decide (((i : Nat) : Int) ∈ L2) = true) := by show _ = _; rw [HW2.out i HIL.out, HXE.out]; exact hU
          go_wp2_with fail
          refine (has_any O2 L2.length o2 L2 ((i : Nat) : Int) _ (HO2.out.grow HBs.out HBs.out.size) HL2.out).mono ?_
          rintro e w9 ⟨rfl, rfl⟩
          rw [U2.out]
          go_wp2_with fail
          go_roundw
          case rel => exact ⟨i + 1, by omega, by go_num, HBs.out⟩
          case measure => simp [intOf]; omega
        | false =>
          have U2 : Hid (decide (((i : Nat) : Int) ∈ L2) = false) := by show _ = _; rw [HW2.out i HIL.out, HXE.out]; exact hU
          have U3 : Hid (decide (((i : Nat) : Int) ∈ L3) = false) := by show _ = _; rw [HW3.out i HIL.out, HXE.out]; exact (wr_clear hU).1
          have U4 : Hid (decide (((i : Nat) : Int) ∈ L4) = false) := by show _ = _; rw [HW4.out i HIL.out, HXE.out]; exact (wr_clear hU).2
          go_wp2_with fail
          refine (has_any O2 L2.length o2 L2 ((i : Nat) : Int) _ (HO2.out.grow HBs.out HBs.out.size) HL2.out).mono ?_
          rintro e w9 ⟨rfl, rfl⟩
          rw [U2.out]
          go_wp2_with fail
          refine (has_any O3 L3.length o3 L3 ((i : Nat) : Int) _ (HO3.out.grow HBs.out HBs.out.size) HL3.out).mono ?_
          rintro e w9 ⟨rfl, rfl⟩
          rw [U3.out]
          go_wp2_with fail
          refine (has_any O4 L4.length o4 L4 ((i : Nat) : Int) _ (HO4.out.grow HBs.out HBs.out.size) HL4.out).mono ?_
          rintro e w9 ⟨rfl, rfl⟩
          rw [U4.out]
          go_wp2_with fail
          go_roundw
          case rel => exact ⟨i + 1, by omega, by go_num, HBs.out⟩
          case measure => simp [intOf]; omega
end Go.Proofs.YtnmipejpjeakbaaGreatDoor
