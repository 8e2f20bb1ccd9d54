/- NoteGrades, walked. -/
import Derived.Test.YtnmipejpjeakbaaGreatDoorGrdP
import Derived.Test.YtnmipejpjeakbaaGreatDoorNLw
namespace Go.Proofs.YtnmipejpjeakbaaGreatDoor
open Go.RowKit Go.Shelf Go.Sort Go.Proofs

theorem BK.mb {w : World} {g : Nat} {A : Option Addr} {c : Nat} {b : BkR} (h : BK w g 50 #[.slice A b.gs.length c, .int .i64 b.sh, .int .i64 b.lo, .int .i64 b.ra, .int .i64 b.an, .int .i64 b.io, .int .i64 b.st, .int .i64 b.ga, .int .i64 b.le]) : BK w g 50 #[.slice A b.gs.length c, .int .i64 b.sh, .int .i64 b.lo, .int .i64 b.ra, .int .i64 b.an, .int .i64 b.io, .int .i64 b.st, .int .i64 b.ga, .int .i64 b.le] := h
/-- How often a grade up to k is the radius's. -/
def metN (b : BkR) (x : Int) (k : Nat) : Int := if gradeI b x ≤ k then 1 else 0
theorem metN_all (b : BkR) (x : Int) : metN b x (b.gs.length + 1) = 1 := by
  unfold metN
  rw [if_pos]
  have := (gradeI_rng b x).2
  omega
theorem metN_here {b : BkR} {x : Int} {k : Nat} (h : gradeI b x = (k : Int) + 1) : metN b x k = 0 ∧ metN b x (k + 1) = 1 := by
  unfold metN
  rw [if_neg (by omega), if_pos (by omega)]
  exact ⟨rfl, rfl⟩
theorem metN_else {b : BkR} {x : Int} {k : Nat} (h : gradeI b x ≠ (k : Int) + 1) : metN b x (k + 1) = metN b x k := by
  unfold metN
  by_cases e : gradeI b x ≤ k
  · rw [if_pos (by omega), if_pos e]
  · rw [if_neg (by omega), if_neg e]
theorem metN_bd (b : BkR) (x : Int) (k : Nat) : 0 ≤ metN b x k ∧ metN b x k ≤ 1 := by unfold metN; split <;> omega
/-- Where the law does not look. -/
def gOut (b : BkR) (x y : Int) : Prop := 12 < b.gs.length ∨ ¬ BkOK b ∨ x < 5 ∨ 2000 < x ∨ y < x ∨ 2000 < y
set_option maxRecDepth 100000 in
set_option maxHeartbeats 4000000 in
theorem LGrades_walk (x y : Int) (A : Option Addr) (c : Nat) (b : BkR) (w : World) (h : SL iC 1 w w.heap.size A b.gs.length b.gs) (_ : b.gs.length ≤ 9223372036854775807) (ht : Lib.TabIs Tryz.prog w pow10N .u64 Lib.pow10Tab) :
    Calls Tryz.prog 7 #[bkA A c b, .int .i64 x, .int .i64 y] w fun e w' => e = .returned (.bool true) ∧ Below w.heap.size w w' := by
  obtain ⟨w0, hw0⟩ : ∃ w0, w0 = w.alloc (.cells #[.slice A b.gs.length c, .int .i64 b.sh, .int .i64 b.lo, .int .i64 b.ra, .int .i64 b.an, .int .i64 b.io, .int .i64 b.st, .int .i64 b.ga, .int .i64 b.le] 50) := ⟨_, rfl⟩
  have HM0 : Hid (BK w0 w.heap.size 50 #[.slice A b.gs.length c, .int .i64 b.sh, .int .i64 b.lo, .int .i64 b.ra, .int .i64 b.an, .int .i64 b.io, .int .i64 b.st, .int .i64 b.ga, .int .i64 b.le]) := by show BK _ _ _ _; rw [hw0]; exact BK.new w _ _
  have HB0 : Hid (Below w.heap.size w w0) := by show Below _ _ _; rw [hw0]; exact (Below.refl _ w).alloc (Nat.le_refl _) _
  have HS := Lib.hid h
  have HT := Lib.hid ht
  have hfew := few2_any b A c w0
  unfold bkA at hfew
  obtain ⟨m0, m1, m2, m3, m4, m5, m6, m7, m8⟩ := bk9 HM0.out
  clear h ht
  unfold bkA
  by_cases hf : b.gs.length ≤ 12
  case neg =>
    rw [decide_eq_false hf] at hfew
    have HF := Lib.hid hfew
    clear hfew hf
    go_enter Tryz.func7, Tryz.ntmps7
    go_wp2_with fail
    rw [← hw0]
    clear hw0
    go_wp2_with fail
    refine HF.out.mono ?_
    rintro e w1 ⟨rfl, hb1⟩
    have HB1 := Lib.hid (HB0.out.trans (hb1.mono HB0.out.size))
    have HT1 := Lib.hid (pow10_stays HT.out HB1.out (Nat.le_refl _))
    go_wp2_with fail
    refine (known2_any _ HT1.out).mono ?_
    rintro e w2 ⟨rfl, hb2⟩
    go_wp2_with fail
    go_ret
    exact ⟨rfl, HB1.out.trans (hb2.mono HB1.out.size)⟩
  have hman := fun (w1 : World) (h1 : Below w.heap.size w w1) => rmanual_any b A c w1 ((HS.out.below h1).more h1.size)
  unfold bkA at hman
  rw [decide_eq_true hf] at hfew
  have HF := Lib.hid hfew
  have HMA := Lib.hid hman
  clear hfew hf hman
  go_enter Tryz.func7, Tryz.ntmps7
  go_wp2_with fail
  rw [← hw0]
  clear hw0
  go_wp2_with fail
  refine HF.out.mono ?_
  rintro e w1 ⟨rfl, hb1⟩
  have HB1 := Lib.hid (HB0.out.trans (hb1.mono HB0.out.size))
  have HM1 := Lib.hid (HM0.out.below hb1 HM0.out.lt)
  clear hb1 m0 m1 m2 m3 m4 m5 m6 m7 m8 HM0 HB0
  obtain ⟨m0, m1, m2, m3, m4, m5, m6, m7, m8⟩ := bk9 HM1.out
  go_wp2_with fail
  refine (HMA.out _ HB1.out).mono ?_
  rintro e w2 ⟨ok, rfl, hok, hb2⟩
  have HB2 := Lib.hid (HB1.out.trans (hb2.mono HB1.out.size))
  have HM2 := Lib.hid (HM1.out.below hb2 HM1.out.lt)
  have HT2 := Lib.hid (pow10_stays HT.out HB2.out (Nat.le_refl _))
  clear hb2 m0 m1 m2 m3 m4 m5 m6 m7 m8 HM1 HB1
  cases ok with
  | false =>
    clear hok
    go_wp2_with fail
    refine (known2_any _ HT2.out).mono ?_
    rintro e w3 ⟨rfl, hb3⟩
    go_wp2_with fail
    go_ret
    exact ⟨rfl, HB2.out.trans (hb3.mono HB2.out.size)⟩
  | true =>
  have HV := Lib.hid (hok.1 rfl)
  clear hok
  by_cases hx : 5 ≤ x ∧ x ≤ 2000 ∧ x ≤ y ∧ y ≤ 2000
  case neg =>
    by_cases a1 : x < 5
    · have g1 : decide (x < 5) = true := decide_eq_true a1
      clear hx a1
      go_wp2_with fail
      refine (known2_any _ HT2.out).mono ?_
      rintro e w3 ⟨rfl, hb3⟩
      go_wp2_with fail
      go_ret
      exact ⟨rfl, HB2.out.trans (hb3.mono HB2.out.size)⟩
    have g1 : decide (x < 5) = false := decide_eq_false a1
    by_cases a2 : 2000 < x
    · have g2 : decide (2000 < x) = true := decide_eq_true a2
      clear hx a1 a2
      go_wp2_with fail
      refine (known2_any _ HT2.out).mono ?_
      rintro e w3 ⟨rfl, hb3⟩
      go_wp2_with fail
      go_ret
      exact ⟨rfl, HB2.out.trans (hb3.mono HB2.out.size)⟩
    have g2 : decide (2000 < x) = false := decide_eq_false a2
    by_cases a3 : y < x
    · have g3 : decide (y < x) = true := decide_eq_true a3
      clear hx a1 a2 a3
      go_wp2_with fail
      refine (known2_any _ HT2.out).mono ?_
      rintro e w3 ⟨rfl, hb3⟩
      go_wp2_with fail
      go_ret
      exact ⟨rfl, HB2.out.trans (hb3.mono HB2.out.size)⟩
    have g3 : decide (y < x) = false := decide_eq_false a3
    have g4 : decide (2000 < y) = true := by simp; omega
    clear hx a1 a2 a3
    go_wp2_with fail
    refine (known2_any _ HT2.out).mono ?_
    rintro e w3 ⟨rfl, hb3⟩
    go_wp2_with fail
    go_ret
    exact ⟨rfl, HB2.out.trans (hb3.mono HB2.out.size)⟩
  obtain ⟨hx5, hx2, hxy, hy2⟩ := hx
  have g1 : decide (x < 5) = false := by simp; omega
  have g2 : decide (2000 < x) = false := by simp; omega
  have g3 : decide (y < x) = false := by simp; omega
  have g4 : decide (2000 < y) = false := by simp; omega
  have HX := Lib.hid (And.intro hx5 (And.intro hx2 (And.intro hxy hy2)))
  clear hx5 hx2 hxy hy2
  go_wp2_with fail
  clear g1 g2 g3 g4
  obtain ⟨n, hn⟩ : ∃ n, n = b.gs.length := ⟨_, rfl⟩
  have HN := Lib.hid hn
  have hn8 : n ≤ 8 := by rw [hn]; exact HV.out.n8
  rw [← hn]
  have HM2' : Hid (BK w2 w.heap.size 50 #[.slice A n c, .int .i64 b.sh, .int .i64 b.lo, .int .i64 b.ra, .int .i64 b.an, .int .i64 b.io, .int .i64 b.st, .int .i64 b.ga, .int .i64 b.le]) := by show BK _ _ _ _; rw [hn]; exact HM2.out
  clear hn HM2 HT2
  go_loopw [7, 8, 9, 10, 11, 12] (fun mv gv _ _ _ _ wr => ∃ k : Nat, k ≤ n + 1 ∧ mv = .int .i64 (metN b x k) ∧ gv = .int .i64 ((k : Int) + 1) ∧ BK wr w.heap.size 50 #[.slice A n c, .int .i64 b.sh, .int .i64 b.lo, .int .i64 b.ra, .int .i64 b.an, .int .i64 b.io, .int .i64 b.st, .int .i64 b.ga, .int .i64 b.le] ∧ Below w.heap.size w wr) (fun _ gv _ _ _ _ _ => n + 2 - (intOf gv).toNat)
  case atStart => exact ⟨0, Nat.zero_le _, by unfold metN; rw [if_neg (by have := (gradeI_rng b x).1; omega)], rfl, HM2'.out, HB2.out⟩
  case round =>
    obtain ⟨k, hk, rfl, rfl, hbk, hbr⟩ := hrel
    have hwn : IntKind.i64.wrap ((n : Int) + 1) = (n : Int) + 1 := IntWalk.i64_in _ (by omega)
    obtain ⟨m0, m1, m2, m3, m4, m5, m6, m7, m8⟩ := bk9 hbk
    by_cases hkn : k ≤ n
    · have HK1 : Hid (1 ≤ k + 1 ∧ k + 1 ≤ b.gs.length + 1) := by show _ ∧ _; rw [← HN.out]; omega
      have hgle : decide ((k : Int) + 1 ≤ (n : Int) + 1) = true := by simp; omega
      have hgleN : decide (k ≤ n) = true := decide_eq_true hkn
      have hval := nVal_grade (g := k + 1) (by omega) (by omega)
      have hmean := mean_grade (b := b) (g := k + 1) HK1.out.1 HK1.out.2
      have hiff := grade_iff HV.out HX.out.1 HX.out.2.1 (g := k + 1) HK1.out.1 HK1.out.2
      have hle := rad_le HV.out (g := k + 1) HK1.out.1 HK1.out.2
      rw [show ((k + 1 : Nat) : Int) = (k : Int) + 1 from rfl] at hval hmean hiff hle
      have hcall := fun (w1 : World) (h1 : Below w.heap.size w w1) => nMeaning_ok b HV.out A c ⟨1, 1, (k : Int) + 1, 0, 0, 0, 0, 0, 0, 0⟩ hval rfl w1 ((HS.out.below h1).more h1.size)
      rw [hmean] at hcall
      unfold bkA nA at hcall
      rw [← HN.out] at hcall
      simp only [meanOr, Option.getD_some, Option.isSome_some, if_true, mA] at hcall
      generalize radLo b ((k : Int) + 1) = lo at *
      generalize radHi b ((k : Int) + 1) = hi at *
      have HC := Lib.hid hcall
      have HI := Lib.hid hiff
      have HBK := Lib.hid hbk
      have HBR := Lib.hid hbr
      have glh : decide (hi < lo) = false := by simp; omega
      clear hcall hmean hval hiff hle hbk hbr
      go_wp2_with fail
      refine (HC.out _ HBR.out).mono ?_
      rintro e w3 ⟨rfl, hb3⟩
      have HB3 := Lib.hid (HBR.out.trans (hb3.mono HBR.out.size))
      have HBK3 := Lib.hid (HBK.out.below hb3 HBK.out.lt)
      clear hb3 m0 m1 m2 m3 m4 m5 m6 m7 m8 HBK HBR
      have HB4 : Hid (Below w.heap.size w (w3.alloc (.cells #[.int .i64 lo, .int .i64 hi, .int .i64 0, .int .i64 0, .int .i64 b.sh, .int .i64 (b.lo - 1)] 53))) := HB3.out.alloc HB3.out.size _
      have HBK4 : Hid (BK (w3.alloc (.cells #[.int .i64 lo, .int .i64 hi, .int .i64 0, .int .i64 0, .int .i64 b.sh, .int .i64 (b.lo - 1)] 53)) w.heap.size 50 #[.slice A n c, .int .i64 b.sh, .int .i64 b.lo, .int .i64 b.ra, .int .i64 b.an, .int .i64 b.io, .int .i64 b.st, .int .i64 b.ga, .int .i64 b.le]) := HBK3.out.alloc _
      by_cases h1 : lo ≤ x ∧ x ≤ hi
      · have hg := HI.out.1 h1
        have q1 : decide (lo ≤ x) = true := decide_eq_true h1.1
        have q2 : decide (x ≤ hi) = true := decide_eq_true h1.2
        have HM := Lib.hid (metN_here hg)
        rw [HM.out.1]
        have hgr := fun (w1 : World) (h1 : Below w.heap.size w w1) => nGrade_ok b HV.out A c x HX.out.1 HX.out.2.1 w1 ((HS.out.below h1).more h1.size)
        rw [hg] at hgr
        unfold bkA at hgr
        rw [← HN.out] at hgr
        have HGR := Lib.hid hgr
        clear h1 hg hgr
        obtain ⟨m0, m1, m2, m3, m4, m5, m6, m7, m8⟩ := bk9 HBK3.out
        obtain ⟨p0, p1, p2, p3, p4, p5, p6, p7, p8⟩ := bk9 HBK4.out
        go_wp2_with fail
        refine (HGR.out _ HB4.out).mono ?_
        rintro e w5 ⟨rfl, hb5⟩
        have HB5 := Lib.hid (HB4.out.trans (hb5.mono HB4.out.size))
        have HBK5 := Lib.hid (HBK4.out.below hb5 HBK4.out.lt)
        clear hb5 m0 m1 m2 m3 m4 m5 m6 m7 m8 p0 p1 p2 p3 p4 p5 p6 p7 p8
        go_wp2_with fail
        go_roundw
        case rel => exact ⟨k + 1, by omega, by rw [HM.out.2], by go_num, HBK5.out, HB5.out⟩
        case measure => simp [intOf]; omega
      · have hg : gradeI b x ≠ (k : Int) + 1 := fun q => h1 (HI.out.2 q)
        have HM := Lib.hid (metN_else hg)
        clear hg
        by_cases q1 : lo ≤ x
        · have q2 : decide (x ≤ hi) = false := decide_eq_false fun q => h1 ⟨q1, q⟩
          have q1 : decide (lo ≤ x) = true := decide_eq_true q1
          clear h1
          go_wp2_with fail
          go_roundw
          case rel => exact ⟨k + 1, by omega, by rw [HM.out], by go_num, HBK4.out, HB4.out⟩
          case measure => simp [intOf]; omega
        · have q1 : decide (lo ≤ x) = false := decide_eq_false q1
          clear h1
          go_wp2_with fail
          go_roundw
          case rel => exact ⟨k + 1, by omega, by rw [HM.out], by go_num, HBK4.out, HB4.out⟩
          case measure => simp [intOf]; omega
    · obtain rfl : k = n + 1 := by omega
      have hm1 : metN b x (n + 1) = 1 := by rw [HN.out]; exact metN_all b x
      rw [hm1]
      have hgle : decide (((n + 1 : Nat) : Int) + 1 ≤ (n : Int) + 1) = false := by simp; omega
      have hgx := fun (w1 : World) (h1 : Below w.heap.size w w1) => nGrade_ok b HV.out A c x HX.out.1 HX.out.2.1 w1 ((HS.out.below h1).more h1.size)
      have hgy := fun (w1 : World) (h1 : Below w.heap.size w w1) => nGrade_ok b HV.out A c y (by have := HX.out; omega) (by have := HX.out; omega) w1 ((HS.out.below h1).more h1.size)
      unfold bkA at hgx hgy
      rw [← HN.out] at hgx hgy
      have hmo := gradeI_mono b HX.out.2.2.1
      have gmo : decide (gradeI b x ≤ gradeI b y) = true := decide_eq_true hmo
      generalize gradeI b x = gx at *
      generalize gradeI b y = gy at *
      have HGX := Lib.hid hgx
      have HGY := Lib.hid hgy
      have HBK := Lib.hid hbk
      have HBR := Lib.hid hbr
      clear hm1 hgx hgy hmo hbk hbr hk hkn
      go_wp2_with fail
      refine (HGX.out _ HBR.out).mono ?_
      rintro e w3 ⟨rfl, hb3⟩
      have HB3 := Lib.hid (HBR.out.trans (hb3.mono HBR.out.size))
      have HBK3 := Lib.hid (HBK.out.below hb3 HBK.out.lt)
      clear hb3 m0 m1 m2 m3 m4 m5 m6 m7 m8 HBK HBR
      obtain ⟨m0, m1, m2, m3, m4, m5, m6, m7, m8⟩ := bk9 HBK3.out
      go_wp2_with fail
      refine (HGY.out _ HB3.out).mono ?_
      rintro e w4 ⟨rfl, hb4⟩
      have HB4 := Lib.hid (HB3.out.trans (hb4.mono HB3.out.size))
      have HT4 := Lib.hid (pow10_stays HT.out HB4.out (Nat.le_refl _))
      clear hb4 m0 m1 m2 m3 m4 m5 m6 m7 m8 HBK3 HB3
      go_wp2_with fail
      refine (known2_any _ HT4.out).mono ?_
      rintro e w5 ⟨rfl, hb5⟩
      go_wp2_with fail
      go_ret
      exact ⟨rfl, HB4.out.trans (hb5.mono HB4.out.size)⟩
end Go.Proofs.YtnmipejpjeakbaaGreatDoor
