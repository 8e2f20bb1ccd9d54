/- NoteFewest, walked. -/
import Derived.Test.YtnmipejpjeakbaaGreatDoorLeast
import Derived.Test.YtnmipejpjeakbaaGreatDoorEdQ
namespace Go.Proofs.YtnmipejpjeakbaaGreatDoor
open Go.RowKit Go.Shelf Go.Sort Go.Proofs

set_option maxRecDepth 100000 in
set_option maxHeartbeats 4000000 in
theorem LFewest_walk (A1 : Option Addr) (n c1 : Nat) (a : List NoteR) (A2 : Option Addr) (m c2 : Nat) (b : List NoteR) (w : World) (h1 : SL nC 10 w w.heap.size A1 n a) (hc1 : n ≤ c1 ∧ n ≤ 9223372036854775807) (h2 : SL nC 10 w w.heap.size A2 m b) (hc2 : m ≤ c2 ∧ m ≤ 9223372036854775807) (ht : Lib.TabIs Tryz.prog w pow10N .u64 Lib.pow10Tab) :
    Calls Tryz.prog 9 #[.slice A1 n c1, .slice A2 m c2] w fun e w' => e = .returned (.bool true) ∧ Below w.heap.size w w' := by
  have HT := Lib.hid ht
  have HLA := Lib.hid h1.1
  have HLB := Lib.hid h2.1
  have HA := Lib.hid h1
  have HB := Lib.hid h2
  have HC1 := Lib.hid hc1.1
  have HC2 := Lib.hid hc2.1
  clear ht h1 h2 hc1 hc2
  by_cases hn : 5 < n
  · have g1 : decide ((5 : Int) < (n : Int)) = true := by simp; omega
    go_enter Tryz.func9, Tryz.ntmps9
    go_wp2_with fail
    refine (known2_any _ HT.out).mono ?_
    rintro e w' ⟨rfl, hb⟩
    go_wp2_with fail
    go_ret
    exact ⟨rfl, hb⟩
  have g1 : decide ((5 : Int) < (n : Int)) = false := by simp; omega
  by_cases hm : 5 < m
  · have g2 : decide ((5 : Int) < (m : Int)) = true := by simp; omega
    go_enter Tryz.func9, Tryz.ntmps9
    go_wp2_with fail
    refine (known2_any _ HT.out).mono ?_
    rintro e w' ⟨rfl, hb⟩
    go_wp2_with fail
    go_ret
    exact ⟨rfl, hb⟩
  have g2 : decide ((5 : Int) < (m : Int)) = false := by simp; omega
  by_cases hE : refE a b 5 = 0
  case neg =>
    obtain ⟨k, hk⟩ : ∃ k, refE a b 5 = k := ⟨_, rfl⟩
    have g3 : (k != 0) = true := by rw [← hk]; simpa using hE
    have HK := Lib.hid hk
    clear hE hk
    go_enter Tryz.func9, Tryz.ntmps9
    go_wp2_with fail
    refine (rfd_any a b A1 n c1 A2 m c2 5 _ HA.out HB.out (by omega)).mono ?_
    rintro e w1 ⟨rfl, hb1⟩
    rw [HK.out]
    have HB1 := Lib.hid hb1
    have HT1 := Lib.hid (pow10_stays HT.out hb1 (Nat.le_refl _))
    clear hb1
    go_wp2_with fail
    refine (known2_any _ HT1.out).mono ?_
    rintro e w2 ⟨rfl, hb2⟩
    go_wp2_with fail
    go_ret
    exact ⟨rfl, HB1.out.trans (hb2.mono HB1.out.size)⟩
  have hE2 := hE
  unfold refE at hE2
  rw [if_neg (by rw [← HLA.out, ← HLB.out]; omega)] at hE2
  have hval : a.all nVal = true ∧ b.all nVal = true := by
    cases h1 : a.all nVal <;> cases h2 : b.all nVal <;> rw [h1, h2] at hE2 <;> simp at hE2 ⊢
  have hvb : ∀ y ∈ b, nVal y = true := fun y hy => List.all_eq_true.1 hval.2 y hy
  have HE := Lib.hid hE
  have HM1 : Hid (mendE a b = 0) := by show _ = _; unfold mendE; rw [if_neg (by rw [← HLA.out, ← HLB.out]; omega), hval.1, hval.2]; rfl
  have HM2 : Hid (mendE b a = 0) := by show _ = _; unfold mendE; rw [if_neg (by rw [← HLA.out, ← HLB.out]; omega), hval.1, hval.2]; rfl
  have hap : apE 0 a (mnd 0 a b) = b := ap_mnd _ 0 a b (Nat.le_refl _)
  have HAP : Hid (apErr a (mnd 0 a b) = 0) := by
    show _ = _
    unfold apErr
    rw [if_neg (by rw [← HLA.out]; omega), hval.1, edB_mnd a b hvb, if_neg (by decide), hap, if_neg (by rw [← HLB.out]; omega)]
  have HAB := Lib.hid hap
  have hl1 : (mnd 0 a b).length = cst a b := mnd_len _ 0 a b (Nat.le_refl _)
  have hl2 : (mnd 0 b a).length = cst a b := (mnd_len _ 0 b a (Nat.le_refl _)).trans (cst_sym _ b a (Nat.le_refl _))
  have hcl := cst_le _ a b (Nat.le_refl _)
  have hl40 : (mnd 0 a b).length ≤ 10 := by have := HLA.out; have := HLB.out; omega
  have hz := cst_zero a b
  obtain ⟨K, hK⟩ : ∃ K, cst a b = K := ⟨_, rfl⟩
  rw [hK] at hl1 hl2 hz
  have HL1 := Lib.hid hl1
  have HL2 := Lib.hid hl2
  have HK := Lib.hid hK
  have HZ := Lib.hid hz
  have HL40 := Lib.hid hl40
  have HBA : Hid (Below w.heap.size w w) := Below.refl _ _
  have hn5 : n ≤ 5 := by omega
  have hm5 : m ≤ 5 := by omega
  clear hE hE2 hval hvb hap hl1 hl2 hcl hz hK hl40 hn hm
  go_enter Tryz.func9, Tryz.ntmps9
  go_wp2_with fail
  refine (rfd_any a b A1 n c1 A2 m c2 5 _ HA.out HB.out (by omega)).mono ?_
  rintro e w1 ⟨rfl, hb1⟩
  rw [HE.out]
  have HB1 := Lib.hid hb1
  clear hb1
  go_wp2_with fail
  refine (nMend_any a b A1 n c1 A2 m c2 _ (HA.out.grow HB1.out HB1.out.size) (HB.out.grow HB1.out HB1.out.size)).mono ?_
  rintro e w2 hR
  obtain ⟨hb2, D, cd, rfl, hO⟩ := rmd_ok HM1.out hR
  have HB2 := Lib.hid (HB1.out.trans (hb2.mono HB1.out.size))
  have HSD := Lib.hid (hO.sl eC_len)
  have HCD := Lib.hid hO.cap
  rw [HL1.out] at HSD HCD ⊢
  clear hR hb2 hO
  go_wp2_with fail
  refine (nApply_any a (mnd 0 a b) A1 n c1 D K cd _ (HA.out.grow HB2.out HB2.out.size) HSD.out HCD.out (by have := HL40.out; have := HL1.out; omega)).mono ?_
  rintro e w3 hR
  obtain ⟨hb3, X, cx, rfl, hO3⟩ := rap_ok HAP.out hR
  rw [HAB.out] at hO3 ⊢
  have HB3 := Lib.hid (HB2.out.trans (hb3.mono HB2.out.size))
  have HSX := Lib.hid (hO3.sl nC_len)
  clear hR hb3 hO3
  go_wp2_with fail
  refine (nMend_any b a A2 m c2 A1 n c1 _ (HB.out.grow HB3.out HB3.out.size) (HA.out.grow HB3.out HB3.out.size)).mono ?_
  rintro e w4 hR
  obtain ⟨hb4, D4, cd4, rfl, hO4⟩ := rmd_ok HM2.out hR
  rw [HL2.out]
  have HB4 := Lib.hid (HB3.out.trans (hb4.mono HB3.out.size))
  have HSX4 := Lib.hid (HSX.out.grow hb4 hb4.size)
  clear hR hb4 hO4
  go_wp2_with fail
  have hlb : b.length = m := HLB.out.symm
  rw [hlb] at HSX4 ⊢
  clear hlb
  refine (rsame_any X m cx b A2 m c2 b _ HSX4.out (HB.out.grow HB4.out HB4.out.size) (by omega)).mono ?_
  rintro e w5 ⟨rfl, hb5⟩
  rw [show decide (b = b) = true from decide_eq_true rfl]
  have HB5 := Lib.hid (HB4.out.trans (hb5.mono HB4.out.size))
  clear hb5
  go_wp2_with fail
  refine (least_any _ a b A1 n c1 A2 m c2 _ (Nat.le_refl _) (HA.out.grow HB5.out HB5.out.size) (HB.out.grow HB5.out HB5.out.size) HC1.out HC2.out hn5 hm5).mono ?_
  rintro e w6 ⟨rfl, hb6⟩
  rw [HK.out]
  have HB6 := Lib.hid (HB5.out.trans (hb6.mono HB5.out.size))
  have g3 : ((K : Int) == (K : Int)) = true := by simp
  clear hb6
  go_wp2_with fail
  refine (rsame_any A1 n c1 a A2 m c2 b _ (HA.out.grow HB6.out HB6.out.size) (HB.out.grow HB6.out HB6.out.size) (by omega)).mono ?_
  rintro e w7 ⟨rfl, hb7⟩
  have HB7 := Lib.hid (HB6.out.trans (hb7.mono HB6.out.size))
  have HT7 := Lib.hid (pow10_stays HT.out HB7.out (Nat.le_refl _))
  clear hb7
  by_cases hab : a = b
  · have hk0 := HZ.out.2 hab
    subst hk0
    rw [decide_eq_true hab]
    clear hab
    go_wp2_with fail
    refine (known2_any _ HT7.out).mono ?_
    rintro e w8 ⟨rfl, hb8⟩
    go_wp2_with fail
    go_ret
    exact ⟨rfl, HB7.out.trans (hb8.mono HB7.out.size)⟩
  · have hk0 : K ≠ 0 := fun q => hab (HZ.out.1 q)
    have g4 : ((K : Int) == 0) = false := by simpa using hk0
    rw [decide_eq_false hab]
    clear hab
    go_wp2_with fail
    refine (known2_any _ HT7.out).mono ?_
    rintro e w8 ⟨rfl, hb8⟩
    go_wp2_with fail
    go_ret
    exact ⟨rfl, HB7.out.trans (hb8.mono HB7.out.size)⟩
end Go.Proofs.YtnmipejpjeakbaaGreatDoor
