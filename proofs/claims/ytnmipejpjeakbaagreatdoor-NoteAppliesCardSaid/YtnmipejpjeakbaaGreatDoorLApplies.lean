/- NoteApplies, walked. -/
import Derived.Test.YtnmipejpjeakbaaGreatDoorRApl
import Derived.Test.YtnmipejpjeakbaaGreatDoorREds
import Derived.Test.YtnmipejpjeakbaaGreatDoorEdQ
namespace Go.Proofs.YtnmipejpjeakbaaGreatDoor
open Go.RowKit Go.Shelf Go.Sort Go.Proofs

set_option maxRecDepth 100000 in
set_option maxHeartbeats 4000000 in
theorem LApplies_walk (A1 : Option Addr) (n c1 : Nat) (a : List NoteR) (A2 : Option Addr) (m c2 : Nat) (xs : List EdR) (w : World) (h1 : SL nC 10 w w.heap.size A1 n a) (_ : n ≤ c1 ∧ n ≤ 9223372036854775807) (h2 : SL eC 12 w w.heap.size A2 m xs) (hc2 : m ≤ c2 ∧ m ≤ 9223372036854775807) (ht : Lib.TabIs Tryz.prog w pow10N .u64 Lib.pow10Tab) :
    Calls Tryz.prog 10 #[.slice A1 n c1, .slice A2 m c2] w fun e w' => e = .returned (.bool true) ∧ Below w.heap.size w w' := by
  have HT := Lib.hid ht
  have HLA := Lib.hid h1.1
  have HLX := Lib.hid h2.1
  have HA := Lib.hid h1
  have HX := Lib.hid h2
  have HC2 := Lib.hid hc2.1
  clear ht h1 h2 hc2
  by_cases hk : (20 < n ∧ n ≤ 2000) ∨ 2100 < n ∨ 20 < m
  · by_cases q1 : 20 < n
    · have g1 : decide ((20 : Int) < (n : Int)) = true := by simp; omega
      by_cases q2 : n ≤ 2000
      · have g2 : decide ((n : Int) ≤ 2000) = true := by simp; omega
        clear hk
        go_enter Tryz.func10, Tryz.ntmps10
        go_wp2_with fail
        refine (known2_any _ HT.out).mono ?_
        rintro e w' ⟨rfl, hb⟩
        go_wp2_with fail
        go_ret
        exact ⟨rfl, hb⟩
      have g2 : decide ((n : Int) ≤ 2000) = false := by simp; omega
      by_cases q3 : 2100 < n
      · have g3 : decide ((2100 : Int) < (n : Int)) = true := by simp; omega
        clear hk
        go_enter Tryz.func10, Tryz.ntmps10
        go_wp2_with fail
        refine (known2_any _ HT.out).mono ?_
        rintro e w' ⟨rfl, hb⟩
        go_wp2_with fail
        go_ret
        exact ⟨rfl, hb⟩
      have g3 : decide ((2100 : Int) < (n : Int)) = false := by simp; omega
      have g4 : decide ((20 : Int) < (m : Int)) = true := by simp; omega
      clear hk
      go_enter Tryz.func10, Tryz.ntmps10
      go_wp2_with fail
      refine (known2_any _ HT.out).mono ?_
      rintro e w' ⟨rfl, hb⟩
      go_wp2_with fail
      go_ret
      exact ⟨rfl, hb⟩
    have g1 : decide ((20 : Int) < (n : Int)) = false := by simp; omega
    have g3 : decide ((2100 : Int) < (n : Int)) = false := by simp; omega
    have g4 : decide ((20 : Int) < (m : Int)) = true := by simp; omega
    clear hk
    go_enter Tryz.func10, Tryz.ntmps10
    go_wp2_with fail
    refine (known2_any _ HT.out).mono ?_
    rintro e w' ⟨rfl, hb⟩
    go_wp2_with fail
    go_ret
    exact ⟨rfl, hb⟩
  have hm : m ≤ 20 := by omega
  have g3 : decide ((2100 : Int) < (n : Int)) = false := by simp; omega
  have g4 : decide ((20 : Int) < (m : Int)) = false := by simp; omega
  by_cases q1 : 2000 < n
  · have g1 : decide ((20 : Int) < (n : Int)) = true := by simp; omega
    have g2 : decide ((n : Int) ≤ 2000) = false := by simp; omega
    have g5 : decide ((2000 : Int) < (n : Int)) = true := by simp; omega
    have HE : Hid (apErr a xs = 4) := by show _ = _; unfold apErr; rw [if_pos (by rw [← HLA.out]; exact q1)]
    clear hk
    go_enter Tryz.func10, Tryz.ntmps10
    go_wp2_with fail
    refine (nApply_any a xs A1 n c1 A2 m c2 _ HA.out HX.out HC2.out (by omega)).mono ?_
    rintro e w1 hR
    obtain ⟨hb1, rfl⟩ := rap_err (by decide) HE.out hR
    have HT1 := Lib.hid (pow10_stays HT.out hb1 (Nat.le_refl _))
    clear hR
    go_wp2_with fail
    refine (known2_any _ HT1.out).mono ?_
    rintro e w2 ⟨rfl, hb2⟩
    go_wp2_with fail
    go_ret
    exact ⟨rfl, hb1.trans (hb2.mono hb1.size)⟩
  have hn : n ≤ 20 := by omega
  have g1 : decide ((20 : Int) < (n : Int)) = false := by simp; omega
  have g5 : decide ((2000 : Int) < (n : Int)) = false := by simp; omega
  have HNL : Hid (¬ 2000 < a.length) := by show ¬ _; rw [← HLA.out]; omega
  have hlen : (apE 0 a xs).length ≤ 40 := by have := apE_len a 0 xs; have := HLA.out; have := HLX.out; omega
  clear hk q1
  cases hva : a.all nVal with
  | false =>
    have HE : Hid (apErr a xs = 2) := by show _ = _; unfold apErr; rw [if_neg HNL.out, hva]; rfl
    have HVA := Lib.hid hva
    clear hva hlen
    go_enter Tryz.func10, Tryz.ntmps10
    go_wp2_with fail
    refine (nApply_any a xs A1 n c1 A2 m c2 _ HA.out HX.out HC2.out (by omega)).mono ?_
    rintro e w1 hR
    obtain ⟨hb1, rfl⟩ := rap_err (by decide) HE.out hR
    have HB1 := Lib.hid hb1
    clear hR hb1
    go_wp2_with fail
    refine (rall_any A1 n c1 a _ (HA.out.grow HB1.out HB1.out.size) (by omega)).mono ?_
    rintro e w2 ⟨rfl, hb2⟩
    rw [HVA.out]
    have HB2 := Lib.hid (HB1.out.trans (hb2.mono HB1.out.size))
    have HT2 := Lib.hid (pow10_stays HT.out HB2.out (Nat.le_refl _))
    clear hb2
    go_wp2_with fail
    refine (known2_any _ HT2.out).mono ?_
    rintro e w3 ⟨rfl, hb3⟩
    go_wp2_with fail
    go_ret
    exact ⟨rfl, HB2.out.trans (hb3.mono HB2.out.size)⟩
  | true =>
  have hedn : edB n xs = edB a.length xs := by rw [HLA.out]
  cases hvb : edB a.length xs with
  | false =>
    have HE : Hid (apErr a xs = 2) := by show _ = _; unfold apErr; rw [if_neg HNL.out, hva, hvb]; rfl
    have HVA := Lib.hid hva
    have HVB := Lib.hid (hedn.trans hvb)
    clear hva hvb hedn hlen
    go_enter Tryz.func10, Tryz.ntmps10
    go_wp2_with fail
    refine (nApply_any a xs A1 n c1 A2 m c2 _ HA.out HX.out HC2.out (by omega)).mono ?_
    rintro e w1 hR
    obtain ⟨hb1, rfl⟩ := rap_err (by decide) HE.out hR
    have HB1 := Lib.hid hb1
    clear hR hb1
    go_wp2_with fail
    refine (rall_any A1 n c1 a _ (HA.out.grow HB1.out HB1.out.size) (by omega)).mono ?_
    rintro e w2 ⟨rfl, hb2⟩
    rw [HVA.out]
    have HB2 := Lib.hid (HB1.out.trans (hb2.mono HB1.out.size))
    clear hb2
    go_wp2_with fail
    refine (redits_any n (by omega) A2 m c2 xs _ (HX.out.grow HB2.out HB2.out.size) (by omega)).mono ?_
    rintro e w3 ⟨rfl, hb3⟩
    rw [HVB.out]
    have HB3 := Lib.hid (HB2.out.trans (hb3.mono HB2.out.size))
    have HT3 := Lib.hid (pow10_stays HT.out HB3.out (Nat.le_refl _))
    clear hb3
    go_wp2_with fail
    refine (known2_any _ HT3.out).mono ?_
    rintro e w4 ⟨rfl, hb4⟩
    go_wp2_with fail
    go_ret
    exact ⟨rfl, HB3.out.trans (hb4.mono HB3.out.size)⟩
  | true =>
  have HE : Hid (apErr a xs = 0) := by show _ = _; unfold apErr; rw [if_neg HNL.out, hva, hvb, if_neg (by decide), if_neg (by omega)]
  have HVA := Lib.hid hva
  have HVB := Lib.hid (hedn.trans hvb)
  have HLN := Lib.hid hlen
  clear hva hvb hedn hlen
  go_enter Tryz.func10, Tryz.ntmps10
  go_wp2_with fail
  refine (nApply_any a xs A1 n c1 A2 m c2 _ HA.out HX.out HC2.out (by omega)).mono ?_
  rintro e w1 hR
  obtain ⟨hb1, B, c, rfl, hO⟩ := rap_ok HE.out hR
  have HB1 := Lib.hid hb1
  have HS1 := Lib.hid (hO.sl nC_len)
  clear hR hb1 hO
  go_wp2_with fail
  refine (rall_any A1 n c1 a _ (HA.out.grow HB1.out HB1.out.size) (by omega)).mono ?_
  rintro e w2 ⟨rfl, hb2⟩
  rw [HVA.out]
  have HB2 := Lib.hid (HB1.out.trans (hb2.mono HB1.out.size))
  have HS2 := Lib.hid (HS1.out.grow hb2 hb2.size)
  clear hb2
  go_wp2_with fail
  refine (redits_any n (by omega) A2 m c2 xs _ (HX.out.grow HB2.out HB2.out.size) (by omega)).mono ?_
  rintro e w3 ⟨rfl, hb3⟩
  rw [HVB.out]
  have HB3 := Lib.hid (HB2.out.trans (hb3.mono HB2.out.size))
  have HS3 := Lib.hid (HS2.out.grow hb3 hb3.size)
  clear hb3
  go_wp2_with fail
  refine (rApply_any a xs A1 n c1 A2 m c2 _ (HA.out.grow HB3.out HB3.out.size) (HX.out.grow HB3.out HB3.out.size) (by omega) (by omega)).mono ?_
  rintro e w4 ⟨B4, c4, rfl, hO4, hb4⟩
  have HB4 := Lib.hid (HB3.out.trans (hb4.mono HB3.out.size))
  have HS4 := Lib.hid (HS3.out.grow hb4 hb4.size)
  have HS5 := Lib.hid (hO4.sl nC_len)
  clear hb4 hO4
  go_wp2_with fail
  refine (rsame_any B (apE 0 a xs).length c (apE 0 a xs) B4 (apE 0 a xs).length c4 (apE 0 a xs) _ HS4.out HS5.out (by have := HLN.out; omega)).mono ?_
  rintro e w5 ⟨rfl, hb5⟩
  rw [show decide (apE 0 a xs = apE 0 a xs) = true from decide_eq_true rfl]
  have HB5 := Lib.hid (HB4.out.trans (hb5.mono HB4.out.size))
  have HT5 := Lib.hid (pow10_stays HT.out HB5.out (Nat.le_refl _))
  clear hb5
  go_wp2_with fail
  refine (known2_any _ HT5.out).mono ?_
  rintro e w6 ⟨rfl, hb6⟩
  go_wp2_with fail
  go_ret
  exact ⟨rfl, HB5.out.trans (hb6.mono HB5.out.size)⟩
end Go.Proofs.YtnmipejpjeakbaaGreatDoor
