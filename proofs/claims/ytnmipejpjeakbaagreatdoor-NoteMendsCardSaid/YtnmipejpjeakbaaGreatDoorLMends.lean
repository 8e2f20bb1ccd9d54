/- NoteMends, walked. -/
import Derived.Test.YtnmipejpjeakbaaGreatDoorNLw
import Derived.Test.YtnmipejpjeakbaaGreatDoorRMend
namespace Go.Proofs.YtnmipejpjeakbaaGreatDoor
open Go.RowKit Go.Shelf Go.Sort Go.Proofs

set_option maxRecDepth 100000 in
set_option maxHeartbeats 4000000 in
theorem LMends_walk (A1 : Option Addr) (n c1 : Nat) (a : List NoteR) (A2 : Option Addr) (m c2 : Nat) (b : List NoteR) (w : World) (h1 : SL nC 10 w w.heap.size A1 n a) (_ : n ≤ c1 ∧ n ≤ 9223372036854775807) (h2 : SL nC 10 w w.heap.size A2 m b) (_ : m ≤ c2 ∧ m ≤ 9223372036854775807) (ht : Lib.TabIs Tryz.prog w pow10N .u64 Lib.pow10Tab) :
    Calls Tryz.prog 6 #[.slice A1 n c1, .slice A2 m c2] w fun e w' => e = .returned (.bool true) ∧ Below w.heap.size w w' := by
  have HT := Lib.hid ht
  have HLA := Lib.hid h1.1
  have HLB := Lib.hid h2.1
  have HA := Lib.hid h1
  have HB := Lib.hid h2
  clear ht h1 h2
  cases hn : ntsB n with
  | false =>
    have HN := Lib.hid hn
    clear hn
    go_enter Tryz.func6, Tryz.ntmps6
    go_wp2_with fail
    refine (nts_any A1 n c1 _).mono ?_
    rintro e w1 ⟨rfl, rfl⟩
    rw [HN.out]
    go_wp2_with fail
    refine (known2_any _ HT.out).mono ?_
    rintro e w2 ⟨rfl, hb⟩
    go_wp2_with fail
    go_ret
    exact ⟨rfl, hb⟩
  | true =>
    have HN := Lib.hid hn
    clear hn
    cases hm : ntsB m with
    | false =>
      have HM := Lib.hid hm
      clear hm
      go_enter Tryz.func6, Tryz.ntmps6
      go_wp2_with fail
      refine (nts_any A1 n c1 _).mono ?_
      rintro e w1 ⟨rfl, rfl⟩
      rw [HN.out]
      go_wp2_with fail
      refine (nts_any A2 m c2 _).mono ?_
      rintro e w1 ⟨rfl, rfl⟩
      rw [HM.out]
      go_wp2_with fail
      refine (known2_any _ HT.out).mono ?_
      rintro e w2 ⟨rfl, hb⟩
      go_wp2_with fail
      go_ret
      exact ⟨rfl, hb⟩
    | true =>
      have HM := Lib.hid hm
      clear hm
      by_cases hE : mendE a b = 0
      · have hE2 := hE
        unfold mendE at hE2
        have hsz : ¬ (300 < a.length ∨ 300 < b.length) := by intro q; rw [if_pos q] at hE2; cases hE2
        have hn3 : n ≤ 300 := by have := HLA.out; omega
        have hm3 : m ≤ 300 := by have := HLB.out; omega
        have hlen : (mnd 0 a b).length ≤ 1000000 := by
          rw [mnd_len _ 0 a b (Nat.le_refl _)]
          have := cst_le _ a b (Nat.le_refl _)
          omega
        have HE := Lib.hid hE
        have HR : Hid (refE a b 300 = 0) := by show _ = _; rw [refE_mend]; exact hE
        have HLN := Lib.hid hlen
        clear hE hE2 hsz hlen
        go_enter Tryz.func6, Tryz.ntmps6
        go_wp2_with fail
        refine (nts_any A1 n c1 _).mono ?_
        rintro e w1 ⟨rfl, rfl⟩
        rw [HN.out]
        go_wp2_with fail
        refine (nts_any A2 m c2 _).mono ?_
        rintro e w1 ⟨rfl, rfl⟩
        rw [HM.out]
        go_wp2_with fail
        refine (nMend_any a b A1 n c1 A2 m c2 _ HA.out HB.out).mono ?_
        rintro e w1 hR
        obtain ⟨hb1, B, c, rfl, hO⟩ := rmd_ok HE.out hR
        have HB1 := Lib.hid hb1
        have HS1 := Lib.hid (hO.sl eC_len)
        clear hR hb1 hO
        go_wp2_with fail
        refine (rfd_any a b A1 n c1 A2 m c2 300 _ (HA.out.grow HB1.out HB1.out.size) (HB.out.grow HB1.out HB1.out.size) (by omega)).mono ?_
        rintro e w2 ⟨rfl, hb2⟩
        rw [HR.out]
        have HB2 := Lib.hid (HB1.out.trans (hb2.mono HB1.out.size))
        have HS2 := Lib.hid (HS1.out.grow hb2 hb2.size)
        clear hb2
        go_wp2_with fail
        refine (rMend_any a b A1 n c1 A2 m c2 _ (HA.out.grow HB2.out HB2.out.size) (HB.out.grow HB2.out HB2.out.size) hn3 hm3).mono ?_
        rintro e w3 ⟨B3, c3, rfl, hO3, hb3⟩
        have HB3 := Lib.hid (HB2.out.trans (hb3.mono HB2.out.size))
        have HS3 := Lib.hid (HS2.out.grow hb3 hb3.size)
        have HS4 := Lib.hid (hO3.sl eC_len)
        clear hb3 hO3
        go_wp2_with fail
        refine (rsame_ed B (mnd 0 a b).length c (mnd 0 a b) B3 (mnd 0 a b).length c3 (mnd 0 a b) _ HS3.out HS4.out HLN.out).mono ?_
        rintro e w4 ⟨rfl, hb4⟩
        rw [show decide (mnd 0 a b = mnd 0 a b) = true from decide_eq_true rfl]
        have HB4 := Lib.hid (HB3.out.trans (hb4.mono HB3.out.size))
        have HT4 := Lib.hid (pow10_stays HT.out HB4.out (Nat.le_refl _))
        clear hb4
        go_wp2_with fail
        refine (known2_any _ HT4.out).mono ?_
        rintro e w5 ⟨rfl, hb5⟩
        go_wp2_with fail
        go_ret
        exact ⟨rfl, HB4.out.trans (hb5.mono HB4.out.size)⟩
      · obtain ⟨k, hk⟩ : ∃ k, mendE a b = k := ⟨_, rfl⟩
        have hk0 : k ≠ 0 := by rw [← hk]; exact hE
        have HE := Lib.hid hE
        have HR : Hid (refE a b 300 = k) := by show _ = _; rw [refE_mend]; exact hk
        have HK := Lib.hid hk
        have g1 : (k != 0) = true := by simpa using hk0
        have g2 : (k == k) = true := by simp
        clear hE hk
        go_enter Tryz.func6, Tryz.ntmps6
        go_wp2_with fail
        refine (nts_any A1 n c1 _).mono ?_
        rintro e w1 ⟨rfl, rfl⟩
        rw [HN.out]
        go_wp2_with fail
        refine (nts_any A2 m c2 _).mono ?_
        rintro e w1 ⟨rfl, rfl⟩
        rw [HM.out]
        go_wp2_with fail
        refine (nMend_any a b A1 n c1 A2 m c2 _ HA.out HB.out).mono ?_
        rintro e w1 ⟨hb1, ⟨-, rfl⟩ | ⟨h0, -⟩⟩
        case inr => exact absurd h0 HE.out
        rw [HK.out]
        have HB1 := Lib.hid hb1
        clear hb1
        go_wp2_with fail
        refine (rfd_any a b A1 n c1 A2 m c2 300 _ (HA.out.grow HB1.out HB1.out.size) (HB.out.grow HB1.out HB1.out.size) (by omega)).mono ?_
        rintro e w2 ⟨rfl, hb2⟩
        rw [HR.out]
        have HB2 := Lib.hid (HB1.out.trans (hb2.mono HB1.out.size))
        have HT2 := Lib.hid (pow10_stays HT.out HB2.out (Nat.le_refl _))
        clear hb2
        go_wp2_with fail
        refine (known2_any _ HT2.out).mono ?_
        rintro e w3 ⟨rfl, hb3⟩
        go_wp2_with fail
        go_ret
        exact ⟨rfl, HB2.out.trans (hb3.mono HB2.out.size)⟩
end Go.Proofs.YtnmipejpjeakbaaGreatDoor
