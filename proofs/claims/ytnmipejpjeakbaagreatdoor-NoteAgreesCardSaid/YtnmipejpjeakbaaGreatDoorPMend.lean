/- note.Mend of any two lists of notes. -/
import Derived.Test.YtnmipejpjeakbaaGreatDoorPMended
namespace Go.Proofs.YtnmipejpjeakbaaGreatDoor
open Go.RowKit Go.Shelf Go.Sort Go.Proofs

/-- What note.Mend refuses with; 0: nothing. -/
def mendE (a b : List NoteR) : Int := if 300 < a.length ∨ 300 < b.length then 4 else if a.all nVal && b.all nVal then 0 else 2
theorem nLE_small {xs : List NoteR} (h : xs.length ≤ 300) : nLE xs = if xs.all nVal then 0 else 2 := by
  unfold nLE
  rw [if_neg (by omega)]
/-- What note.Mend leaves. -/
def RMd (w : World) (a b : List NoteR) (e : Ending) (w' : World) : Prop :=
  Below w.heap.size w w' ∧ ((mendE a b ≠ 0 ∧ e = .returned (.tuple #[.slice none 0 0, .int .i64 (mendE a b)])) ∨
    (mendE a b = 0 ∧ ∃ A c, e = .returned (.tuple #[.slice A (mnd 0 a b).length c, .int .i64 0]) ∧ OW eC 12 83 w.heap.size w' A (mnd 0 a b).length c (mnd 0 a b)))
set_option maxRecDepth 100000 in
set_option maxHeartbeats 4000000 in
theorem nMend_any (a b : List NoteR) (aa : Option Addr) (n ac : Nat) (ba : Option Addr) (m bc : Nat) (w : World) (ha : SL nC 10 w w.heap.size aa n a) (hb : SL nC 10 w w.heap.size ba m b) :
    Calls Tryz.prog 23 #[.slice aa n ac, .slice ba m bc] w (RMd w a b) := by
  have HLA := Lib.hid ha.1
  have HLB := Lib.hid hb.1
  have HA := Lib.hid ha
  have HB := Lib.hid hb
  clear ha hb
  by_cases h1 : 300 < n
  · have HE : Hid (mendE a b = 4) := by show _ = _; unfold mendE; rw [if_pos (.inl (by rw [← HLA.out]; exact h1))]
    have g1 : decide ((300 : Int) < (n : Int)) = true := by simp; omega
    go_enter Tryz.func23, Tryz.ntmps23
    go_wp2_with fail
    go_ret2
    exact ⟨Below.refl _ _, .inl ⟨by rw [HE.out]; decide, by rw [HE.out]; rfl⟩⟩
  by_cases h2 : 300 < m
  · have HE : Hid (mendE a b = 4) := by show _ = _; unfold mendE; rw [if_pos (.inr (by rw [← HLB.out]; exact h2))]
    have g1 : decide ((300 : Int) < (n : Int)) = false := by simp; omega
    have g2 : decide ((300 : Int) < (m : Int)) = true := by simp; omega
    go_enter Tryz.func23, Tryz.ntmps23
    go_wp2_with fail
    go_ret2
    exact ⟨Below.refl _ _, .inl ⟨by rw [HE.out]; decide, by rw [HE.out]; rfl⟩⟩
  have HE : Hid (mendE a b = if a.all nVal && b.all nVal then 0 else 2) := by show _ = _; unfold mendE; rw [if_neg (by rw [← HLA.out, ← HLB.out]; omega)]
  have g1 : decide ((300 : Int) < (n : Int)) = false := by simp; omega
  have g2 : decide ((300 : Int) < (m : Int)) = false := by simp; omega
  have HNA : Hid (nLE a = if a.all nVal then 0 else 2) := nLE_small (by rw [← HLA.out]; omega)
  have HNB : Hid (nLE b = if b.all nVal then 0 else 2) := nLE_small (by rw [← HLB.out]; omega)
  cases hva : a.all nVal with
  | false =>
    rw [hva] at HE HNA
    have HE2 : Hid (mendE a b = 2) := by show _ = _; rw [HE.out]; simp
    clear hva
    go_enter Tryz.func23, Tryz.ntmps23
    go_wp2_with (go_at_call 47; refine (nlisted_any aa n ac a _ HA.out).mono ?_; rintro e w1 ⟨rfl, hb1⟩; rw [HNA.out])
    go_ret2
    exact ⟨hb1, .inl ⟨by rw [HE2.out]; decide, by rw [HE2.out]; rfl⟩⟩
  | true =>
    rw [hva] at HE HNA
    clear hva
    cases hvb : b.all nVal with
    | false =>
      rw [hvb] at HE HNB
      have HE2 : Hid (mendE a b = 2) := by show _ = _; rw [HE.out]; simp
      clear hvb
      go_enter Tryz.func23, Tryz.ntmps23
      go_wp2_with (first | (go_at_call 47 ; refine (nlisted_any aa n ac a _ HA.out).mono ?_; rintro e w1 ⟨rfl, hb1⟩; rw [HNA.out]; have HB1 := Lib.hid hb1; clear hb1) | (go_at_call 47; refine (nlisted_any ba m bc b _ (HB.out.grow HB1.out HB1.out.size)).mono ?_; rintro e w2 ⟨rfl, hb2⟩; rw [HNB.out]))
      go_ret2
      exact ⟨HB1.out.trans (hb2.mono HB1.out.size), .inl ⟨by rw [HE2.out]; decide, by rw [HE2.out]; rfl⟩⟩
    | true =>
      rw [hvb] at HE HNB
      clear hvb
      go_enter Tryz.func23, Tryz.ntmps23
      go_wp2_with (first | (go_at_call 47 ; refine (nlisted_any aa n ac a _ HA.out).mono ?_; rintro e w1 ⟨rfl, hb1⟩; rw [HNA.out]; have HB1 := Lib.hid hb1; clear hb1) | (go_at_call 47; refine (nlisted_any ba m bc b _ (HB.out.grow HB1.out HB1.out.size)).mono ?_; rintro e w2 ⟨rfl, hb2⟩; rw [HNB.out]; have HB2 := Lib.hid (HB1.out.trans (hb2.mono HB1.out.size)); clear hb2) | (go_at_call 53; refine (mended_any a b aa n ac ba m bc _ (HA.out.grow HB2.out HB2.out.size) (HB.out.grow HB2.out HB2.out.size) (by omega) (by omega)).mono ?_; rintro e w3 ⟨A, c, rfl, hO, hb3⟩; have HO := Lib.hid hO; have HB3 := Lib.hid hb3; clear hO hb3))
      go_ret2
      exact ⟨HB2.out.trans (HB3.out.mono HB2.out.size), .inr ⟨by rw [HE.out]; rfl, A, c, rfl, HO.out.drop0 HB2.out.size⟩⟩
end Go.Proofs.YtnmipejpjeakbaaGreatDoor
