/- The law's few, notes, refused; the document's SameEdits. Printed by gennlw.py. -/
import Derived.Test.YtnmipejpjeakbaaGreatDoorPAll
namespace Go.Proofs.YtnmipejpjeakbaaGreatDoor
open Go.RowKit Go.Shelf Go.Sort Go.Proofs

theorem few2_any (b : BkR) (A : Option Addr) (c : Nat) (w : World) :
    Calls Tryz.prog 27 #[bkA A c b] w fun e w' => e = .returned (.bool (decide (b.gs.length ≤ 12))) ∧ Below w.heap.size w w' := by
  have hb := (Below.refl w.heap.size w).alloc (Nat.le_refl _) (.cells #[.slice A b.gs.length c, .int .i64 b.sh, .int .i64 b.lo, .int .i64 b.ra, .int .i64 b.an, .int .i64 b.io, .int .i64 b.st, .int .i64 b.ga, .int .i64 b.le] 50)
  unfold bkA
  go_enter Tryz.func27, Tryz.ntmps27
  go_wp2_with fail
  go_ret
  exact ⟨by show Ending.returned (.bool (decide ((b.gs.length : Int) ≤ 12))) = _; congr 2; exact decide_eq_decide.2 (by omega), hb⟩
def ntsB (n : Nat) : Bool := decide (n ≤ 20) || (decide (300 < n) && decide (n < 400)) || (decide (2000 < n) && decide (n < 2100))
theorem nts_any (A : Option Addr) (n c : Nat) (w : World) :
    Calls Tryz.prog 22 #[.slice A n c] w fun e w' => e = .returned (.bool (ntsB n)) ∧ w' = w := by
  rcases (show n ≤ 20 ∨ (20 < n ∧ n ≤ 300) ∨ (300 < n ∧ n < 400) ∨ (400 ≤ n ∧ n ≤ 2000) ∨ (2000 < n ∧ n < 2100) ∨ 2100 ≤ n by omega) with h | h | h | h | h | h
  · have HR : Hid (ntsB n = true) := by show _ = _; simp [ntsB]; omega
    have g0 : decide ((n : Int) ≤ 20) = true := by simp; omega
    have g1 : decide ((300 : Int) < (n : Int)) = false := by simp; omega
    have g2 : decide ((n : Int) < 400) = true := by simp; omega
    have g3 : decide ((2000 : Int) < (n : Int)) = false := by simp; omega
    have g4 : decide ((n : Int) < 2100) = true := by simp; omega
    clear h
    go_enter Tryz.func22, Tryz.ntmps22
    go_wp2_with fail
    go_ret
    exact ⟨by rw [HR.out]; rfl, rfl⟩
  · have HR : Hid (ntsB n = false) := by show _ = _; simp [ntsB]; omega
    have g0 : decide ((n : Int) ≤ 20) = false := by simp; omega
    have g1 : decide ((300 : Int) < (n : Int)) = false := by simp; omega
    have g2 : decide ((n : Int) < 400) = true := by simp; omega
    have g3 : decide ((2000 : Int) < (n : Int)) = false := by simp; omega
    have g4 : decide ((n : Int) < 2100) = true := by simp; omega
    clear h
    go_enter Tryz.func22, Tryz.ntmps22
    go_wp2_with fail
    go_ret
    exact ⟨by rw [HR.out]; rfl, rfl⟩
  · have HR : Hid (ntsB n = true) := by show _ = _; simp [ntsB]; omega
    have g0 : decide ((n : Int) ≤ 20) = false := by simp; omega
    have g1 : decide ((300 : Int) < (n : Int)) = true := by simp; omega
    have g2 : decide ((n : Int) < 400) = true := by simp; omega
    have g3 : decide ((2000 : Int) < (n : Int)) = false := by simp; omega
    have g4 : decide ((n : Int) < 2100) = true := by simp; omega
    clear h
    go_enter Tryz.func22, Tryz.ntmps22
    go_wp2_with fail
    go_ret
    exact ⟨by rw [HR.out]; rfl, rfl⟩
  · have HR : Hid (ntsB n = false) := by show _ = _; simp [ntsB]; omega
    have g0 : decide ((n : Int) ≤ 20) = false := by simp; omega
    have g1 : decide ((300 : Int) < (n : Int)) = true := by simp; omega
    have g2 : decide ((n : Int) < 400) = false := by simp; omega
    have g3 : decide ((2000 : Int) < (n : Int)) = false := by simp; omega
    have g4 : decide ((n : Int) < 2100) = true := by simp; omega
    clear h
    go_enter Tryz.func22, Tryz.ntmps22
    go_wp2_with fail
    go_ret
    exact ⟨by rw [HR.out]; rfl, rfl⟩
  · have HR : Hid (ntsB n = true) := by show _ = _; simp [ntsB]; omega
    have g0 : decide ((n : Int) ≤ 20) = false := by simp; omega
    have g1 : decide ((300 : Int) < (n : Int)) = true := by simp; omega
    have g2 : decide ((n : Int) < 400) = false := by simp; omega
    have g3 : decide ((2000 : Int) < (n : Int)) = true := by simp; omega
    have g4 : decide ((n : Int) < 2100) = true := by simp; omega
    clear h
    go_enter Tryz.func22, Tryz.ntmps22
    go_wp2_with fail
    go_ret
    exact ⟨by rw [HR.out]; rfl, rfl⟩
  · have HR : Hid (ntsB n = false) := by show _ = _; simp [ntsB]; omega
    have g0 : decide ((n : Int) ≤ 20) = false := by simp; omega
    have g1 : decide ((300 : Int) < (n : Int)) = true := by simp; omega
    have g2 : decide ((n : Int) < 400) = false := by simp; omega
    have g3 : decide ((2000 : Int) < (n : Int)) = true := by simp; omega
    have g4 : decide ((n : Int) < 2100) = false := by simp; omega
    clear h
    go_enter Tryz.func22, Tryz.ntmps22
    go_wp2_with fail
    go_ret
    exact ⟨by rw [HR.out]; rfl, rfl⟩
/-- What two lists are refused with. -/
def refE (a b : List NoteR) (most : Nat) : Int := if most < a.length ∨ most < b.length then 4 else if a.all nVal && b.all nVal then 0 else 2
theorem refE_mend (a b : List NoteR) : refE a b 300 = mendE a b := rfl
set_option maxRecDepth 100000 in
set_option maxHeartbeats 2000000 in
theorem rfd_any (a b : List NoteR) (aa : Option Addr) (n ac : Nat) (ba : Option Addr) (m bc most : Nat) (w : World) (ha : SL nC 10 w w.heap.size aa n a) (hb : SL nC 10 w w.heap.size ba m b) (hm : most ≤ 100000) :
    Calls Tryz.prog 24 #[.slice aa n ac, .slice ba m bc, .int .i64 (most : Nat)] w fun e w' => e = .returned (.int .i64 (refE a b most)) ∧ Below w.heap.size w w' := by
  have HLA := Lib.hid ha.1
  have HLB := Lib.hid hb.1
  have HA := Lib.hid ha
  have HB := Lib.hid hb
  clear ha hb
  by_cases h1 : most < n
  · have HE : Hid (refE a b most = 4) := by show _ = _; unfold refE; rw [if_pos (.inl (by rw [← HLA.out]; exact h1))]
    have g1 : decide ((most : Int) < (n : Int)) = true := by simp; omega
    have g1N : decide (most < n) = true := decide_eq_true h1
    go_enter Tryz.func24, Tryz.ntmps24
    go_wp2_with fail
    go_ret
    exact ⟨by rw [HE.out]; rfl, Below.refl _ _⟩
  have g1 : decide ((most : Int) < (n : Int)) = false := by simp; omega
  have g1N : decide (most < n) = false := decide_eq_false h1
  by_cases h2 : most < m
  · have HE : Hid (refE a b most = 4) := by show _ = _; unfold refE; rw [if_pos (.inr (by rw [← HLB.out]; exact h2))]
    have g2 : decide ((most : Int) < (m : Int)) = true := by simp; omega
    have g2N : decide (most < m) = true := decide_eq_true h2
    go_enter Tryz.func24, Tryz.ntmps24
    go_wp2_with fail
    go_ret
    exact ⟨by rw [HE.out]; rfl, Below.refl _ _⟩
  have g2 : decide ((most : Int) < (m : Int)) = false := by simp; omega
  have g2N : decide (most < m) = false := decide_eq_false h2
  have HE : Hid (refE a b most = if a.all nVal && b.all nVal then 0 else 2) := by show _ = _; unfold refE; rw [if_neg (by rw [← HLA.out, ← HLB.out]; omega)]
  have hn6 : n ≤ 1000000 := by omega
  have hm6 : m ≤ 1000000 := by omega
  cases hva : a.all nVal with
  | false =>
    rw [hva] at HE
    have HE2 : Hid (refE a b most = 2) := by show _ = _; rw [HE.out]; simp
    have HVA := Lib.hid hva
    clear hva h1 h2
    go_enter Tryz.func24, Tryz.ntmps24
    go_wp2_with fail
    refine (rall_any aa n ac a _ HA.out hn6).mono ?_
    rintro e w1 ⟨rfl, hb1⟩
    rw [HVA.out]
    go_wp2_with fail
    go_ret
    exact ⟨by rw [HE2.out]; rfl, hb1⟩
  | true =>
    rw [hva] at HE
    have HVA := Lib.hid hva
    clear hva h1 h2
    cases hvb : b.all nVal with
    | false =>
      rw [hvb] at HE
      have HE2 : Hid (refE a b most = 2) := by show _ = _; rw [HE.out]; simp
      have HVB := Lib.hid hvb
      clear hvb
      go_enter Tryz.func24, Tryz.ntmps24
      go_wp2_with fail
      refine (rall_any aa n ac a _ HA.out hn6).mono ?_
      rintro e w1 ⟨rfl, hb1⟩
      rw [HVA.out]
      have HB1 := Lib.hid hb1
      clear hb1
      go_wp2_with fail
      refine (rall_any ba m bc b _ (HB.out.grow HB1.out HB1.out.size) hm6).mono ?_
      rintro e w2 ⟨rfl, hb2⟩
      rw [HVB.out]
      go_wp2_with fail
      go_ret
      exact ⟨by rw [HE2.out]; rfl, HB1.out.trans (hb2.mono HB1.out.size)⟩
    | true =>
      rw [hvb] at HE
      have HE2 : Hid (refE a b most = 0) := by show _ = _; rw [HE.out]; simp
      have HVB := Lib.hid hvb
      clear hvb
      go_enter Tryz.func24, Tryz.ntmps24
      go_wp2_with fail
      refine (rall_any aa n ac a _ HA.out hn6).mono ?_
      rintro e w1 ⟨rfl, hb1⟩
      rw [HVA.out]
      have HB1 := Lib.hid hb1
      clear hb1
      go_wp2_with fail
      refine (rall_any ba m bc b _ (HB.out.grow HB1.out HB1.out.size) hm6).mono ?_
      rintro e w2 ⟨rfl, hb2⟩
      rw [HVB.out]
      go_wp2_with fail
      go_ret
      exact ⟨by rw [HE2.out]; rfl, HB1.out.trans (hb2.mono HB1.out.size)⟩
instance edDec : DecidableEq EdR := fun a b =>
  if h : a.at_ = b.at_ ∧ a.kd = b.kd ∧ a.nt = b.nt then isTrue (by cases a; cases b; simp_all)
  else isFalse (fun e => h (by subst e; simp))
set_option maxRecDepth 100000 in
set_option maxHeartbeats 8000000 in
theorem eq_edit (a0 a1 a2 a3 a4 a5 a6 a7 a8 a9 a10 a11 b0 b1 b2 b3 b4 b5 b6 b7 b8 b9 b10 b11 : Int) (w : World) :
    (Go.binOp .eql 83 (.agg #[.int .i64 a0, .int .i64 a1, .int .i64 a2, .int .i64 a3, .int .i64 a4, .int .i64 a5, .int .i64 a6, .int .i64 a7, .int .i64 a8, .int .i64 a9, .int .i64 a10, .int .i64 a11]) (.agg #[.int .i64 b0, .int .i64 b1, .int .i64 b2, .int .i64 b3, .int .i64 b4, .int .i64 b5, .int .i64 b6, .int .i64 b7, .int .i64 b8, .int .i64 b9, .int .i64 b10, .int .i64 b11])).run Tryz.prog w = .ok (.bool ((a0 == b0) && (a1 == b1) && (a2 == b2) && (a3 == b3) && (a4 == b4) && (a5 == b5) && (a6 == b6) && (a7 == b7) && (a8 == b8) && (a9 == b9) && (a10 == b10) && (a11 == b11))) w := by
  by_cases h0 : a0 = b0
  case neg =>
    have g0 : (a0 == b0) = false := by simpa using h0
    go_simp
  subst h0
  by_cases h1 : a1 = b1
  case neg =>
    have g1 : (a1 == b1) = false := by simpa using h1
    go_simp
  subst h1
  by_cases h2 : a2 = b2
  case neg =>
    have g2 : (a2 == b2) = false := by simpa using h2
    go_simp
  subst h2
  by_cases h3 : a3 = b3
  case neg =>
    have g3 : (a3 == b3) = false := by simpa using h3
    go_simp
  subst h3
  by_cases h4 : a4 = b4
  case neg =>
    have g4 : (a4 == b4) = false := by simpa using h4
    go_simp
  subst h4
  by_cases h5 : a5 = b5
  case neg =>
    have g5 : (a5 == b5) = false := by simpa using h5
    go_simp
  subst h5
  by_cases h6 : a6 = b6
  case neg =>
    have g6 : (a6 == b6) = false := by simpa using h6
    go_simp
  subst h6
  by_cases h7 : a7 = b7
  case neg =>
    have g7 : (a7 == b7) = false := by simpa using h7
    go_simp
  subst h7
  by_cases h8 : a8 = b8
  case neg =>
    have g8 : (a8 == b8) = false := by simpa using h8
    go_simp
  subst h8
  by_cases h9 : a9 = b9
  case neg =>
    have g9 : (a9 == b9) = false := by simpa using h9
    go_simp
  subst h9
  by_cases h10 : a10 = b10
  case neg =>
    have g10 : (a10 == b10) = false := by simpa using h10
    go_simp
  subst h10
  by_cases h11 : a11 = b11
  case neg =>
    have g11 : (a11 == b11) = false := by simpa using h11
    go_simp
  subst h11
  go_simp
set_option maxHeartbeats 4000000 in
theorem eqE (x y : EdR) (w : World) : (Go.binOp .eql 83 (.agg #[.int .i64 x.at_, .int .i64 x.kd, .int .i64 x.nt.k, .int .i64 x.nt.tu, .int .i64 x.nt.gr, .int .i64 x.nt.lo, .int .i64 x.nt.ch, .int .i64 x.nt.ton, .int .i64 x.nt.me, .int .i64 x.nt.si, .int .i64 x.nt.wa, .int .i64 x.nt.ar]) (.agg #[.int .i64 y.at_, .int .i64 y.kd, .int .i64 y.nt.k, .int .i64 y.nt.tu, .int .i64 y.nt.gr, .int .i64 y.nt.lo, .int .i64 y.nt.ch, .int .i64 y.nt.ton, .int .i64 y.nt.me, .int .i64 y.nt.si, .int .i64 y.nt.wa, .int .i64 y.nt.ar])).run Tryz.prog w = .ok (.bool (decide (x = y))) w := by
  rw [eq_edit]
  congr 2
  obtain ⟨a0, a1, a2, a3, a4, a5, a6, a7, a8, a9, a10, a11⟩ := x
  obtain ⟨b0, b1, b2, b3, b4, b5, b6, b7, b8, b9, b10, b11⟩ := y
  rw [Bool.eq_iff_iff]
  simp only [Bool.and_eq_true, beq_iff_eq, decide_eq_true_eq, EdR.mk.injEq, NoteR.mk.injEq, and_assoc]
set_option maxHeartbeats 4000000 in
theorem neE (x y : EdR) (w : World) : (Go.binOp .neq 83 (.agg #[.int .i64 x.at_, .int .i64 x.kd, .int .i64 x.nt.k, .int .i64 x.nt.tu, .int .i64 x.nt.gr, .int .i64 x.nt.lo, .int .i64 x.nt.ch, .int .i64 x.nt.ton, .int .i64 x.nt.me, .int .i64 x.nt.si, .int .i64 x.nt.wa, .int .i64 x.nt.ar]) (.agg #[.int .i64 y.at_, .int .i64 y.kd, .int .i64 y.nt.k, .int .i64 y.nt.tu, .int .i64 y.nt.gr, .int .i64 y.nt.lo, .int .i64 y.nt.ch, .int .i64 y.nt.ton, .int .i64 y.nt.me, .int .i64 y.nt.si, .int .i64 y.nt.wa, .int .i64 y.nt.ar])).run Tryz.prog w = .ok (.bool (!decide (x = y))) w := by
  have h1 := eqE x y w
  rw [run_eql_struct] at h1
  rw [run_neq_struct]
  revert h1
  cases (Op.equalIn 10000 83 (.agg #[.int .i64 x.at_, .int .i64 x.kd, .int .i64 x.nt.k, .int .i64 x.nt.tu, .int .i64 x.nt.gr, .int .i64 x.nt.lo, .int .i64 x.nt.ch, .int .i64 x.nt.ton, .int .i64 x.nt.me, .int .i64 x.nt.si, .int .i64 x.nt.wa, .int .i64 x.nt.ar]) (.agg #[.int .i64 y.at_, .int .i64 y.kd, .int .i64 y.nt.k, .int .i64 y.nt.tu, .int .i64 y.nt.gr, .int .i64 y.nt.lo, .int .i64 y.nt.ch, .int .i64 y.nt.ton, .int .i64 y.nt.me, .int .i64 y.nt.si, .int .i64 y.nt.wa, .int .i64 y.nt.ar])).run Tryz.prog w with
  | ok b w' =>
    intro h1
    simp only [Result.andThen, Result.ok.injEq, Value.bool.injEq] at h1 ⊢
    exact ⟨by rw [h1.1], h1.2⟩
  | _ => intro h1; simp [Result.andThen] at h1
theorem ES.at12 {w : World} {B n : Nat} {A : Option Addr} {xs : List EdR} (h : SL eC 12 w B A n xs) {k : Nat} (hk : k < xs.length) : ∃ b off, A = some ⟨b, off, none⟩ ∧ b < B ∧
    w.cell? ⟨b, off + k * 12, none⟩ = some (.int .i64 xs[k].at_) ∧ w.cell? ⟨b, off + k * 12 + 1, none⟩ = some (.int .i64 xs[k].kd) ∧ w.cell? ⟨b, off + k * 12 + 2, none⟩ = some (.int .i64 xs[k].nt.k) ∧ w.cell? ⟨b, off + k * 12 + 3, none⟩ = some (.int .i64 xs[k].nt.tu) ∧ w.cell? ⟨b, off + k * 12 + 4, none⟩ = some (.int .i64 xs[k].nt.gr) ∧ w.cell? ⟨b, off + k * 12 + 5, none⟩ = some (.int .i64 xs[k].nt.lo) ∧ w.cell? ⟨b, off + k * 12 + 6, none⟩ = some (.int .i64 xs[k].nt.ch) ∧ w.cell? ⟨b, off + k * 12 + 7, none⟩ = some (.int .i64 xs[k].nt.ton) ∧ w.cell? ⟨b, off + k * 12 + 8, none⟩ = some (.int .i64 xs[k].nt.me) ∧ w.cell? ⟨b, off + k * 12 + 9, none⟩ = some (.int .i64 xs[k].nt.si) ∧ w.cell? ⟨b, off + k * 12 + 10, none⟩ = some (.int .i64 xs[k].nt.wa) ∧ w.cell? ⟨b, off + k * 12 + 11, none⟩ = some (.int .i64 xs[k].nt.ar) := by
  obtain ⟨b, off, e, hb, hc⟩ := h.at_ hk
  exact ⟨b, off, e, hb, hc 0 _ rfl, hc 1 _ rfl, hc 2 _ rfl, hc 3 _ rfl, hc 4 _ rfl, hc 5 _ rfl, hc 6 _ rfl, hc 7 _ rfl, hc 8 _ rfl, hc 9 _ rfl, hc 10 _ rfl, hc 11 _ rfl⟩
set_option maxRecDepth 100000 in
set_option maxHeartbeats 4000000 in
theorem rsame_ed (A : Option Addr) (n c : Nat) (xs : List EdR) (A2 : Option Addr) (m c2 : Nat) (ys : List EdR) (w : World) (h : SL eC 12 w w.heap.size A n xs) (h2 : SL eC 12 w w.heap.size A2 m ys) (hn : n ≤ 1000000) :
    Calls Tryz.prog 25 #[.slice A n c, .slice A2 m c2] w fun e w' => e = .returned (.bool (decide (xs = ys))) ∧ Below w.heap.size w w' := by
  have hmo : Tryz.prog.follows .mixedOrders = true := by kernel_rfl
  have HL := Lib.hid h.1
  have HL2 := Lib.hid h2.1
  have HS := Lib.hid h
  have HS2 := Lib.hid h2
  clear h h2
  by_cases hnm : n = m
  case neg =>
    have HR : Hid (decide (xs = ys) = false) := by
      show _ = _
      apply decide_eq_false
      intro e
      exact hnm (by rw [HL.out, HL2.out, e])
    go_enter Tryz.func25, Tryz.ntmps25
    go_wp2_with fail
    go_ret
    exact ⟨by rw [HR.out]; rfl, Below.refl _ _⟩
  subst hnm
  go_enter Tryz.func25, Tryz.ntmps25
  go_wp2_with fail
  go_loopw [5] (fun i wr => ∃ k : Nat, k ≤ n ∧ i = .int .i64 (k : Nat) ∧ xs.take k = ys.take k ∧ Below w.heap.size w wr)
    (fun i _ => n - (intOf i).toNat)
  case atStart => exact ⟨0, Nat.zero_le _, rfl, by simp, Below.refl _ _⟩
  case round =>
    obtain ⟨k, hk1, rfl, hal, hbr⟩ := hrel
    by_cases hlt : k < n
    · have hkl : k < xs.length := by rw [← HL.out]; exact hlt
      have hkl2 : k < ys.length := by rw [← HL2.out]; exact hlt
      obtain ⟨b, off, hA, hbB, c0', c1', c2', c3', c4', c5', c6', c7', c8', c9', c10', c11'⟩ := ES.at12 (HS.out.below hbr) hkl
      obtain ⟨b2, off2, hA2, hbB2, d0', d1', d2', d3', d4', d5', d6', d7', d8', d9', d10', d11'⟩ := ES.at12 (HS2.out.below hbr) hkl2
      have HT := Lib.hid (take_succ_eq hal hkl hkl2)
      have HF := Lib.hid (list_neq_at hkl hkl2)
      generalize xs[k]'hkl = x at *
      generalize ys[k]'hkl2 = y at *
      subst hA hA2
      have hq := neE x y
      by_cases e : x = y
      · have HT2 := Lib.hid (HT.out e)
        rw [decide_eq_true e] at hq
        clear HT HF e
        go_wp2_with fail
        go_quiet (fail)
        go_wp2_with fail
        go_roundw
        case rel => exact ⟨k + 1, by omega, by go_num, HT2.out, below_drewN hbr _⟩
        case measure => simp [intOf]; omega
      · have HR : Hid (decide (xs = ys) = false) := decide_eq_false (HF.out e)
        rw [decide_eq_false e] at hq
        clear HT HF e
        go_wp2_with fail
        go_quiet (fail)
        go_wp2_with fail
        go_ret
        exact ⟨by rw [HR.out]; rfl, below_drewN hbr _⟩
    · obtain rfl : k = n := by omega
      have hall : xs = ys := by
        have h1 := HL.out
        have h2 := HL2.out
        have e1 : xs.take k = xs := List.take_of_length_le (by omega)
        have e2 : ys.take k = ys := List.take_of_length_le (by omega)
        rw [e1, e2] at hal
        exact hal
      have HALL : Hid (decide (xs = ys) = true) := decide_eq_true hall
      clear hall hal
      go_wp2_with fail
      go_ret
      exact ⟨by rw [HALL.out]; rfl, hbr⟩
end Go.Proofs.YtnmipejpjeakbaaGreatDoor
