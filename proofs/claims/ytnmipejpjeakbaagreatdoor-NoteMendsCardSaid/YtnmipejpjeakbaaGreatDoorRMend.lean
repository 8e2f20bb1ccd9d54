/- The document's Mend, walked. Printed by genrcst.py. -/
import Derived.Test.YtnmipejpjeakbaaGreatDoorRCst
namespace Go.Proofs.YtnmipejpjeakbaaGreatDoor
open Go.RowKit Go.Shelf Go.Sort Go.Proofs

set_option maxRecDepth 100000 in
set_option maxHeartbeats 8000000 in
theorem rMend_any (a b : List NoteR) (aa : Option Addr) (n ac : Nat) (ba : Option Addr) (m bc : Nat) (w : World) (ha : SL nC 10 w w.heap.size aa n a) (hb : SL nC 10 w w.heap.size ba m b) (hn : n ≤ 300) (hm : m ≤ 300) :
    Calls Tryz.prog 26 #[.slice aa n ac, .slice ba m bc] w fun e w' => ∃ A c, e = .returned (.slice A (mnd 0 a b).length c) ∧ OW eC 12 83 w.heap.size w' A (mnd 0 a b).length c (mnd 0 a b) ∧ Below w.heap.size w w' := by
  have HLA := Lib.hid ha.1
  have HLB := Lib.hid hb.1
  have hc600 := cst_bd (a := a) (b := b) (by rw [← HLA.out]; exact hn) (by rw [← HLB.out]; exact hm)
  have HC6 := Lib.hid hc600
  have HA := Lib.hid ha
  have HB := Lib.hid hb
  clear ha hb hc600
  go_enter Tryz.func26, Tryz.ntmps26
  go_wp2_with fail
  refine (rcosts_any a b aa n ac ba m bc _ HA.out HB.out hn hm).mono ?_
  rintro e w0 ⟨rb, cb, rfl, hG0, hrb, hb0⟩
  have HG0 := Lib.hid hG0
  have HB0 := Lib.hid hb0
  clear hG0 hb0
  go_wp2_with fail
  go_loopw [6, 7, 8, 33, 78, 122] (fun ov iv jv _ _ _ wq => ∃ (i j : Nat) (acc : List EdR) (A : Option Addr) (c : Nat), i ≤ n ∧ j ≤ m ∧ iv = .int .i64 (i : Nat) ∧ jv = .int .i64 (j : Nat) ∧ ov = .slice A acc.length c ∧ acc.length ≤ i + j ∧ mnd 0 a b = acc ++ mnd (i : Nat) (a.drop i) (b.drop j) ∧ OW eC 12 83 w.heap.size wq A acc.length c acc ∧ GC a b n m wq rb cb 0 0 ∧ Below w.heap.size w wq) (fun _ iv jv _ _ _ _ => (n - (intOf iv).toNat) + (m - (intOf jv).toNat))
  case atStart => exact ⟨0, 0, [], none, 0, Nat.zero_le _, Nat.zero_le _, rfl, rfl, rfl, Nat.zero_le _, rfl, OW.nil_, HG0.out, HB0.out⟩
  case round =>
    obtain ⟨i, j, acc, A, c, hin, hjm, rfl, rfl, rfl, hal, hmn, hO, hG, hbr⟩ := hrel
    have hlt := hG.lt
    have hcap := hO.cap
    by_cases hi : i < n
    · have r0 := hG.row (r := i) hin (Nat.zero_le _)
      have r1 := hG.row (r := i + 1) (by omega) (Nat.zero_le _)
      have c00 := hG.at_ (r := i) (j' := j) hin hjm (Nat.zero_le _) (.inr (Nat.zero_le _))
      have c10 := hG.at_ (r := i + 1) (j' := j) (by omega) hjm (Nat.zero_le _) (.inr (Nat.zero_le _))
      obtain ⟨K, hK⟩ : ∃ K, cb i = K := ⟨_, rfl⟩
      obtain ⟨K2, hK2⟩ : ∃ K, cb (i + 1) = K := ⟨_, rfl⟩
      rw [hK] at r0 c00
      rw [hK2] at r1 c10
      obtain ⟨C, hC⟩ : ∃ C, cst (a.drop i) (b.drop j) = C := ⟨_, rfl⟩
      obtain ⟨x10, hx10⟩ : ∃ C, cst (a.drop (i + 1)) (b.drop j) = C := ⟨_, rfl⟩
      have hC6 := HC6.out i j
      have h106 := HC6.out (i + 1) j
      have hia : i < a.length := by rw [← HLA.out]; exact hi
      have b1 : (i : Int) < (n : Int) + 1 := by omega
      have b2 : (i : Int) + 1 < (n : Int) + 1 := by omega
      have b3 : (j : Int) < (m : Int) + 1 := by omega
      have b5 : ((i : Int) + 1).toNat = i + 1 := by omega
      have b7 : (0 : Int) ≤ (i : Int) + 1 := by omega
      have u1 : IntKind.i64.wrap ((i : Int) + 1) = (i : Int) + 1 := IntWalk.i64_in _ (by omega)
      rw [hC] at c00 hC6
      rw [hx10] at c10 h106
      have u4 : IntKind.i64.wrap (1 + (x10 : Int)) = 1 + (x10 : Int) := IntWalk.i64_in _ (by omega)
      by_cases hj : j < m
      · have c11 := hG.at_ (r := i + 1) (j' := j + 1) (by omega) (by omega) (Nat.zero_le _) (.inr (Nat.zero_le _))
        rw [hK2] at c11
        obtain ⟨x11, hx11⟩ : ∃ C, cst (a.drop (i + 1)) (b.drop (j + 1)) = C := ⟨_, rfl⟩
        have h116 := HC6.out (i + 1) (j + 1)
        have hjb : j < b.length := by rw [← HLB.out]; exact hj
        obtain ⟨xb, xo, hxa, hxB, c0', c1', c2', c3', c4', c5', c6', c7', c8', c9'⟩ := NS.at_ (HA.out.below hbr) hia
        obtain ⟨yb, yo, hya, hyB, d0', d1', d2', d3', d4', d5', d6', d7', d8', d9'⟩ := NS.at_ (HB.out.below hbr) hjb
        have HD : Hid (mnd (i : Nat) (a.drop i) (b.drop j) = if a[i] = b[j] ∧ x11 = C then mnd ((i + 1 : Nat) : Int) (a.drop (i + 1)) (b.drop (j + 1))
            else if x11 + 1 = C then ⟨(i : Nat), 3, b[j]⟩ :: mnd ((i + 1 : Nat) : Int) (a.drop (i + 1)) (b.drop (j + 1))
            else if x10 + 1 = C then ⟨(i : Nat), 2, ⟨0, 0, 0, 0, 0, 0, 0, 0, 0, 0⟩⟩ :: mnd ((i + 1 : Nat) : Int) (a.drop (i + 1)) (b.drop j)
            else ⟨(i : Nat), 1, b[j]⟩ :: mnd (i : Nat) (a.drop i) (b.drop (j + 1))) := by
          show _ = _
          have h1 := drop_cons hia
          have h2 := drop_cons hjb
          rw [h1, h2, mnd_cons, ← h1, ← h2, hC, hx11, hx10]
          rfl
        have HXY : Hid (a[i] = b[j] → x11 = C) := by
          intro q
          rw [drop_cons hia, drop_cons hjb, cst_cons, if_pos q, hx11] at hC
          exact hC
        rw [hx11] at c11 h116
        generalize a[i]'hia = x at *
        generalize b[j]'hjb = y at *
        have b4 : (j : Int) + 1 < (m : Int) + 1 := by omega
        have b6 : ((j : Int) + 1).toNat = j + 1 := by omega
        have b8 : (0 : Int) ≤ (j : Int) + 1 := by omega
        have u2 : IntKind.i64.wrap ((j : Int) + 1) = (j : Int) + 1 := IntWalk.i64_in _ (by omega)
        have u3 : IntKind.i64.wrap (1 + (x11 : Int)) = 1 + (x11 : Int) := IntWalk.i64_in _ (by omega)
        have hbi : (i : Int) < (n : Int) := by omega
        have hbj : (j : Int) < (m : Int) := by omega
        have HMN := Lib.hid hmn
        have HOwr := Lib.hid hO
        have HGwr := Lib.hid hG
        have HBwr := Lib.hid hbr
        have HAL := Lib.hid hal
        clear hmn hO hG hbr hK hK2 hC hx10 hx11 hia hjb hal hcap
        by_cases hA : x = y ∧ x11 = C
        · have hmn2 : mnd 0 a b = acc ++ mnd ((i + 1 : Nat) : Int) (a.drop (i + 1)) (b.drop (j + 1)) := by rw [HMN.out, HD.out, if_pos hA]
          have HM2 := Lib.hid hmn2
          obtain ⟨exy, exC⟩ := hA
          subst exy exC
          clear hmn2
          have g1 : ((x11 : Int) == (x11 : Int)) = true := by simp
          rw [hxa, hya]
          go_wp2_with fail
          go_quiet (fail)
          go_wp2_with fail
          go_roundw
          case rel => exact ⟨i + 1, j + 1, acc, A, c, by omega, by omega, by go_num, by go_num, rfl, by have := HAL.out; omega, HM2.out, HOwr.out.drewN _, HGwr.out.drewN _, below_drewN HBwr.out _⟩
          case measure => simp [intOf]; omega
        · have hD2 := HD.out
          rw [if_neg hA] at hD2
          have hal7 : acc.length ≤ 700 := by have := HAL.out; omega
          have exy : x ≠ y := fun q => hA ⟨q, HXY.out q⟩
          have hq : ∀ w, (Go.binOp .eql 36 (.agg #[.int .i64 x.k, .int .i64 x.tu, .int .i64 x.gr, .int .i64 x.lo, .int .i64 x.ch, .int .i64 x.ton, .int .i64 x.me, .int .i64 x.si, .int .i64 x.wa, .int .i64 x.ar]) (.agg #[.int .i64 y.k, .int .i64 y.tu, .int .i64 y.gr, .int .i64 y.lo, .int .i64 y.ch, .int .i64 y.ton, .int .i64 y.me, .int .i64 y.si, .int .i64 y.wa, .int .i64 y.ar])).run Tryz.prog w = .ok (.bool false) w := fun w => by rw [eqN, decide_eq_false exy]
          rw [hxa, hya]
          clear HD hA
          go_wp2_with fail
          go_quiet (fail)
          obtain ⟨w1, hw1⟩ : ∃ w9, w9 = wr.drewN nq := ⟨_, rfl⟩
          have HBw1 : Hid (Below w.heap.size w w1) := by show Below _ _ _; rw [hw1]; exact below_drewN HBwr.out _
          have HGw1 : Hid (GC a b n m w1 rb cb 0 0) := by show GC _ _ _ _ _ _ _ _ _; rw [hw1]; exact HGwr.out.drewN _
          have HOw1 : Hid (OW eC 12 83 w.heap.size w1 A acc.length c acc) := by show OW _ _ _ _ _ _ _ _ _; rw [hw1]; exact HOwr.out.drewN _
          have r0 : w1.cell? ⟨rb, i, none⟩ = some (.slice (some ⟨K, 0, none⟩) (m + 1) (m + 1)) := by rw [hw1]; exact r0
          have r1 : w1.cell? ⟨rb, i + 1, none⟩ = some (.slice (some ⟨K2, 0, none⟩) (m + 1) (m + 1)) := by rw [hw1]; exact r1
          have c00 : w1.cell? ⟨K, j, none⟩ = some (.int .i64 (C : Nat)) := by rw [hw1]; exact c00
          have c10 : w1.cell? ⟨K2, j, none⟩ = some (.int .i64 (x10 : Nat)) := by rw [hw1]; exact c10
          have c11 : w1.cell? ⟨K2, j + 1, none⟩ = some (.int .i64 (x11 : Nat)) := by rw [hw1]; exact c11
          have d0 : w1.cell? ⟨yb, yo + j * 10, none⟩ = some (.int .i64 y.k) := by rw [hw1]; exact d0'
          have d1 : w1.cell? ⟨yb, yo + j * 10 + 1, none⟩ = some (.int .i64 y.tu) := by rw [hw1]; exact d1'
          have d2 : w1.cell? ⟨yb, yo + j * 10 + 2, none⟩ = some (.int .i64 y.gr) := by rw [hw1]; exact d2'
          have d3 : w1.cell? ⟨yb, yo + j * 10 + 3, none⟩ = some (.int .i64 y.lo) := by rw [hw1]; exact d3'
          have d4 : w1.cell? ⟨yb, yo + j * 10 + 4, none⟩ = some (.int .i64 y.ch) := by rw [hw1]; exact d4'
          have d5 : w1.cell? ⟨yb, yo + j * 10 + 5, none⟩ = some (.int .i64 y.ton) := by rw [hw1]; exact d5'
          have d6 : w1.cell? ⟨yb, yo + j * 10 + 6, none⟩ = some (.int .i64 y.me) := by rw [hw1]; exact d6'
          have d7 : w1.cell? ⟨yb, yo + j * 10 + 7, none⟩ = some (.int .i64 y.si) := by rw [hw1]; exact d7'
          have d8 : w1.cell? ⟨yb, yo + j * 10 + 8, none⟩ = some (.int .i64 y.wa) := by rw [hw1]; exact d8'
          have d9 : w1.cell? ⟨yb, yo + j * 10 + 9, none⟩ = some (.int .i64 y.ar) := by rw [hw1]; exact d9'
          rw [← hw1]
          clear hw1 HBwr HGwr HOwr
          clear hq c0' c1' c2' c3' c4' c5' c6' c7' c8' c9' d0' d1' d2' d3' d4' d5' d6' d7' d8' d9'
          by_cases hB : x11 + 1 = C
          · rw [if_pos hB] at hD2
            have HM2 : Hid (mnd 0 a b = (acc ++ [⟨(i : Nat), 3, y⟩]) ++ mnd ((i + 1 : Nat) : Int) (a.drop (i + 1)) (b.drop (j + 1))) := by show _ = _; rw [HMN.out, hD2, List.append_assoc]; rfl
            have g2 : ((C : Int) == 1 + (x11 : Int)) = true := by simp; omega
            clear hD2
            go_wp2_with fail
            go_quiet (fail)
            obtain ⟨w2, hw2⟩ : ∃ w9, w9 = w1.drewN nq := ⟨_, rfl⟩
            have HBw2 : Hid (Below w.heap.size w w2) := by show Below _ _ _; rw [hw2]; exact below_drewN HBw1.out _
            have HGw2 : Hid (GC a b n m w2 rb cb 0 0) := by show GC _ _ _ _ _ _ _ _ _; rw [hw2]; exact HGw1.out.drewN _
            have HOw2 : Hid (OW eC 12 83 w.heap.size w2 A acc.length c acc) := by show OW _ _ _ _ _ _ _ _ _; rw [hw2]; exact HOw1.out.drewN _
            have d0 : w2.cell? ⟨yb, yo + j * 10, none⟩ = some (.int .i64 y.k) := by rw [hw2]; exact d0
            have d1 : w2.cell? ⟨yb, yo + j * 10 + 1, none⟩ = some (.int .i64 y.tu) := by rw [hw2]; exact d1
            have d2 : w2.cell? ⟨yb, yo + j * 10 + 2, none⟩ = some (.int .i64 y.gr) := by rw [hw2]; exact d2
            have d3 : w2.cell? ⟨yb, yo + j * 10 + 3, none⟩ = some (.int .i64 y.lo) := by rw [hw2]; exact d3
            have d4 : w2.cell? ⟨yb, yo + j * 10 + 4, none⟩ = some (.int .i64 y.ch) := by rw [hw2]; exact d4
            have d5 : w2.cell? ⟨yb, yo + j * 10 + 5, none⟩ = some (.int .i64 y.ton) := by rw [hw2]; exact d5
            have d6 : w2.cell? ⟨yb, yo + j * 10 + 6, none⟩ = some (.int .i64 y.me) := by rw [hw2]; exact d6
            have d7 : w2.cell? ⟨yb, yo + j * 10 + 7, none⟩ = some (.int .i64 y.si) := by rw [hw2]; exact d7
            have d8 : w2.cell? ⟨yb, yo + j * 10 + 8, none⟩ = some (.int .i64 y.wa) := by rw [hw2]; exact d8
            have d9 : w2.cell? ⟨yb, yo + j * 10 + 9, none⟩ = some (.int .i64 y.ar) := by rw [hw2]; exact d9
            rw [← hw2]
            clear hw2 HBw1 HGw1 HOw1
            clear r0 r1 c00 c10 c11
            have hlt1 := HGw2.out.lt
            go_wp2_with (at_builtin; refine wpList_app rfl _ _ 40 rfl w.heap.size 83 _ 12 96 Tryz.underlying40 infoE rfl (by decide) eC A acc.length c _ rfl (HOw2.out.alloc _) ⟨(i : Nat), 3, y⟩ #[.int .i64 (i : Nat), .int .i64 3, .int .i64 y.k, .int .i64 y.tu, .int .i64 y.gr, .int .i64 y.lo, .int .i64 y.ch, .int .i64 y.ton, .int .i64 y.me, .int .i64 y.si, .int .i64 y.wa, .int .i64 y.ar] rfl rfl 83 w2.heap.size rfl (BK.new w2 _ _) (by simp [eC, Value.oneCell']) (by omega) (by omega) (by simp; omega) ?_; intro g' c9 w8 hap; have HAP := Lib.hid hap; clear hap)
            have hbN := (HBw2.out.alloc (by omega) (.cells #[.int .i64 (i : Nat), .int .i64 3, .int .i64 y.k, .int .i64 y.tu, .int .i64 y.gr, .int .i64 y.lo, .int .i64 y.ch, .int .i64 y.ton, .int .i64 y.me, .int .i64 y.si, .int .i64 y.wa, .int .i64 y.ar] 83)).trans HAP.out.bel
            have hGN := HGw2.out.app HOw2.out HAP.out
            go_roundw
            case rel => exact ⟨i + 1, j + 1, acc ++ [⟨(i : Nat), 3, y⟩], some ⟨g', 0, none⟩, c9, by omega, by omega, by go_num, by go_num, by simp, by rw [List.length_append, List.length_singleton]; have := HAL.out; omega, HM2.out, by rw [List.length_append]; exact HAP.out.own, hGN, hbN⟩
            case measure => simp [intOf]; omega
          · rw [if_neg hB] at hD2
            have g2 : ((C : Int) == 1 + (x11 : Int)) = false := by simp; omega
            go_wp2_with fail
            go_quiet (fail)
            obtain ⟨w2, hw2⟩ : ∃ w9, w9 = w1.drewN nq := ⟨_, rfl⟩
            have HBw2 : Hid (Below w.heap.size w w2) := by show Below _ _ _; rw [hw2]; exact below_drewN HBw1.out _
            have HGw2 : Hid (GC a b n m w2 rb cb 0 0) := by show GC _ _ _ _ _ _ _ _ _; rw [hw2]; exact HGw1.out.drewN _
            have HOw2 : Hid (OW eC 12 83 w.heap.size w2 A acc.length c acc) := by show OW _ _ _ _ _ _ _ _ _; rw [hw2]; exact HOw1.out.drewN _
            have r0 : w2.cell? ⟨rb, i, none⟩ = some (.slice (some ⟨K, 0, none⟩) (m + 1) (m + 1)) := by rw [hw2]; exact r0
            have r1 : w2.cell? ⟨rb, i + 1, none⟩ = some (.slice (some ⟨K2, 0, none⟩) (m + 1) (m + 1)) := by rw [hw2]; exact r1
            have c00 : w2.cell? ⟨K, j, none⟩ = some (.int .i64 (C : Nat)) := by rw [hw2]; exact c00
            have c10 : w2.cell? ⟨K2, j, none⟩ = some (.int .i64 (x10 : Nat)) := by rw [hw2]; exact c10
            have d0 : w2.cell? ⟨yb, yo + j * 10, none⟩ = some (.int .i64 y.k) := by rw [hw2]; exact d0
            have d1 : w2.cell? ⟨yb, yo + j * 10 + 1, none⟩ = some (.int .i64 y.tu) := by rw [hw2]; exact d1
            have d2 : w2.cell? ⟨yb, yo + j * 10 + 2, none⟩ = some (.int .i64 y.gr) := by rw [hw2]; exact d2
            have d3 : w2.cell? ⟨yb, yo + j * 10 + 3, none⟩ = some (.int .i64 y.lo) := by rw [hw2]; exact d3
            have d4 : w2.cell? ⟨yb, yo + j * 10 + 4, none⟩ = some (.int .i64 y.ch) := by rw [hw2]; exact d4
            have d5 : w2.cell? ⟨yb, yo + j * 10 + 5, none⟩ = some (.int .i64 y.ton) := by rw [hw2]; exact d5
            have d6 : w2.cell? ⟨yb, yo + j * 10 + 6, none⟩ = some (.int .i64 y.me) := by rw [hw2]; exact d6
            have d7 : w2.cell? ⟨yb, yo + j * 10 + 7, none⟩ = some (.int .i64 y.si) := by rw [hw2]; exact d7
            have d8 : w2.cell? ⟨yb, yo + j * 10 + 8, none⟩ = some (.int .i64 y.wa) := by rw [hw2]; exact d8
            have d9 : w2.cell? ⟨yb, yo + j * 10 + 9, none⟩ = some (.int .i64 y.ar) := by rw [hw2]; exact d9
            rw [← hw2]
            clear hw2 HBw1 HGw1 HOw1
            clear c11 g2
            by_cases hC' : x10 + 1 = C
            · rw [if_pos hC'] at hD2
              have HM2 : Hid (mnd 0 a b = (acc ++ [⟨(i : Nat), 2, ⟨0, 0, 0, 0, 0, 0, 0, 0, 0, 0⟩⟩]) ++ mnd ((i + 1 : Nat) : Int) (a.drop (i + 1)) (b.drop j)) := by show _ = _; rw [HMN.out, hD2, List.append_assoc]; rfl
              have g3 : ((C : Int) == 1 + (x10 : Int)) = true := by simp; omega
              clear hD2
              go_wp2_with fail
              go_quiet (fail)
              obtain ⟨w3, hw3⟩ : ∃ w9, w9 = w2.drewN nq := ⟨_, rfl⟩
              have HBw3 : Hid (Below w.heap.size w w3) := by show Below _ _ _; rw [hw3]; exact below_drewN HBw2.out _
              have HGw3 : Hid (GC a b n m w3 rb cb 0 0) := by show GC _ _ _ _ _ _ _ _ _; rw [hw3]; exact HGw2.out.drewN _
              have HOw3 : Hid (OW eC 12 83 w.heap.size w3 A acc.length c acc) := by show OW _ _ _ _ _ _ _ _ _; rw [hw3]; exact HOw2.out.drewN _
              rw [← hw3]
              clear hw3 HBw2 HGw2 HOw2
              clear r0 r1 c00 c10 d0 d1 d2 d3 d4 d5 d6 d7 d8 d9
              have hlt1 := HGw3.out.lt
              go_wp2_with (at_builtin; refine wpList_app rfl _ _ 40 rfl w.heap.size 83 _ 12 96 Tryz.underlying40 infoE rfl (by decide) eC A acc.length c _ rfl (HOw3.out.alloc _) ⟨(i : Nat), 2, ⟨0, 0, 0, 0, 0, 0, 0, 0, 0, 0⟩⟩ #[.int .i64 (i : Nat), .int .i64 2, .int .i64 0, .int .i64 0, .int .i64 0, .int .i64 0, .int .i64 0, .int .i64 0, .int .i64 0, .int .i64 0, .int .i64 0, .int .i64 0] rfl rfl 83 w3.heap.size rfl (BK.new w3 _ _) (by simp [eC, Value.oneCell']) (by omega) (by omega) (by simp; omega) ?_; intro g' c9 w8 hap; have HAP := Lib.hid hap; clear hap)
              have hbN := (HBw3.out.alloc (by omega) (.cells #[.int .i64 (i : Nat), .int .i64 2, .int .i64 0, .int .i64 0, .int .i64 0, .int .i64 0, .int .i64 0, .int .i64 0, .int .i64 0, .int .i64 0, .int .i64 0, .int .i64 0] 83)).trans HAP.out.bel
              have hGN := HGw3.out.app HOw3.out HAP.out
              go_roundw
              case rel => exact ⟨i + 1, j, acc ++ [⟨(i : Nat), 2, ⟨0, 0, 0, 0, 0, 0, 0, 0, 0, 0⟩⟩], some ⟨g', 0, none⟩, c9, by omega, by omega, by go_num, rfl, by simp, by rw [List.length_append, List.length_singleton]; have := HAL.out; omega, HM2.out, by rw [List.length_append]; exact HAP.out.own, hGN, hbN⟩
              case measure => simp [intOf]; omega
            · rw [if_neg hC'] at hD2
              have HM2 : Hid (mnd 0 a b = (acc ++ [⟨(i : Nat), 1, y⟩]) ++ mnd (i : Nat) (a.drop i) (b.drop (j + 1))) := by show _ = _; rw [HMN.out, hD2, List.append_assoc]; rfl
              have g3 : ((C : Int) == 1 + (x10 : Int)) = false := by simp; omega
              clear hD2
              go_wp2_with fail
              go_quiet (fail)
              obtain ⟨w3, hw3⟩ : ∃ w9, w9 = w2.drewN nq := ⟨_, rfl⟩
              have HBw3 : Hid (Below w.heap.size w w3) := by show Below _ _ _; rw [hw3]; exact below_drewN HBw2.out _
              have HGw3 : Hid (GC a b n m w3 rb cb 0 0) := by show GC _ _ _ _ _ _ _ _ _; rw [hw3]; exact HGw2.out.drewN _
              have HOw3 : Hid (OW eC 12 83 w.heap.size w3 A acc.length c acc) := by show OW _ _ _ _ _ _ _ _ _; rw [hw3]; exact HOw2.out.drewN _
              have d0 : w3.cell? ⟨yb, yo + j * 10, none⟩ = some (.int .i64 y.k) := by rw [hw3]; exact d0
              have d1 : w3.cell? ⟨yb, yo + j * 10 + 1, none⟩ = some (.int .i64 y.tu) := by rw [hw3]; exact d1
              have d2 : w3.cell? ⟨yb, yo + j * 10 + 2, none⟩ = some (.int .i64 y.gr) := by rw [hw3]; exact d2
              have d3 : w3.cell? ⟨yb, yo + j * 10 + 3, none⟩ = some (.int .i64 y.lo) := by rw [hw3]; exact d3
              have d4 : w3.cell? ⟨yb, yo + j * 10 + 4, none⟩ = some (.int .i64 y.ch) := by rw [hw3]; exact d4
              have d5 : w3.cell? ⟨yb, yo + j * 10 + 5, none⟩ = some (.int .i64 y.ton) := by rw [hw3]; exact d5
              have d6 : w3.cell? ⟨yb, yo + j * 10 + 6, none⟩ = some (.int .i64 y.me) := by rw [hw3]; exact d6
              have d7 : w3.cell? ⟨yb, yo + j * 10 + 7, none⟩ = some (.int .i64 y.si) := by rw [hw3]; exact d7
              have d8 : w3.cell? ⟨yb, yo + j * 10 + 8, none⟩ = some (.int .i64 y.wa) := by rw [hw3]; exact d8
              have d9 : w3.cell? ⟨yb, yo + j * 10 + 9, none⟩ = some (.int .i64 y.ar) := by rw [hw3]; exact d9
              rw [← hw3]
              clear hw3 HBw2 HGw2 HOw2
              clear r0 r1 c00 c10
              have hlt1 := HGw3.out.lt
              go_wp2_with (at_builtin; refine wpList_app rfl _ _ 40 rfl w.heap.size 83 _ 12 96 Tryz.underlying40 infoE rfl (by decide) eC A acc.length c _ rfl (HOw3.out.alloc _) ⟨(i : Nat), 1, y⟩ #[.int .i64 (i : Nat), .int .i64 1, .int .i64 y.k, .int .i64 y.tu, .int .i64 y.gr, .int .i64 y.lo, .int .i64 y.ch, .int .i64 y.ton, .int .i64 y.me, .int .i64 y.si, .int .i64 y.wa, .int .i64 y.ar] rfl rfl 83 w3.heap.size rfl (BK.new w3 _ _) (by simp [eC, Value.oneCell']) (by omega) (by omega) (by simp; omega) ?_; intro g' c9 w8 hap; have HAP := Lib.hid hap; clear hap)
              have hbN := (HBw3.out.alloc (by omega) (.cells #[.int .i64 (i : Nat), .int .i64 1, .int .i64 y.k, .int .i64 y.tu, .int .i64 y.gr, .int .i64 y.lo, .int .i64 y.ch, .int .i64 y.ton, .int .i64 y.me, .int .i64 y.si, .int .i64 y.wa, .int .i64 y.ar] 83)).trans HAP.out.bel
              have hGN := HGw3.out.app HOw3.out HAP.out
              go_roundw
              case rel => exact ⟨i, j + 1, acc ++ [⟨(i : Nat), 1, y⟩], some ⟨g', 0, none⟩, c9, by omega, by omega, rfl, by go_num, by simp, by rw [List.length_append, List.length_singleton]; have := HAL.out; omega, HM2.out, by rw [List.length_append]; exact HAP.out.own, hGN, hbN⟩
              case measure => simp [intOf]; omega
      · obtain rfl : m = j := by omega
        have hia : i < a.length := by rw [← HLA.out]; exact hi
        have HD : Hid (mnd (i : Nat) (a.drop i) (b.drop m) = ⟨(i : Nat), 2, ⟨0, 0, 0, 0, 0, 0, 0, 0, 0, 0⟩⟩ :: mnd ((i + 1 : Nat) : Int) (a.drop (i + 1)) (b.drop m)) := by
          show _ = _
          rw [drop_cons hia, List.drop_of_length_le (Nat.le_of_eq HLB.out.symm), mnd_del]
          rfl
        have hmn2 : mnd 0 a b = (acc ++ [⟨(i : Nat), 2, ⟨0, 0, 0, 0, 0, 0, 0, 0, 0, 0⟩⟩]) ++ mnd ((i + 1 : Nat) : Int) (a.drop (i + 1)) (b.drop m) := by rw [hmn, HD.out, List.append_assoc]; rfl
        have HM2 := Lib.hid hmn2
        have e1 := cst_end' (a := a) HLB.out i
        have e2 := cst_end' (a := a) HLB.out (i + 1)
        rw [hC] at e1
        rw [hx10] at e2
        have hxc : x10 + 1 = C := by omega
        have g1 : ((C : Int) == 1 + (x10 : Int)) = true := by simp; omega
        have hbi : (i : Int) < (n : Int) := by omega
        have HOwr := Lib.hid hO
        have HGwr := Lib.hid hG
        have HBwr := Lib.hid hbr
        have HAL := Lib.hid hal
        have hal7 : acc.length ≤ 700 := by omega
        clear hmn hmn2 hO hG hbr hK hK2 hC hx10 hia hal hcap e1 e2 hlt
        go_wp2_with fail
        go_quiet (fail)
        obtain ⟨w1, hw1⟩ : ∃ w9, w9 = wr.drewN nq := ⟨_, rfl⟩
        have HBw1 : Hid (Below w.heap.size w w1) := by show Below _ _ _; rw [hw1]; exact below_drewN HBwr.out _
        have HGw1 : Hid (GC a b n m w1 rb cb 0 0) := by show GC _ _ _ _ _ _ _ _ _; rw [hw1]; exact HGwr.out.drewN _
        have HOw1 : Hid (OW eC 12 83 w.heap.size w1 A acc.length c acc) := by show OW _ _ _ _ _ _ _ _ _; rw [hw1]; exact HOwr.out.drewN _
        have r0 : w1.cell? ⟨rb, i, none⟩ = some (.slice (some ⟨K, 0, none⟩) (m + 1) (m + 1)) := by rw [hw1]; exact r0
        have r1 : w1.cell? ⟨rb, i + 1, none⟩ = some (.slice (some ⟨K2, 0, none⟩) (m + 1) (m + 1)) := by rw [hw1]; exact r1
        have c00 : w1.cell? ⟨K, m, none⟩ = some (.int .i64 (C : Nat)) := by rw [hw1]; exact c00
        have c10 : w1.cell? ⟨K2, m, none⟩ = some (.int .i64 (x10 : Nat)) := by rw [hw1]; exact c10
        rw [← hw1]
        clear hw1 HBwr HGwr HOwr
        go_wp2_with fail
        go_quiet (fail)
        obtain ⟨w2, hw2⟩ : ∃ w9, w9 = w1.drewN nq := ⟨_, rfl⟩
        have HBw2 : Hid (Below w.heap.size w w2) := by show Below _ _ _; rw [hw2]; exact below_drewN HBw1.out _
        have HGw2 : Hid (GC a b n m w2 rb cb 0 0) := by show GC _ _ _ _ _ _ _ _ _; rw [hw2]; exact HGw1.out.drewN _
        have HOw2 : Hid (OW eC 12 83 w.heap.size w2 A acc.length c acc) := by show OW _ _ _ _ _ _ _ _ _; rw [hw2]; exact HOw1.out.drewN _
        have r0 : w2.cell? ⟨rb, i, none⟩ = some (.slice (some ⟨K, 0, none⟩) (m + 1) (m + 1)) := by rw [hw2]; exact r0
        have r1 : w2.cell? ⟨rb, i + 1, none⟩ = some (.slice (some ⟨K2, 0, none⟩) (m + 1) (m + 1)) := by rw [hw2]; exact r1
        have c00 : w2.cell? ⟨K, m, none⟩ = some (.int .i64 (C : Nat)) := by rw [hw2]; exact c00
        have c10 : w2.cell? ⟨K2, m, none⟩ = some (.int .i64 (x10 : Nat)) := by rw [hw2]; exact c10
        rw [← hw2]
        clear hw2 HBw1 HGw1 HOw1
        go_wp2_with fail
        go_quiet (fail)
        obtain ⟨w3, hw3⟩ : ∃ w9, w9 = w2.drewN nq := ⟨_, rfl⟩
        have HBw3 : Hid (Below w.heap.size w w3) := by show Below _ _ _; rw [hw3]; exact below_drewN HBw2.out _
        have HGw3 : Hid (GC a b n m w3 rb cb 0 0) := by show GC _ _ _ _ _ _ _ _ _; rw [hw3]; exact HGw2.out.drewN _
        have HOw3 : Hid (OW eC 12 83 w.heap.size w3 A acc.length c acc) := by show OW _ _ _ _ _ _ _ _ _; rw [hw3]; exact HOw2.out.drewN _
        rw [← hw3]
        clear hw3 HBw2 HGw2 HOw2
        clear r0 r1 c00 c10
        have hlt1 := HGw3.out.lt
        go_wp2_with (at_builtin; refine wpList_app rfl _ _ 40 rfl w.heap.size 83 _ 12 96 Tryz.underlying40 infoE rfl (by decide) eC A acc.length c _ rfl (HOw3.out.alloc _) ⟨(i : Nat), 2, ⟨0, 0, 0, 0, 0, 0, 0, 0, 0, 0⟩⟩ #[.int .i64 (i : Nat), .int .i64 2, .int .i64 0, .int .i64 0, .int .i64 0, .int .i64 0, .int .i64 0, .int .i64 0, .int .i64 0, .int .i64 0, .int .i64 0, .int .i64 0] rfl rfl 83 w3.heap.size rfl (BK.new w3 _ _) (by simp [eC, Value.oneCell']) (by omega) (by omega) (by simp; omega) ?_; intro g' c9 w8 hap; have HAP := Lib.hid hap; clear hap)
        have hbN := (HBw3.out.alloc (by omega) (.cells #[.int .i64 (i : Nat), .int .i64 2, .int .i64 0, .int .i64 0, .int .i64 0, .int .i64 0, .int .i64 0, .int .i64 0, .int .i64 0, .int .i64 0, .int .i64 0, .int .i64 0] 83)).trans HAP.out.bel
        have hGN := HGw3.out.app HOw3.out HAP.out
        go_roundw
        case rel => exact ⟨i + 1, m, acc ++ [⟨(i : Nat), 2, ⟨0, 0, 0, 0, 0, 0, 0, 0, 0, 0⟩⟩], some ⟨g', 0, none⟩, c9, by omega, by omega, by go_num, rfl, by simp, by rw [List.length_append, List.length_singleton]; have := HAL.out; omega, HM2.out, by rw [List.length_append]; exact HAP.out.own, hGN, hbN⟩
        case measure => simp [intOf]; omega
    · obtain rfl : n = i := by omega
      by_cases hj : j < m
      · have hjb : j < b.length := by rw [← HLB.out]; exact hj
        obtain ⟨yb, yo, hya, hyB, d0', d1', d2', d3', d4', d5', d6', d7', d8', d9'⟩ := NS.at_ (HB.out.below hbr) hjb
        have hmn2 : mnd 0 a b = (acc ++ [⟨(n : Nat), 1, b[j]⟩]) ++ mnd (n : Nat) (a.drop n) (b.drop (j + 1)) := by
          rw [hmn, drop_cons hjb, List.drop_of_length_le (Nat.le_of_eq HLA.out.symm), mnd_ins, List.append_assoc]
          rfl
        have HM2 := Lib.hid hmn2
        clear hmn2 hmn
        generalize b[j]'hjb = y at *
        have hbj : (j : Int) < (m : Int) := by omega
        have HOwr := Lib.hid hO
        have HGwr := Lib.hid hG
        have HBwr := Lib.hid hbr
        have HAL := Lib.hid hal
        have hal7 : acc.length ≤ 700 := by omega
        clear hO hG hbr hjb hal hcap hlt
        rw [hya]
        go_wp2_with fail
        go_quiet (fail)
        obtain ⟨w1, hw1⟩ : ∃ w9, w9 = wr.drewN nq := ⟨_, rfl⟩
        have HBw1 : Hid (Below w.heap.size w w1) := by show Below _ _ _; rw [hw1]; exact below_drewN HBwr.out _
        have HGw1 : Hid (GC a b n m w1 rb cb 0 0) := by show GC _ _ _ _ _ _ _ _ _; rw [hw1]; exact HGwr.out.drewN _
        have HOw1 : Hid (OW eC 12 83 w.heap.size w1 A acc.length c acc) := by show OW _ _ _ _ _ _ _ _ _; rw [hw1]; exact HOwr.out.drewN _
        have d0 : w1.cell? ⟨yb, yo + j * 10, none⟩ = some (.int .i64 y.k) := by rw [hw1]; exact d0'
        have d1 : w1.cell? ⟨yb, yo + j * 10 + 1, none⟩ = some (.int .i64 y.tu) := by rw [hw1]; exact d1'
        have d2 : w1.cell? ⟨yb, yo + j * 10 + 2, none⟩ = some (.int .i64 y.gr) := by rw [hw1]; exact d2'
        have d3 : w1.cell? ⟨yb, yo + j * 10 + 3, none⟩ = some (.int .i64 y.lo) := by rw [hw1]; exact d3'
        have d4 : w1.cell? ⟨yb, yo + j * 10 + 4, none⟩ = some (.int .i64 y.ch) := by rw [hw1]; exact d4'
        have d5 : w1.cell? ⟨yb, yo + j * 10 + 5, none⟩ = some (.int .i64 y.ton) := by rw [hw1]; exact d5'
        have d6 : w1.cell? ⟨yb, yo + j * 10 + 6, none⟩ = some (.int .i64 y.me) := by rw [hw1]; exact d6'
        have d7 : w1.cell? ⟨yb, yo + j * 10 + 7, none⟩ = some (.int .i64 y.si) := by rw [hw1]; exact d7'
        have d8 : w1.cell? ⟨yb, yo + j * 10 + 8, none⟩ = some (.int .i64 y.wa) := by rw [hw1]; exact d8'
        have d9 : w1.cell? ⟨yb, yo + j * 10 + 9, none⟩ = some (.int .i64 y.ar) := by rw [hw1]; exact d9'
        rw [← hw1]
        clear hw1 HBwr HGwr HOwr
        clear d0' d1' d2' d3' d4' d5' d6' d7' d8' d9'
        go_wp2_with fail
        go_quiet (fail)
        obtain ⟨w2, hw2⟩ : ∃ w9, w9 = w1.drewN nq := ⟨_, rfl⟩
        have HBw2 : Hid (Below w.heap.size w w2) := by show Below _ _ _; rw [hw2]; exact below_drewN HBw1.out _
        have HGw2 : Hid (GC a b n m w2 rb cb 0 0) := by show GC _ _ _ _ _ _ _ _ _; rw [hw2]; exact HGw1.out.drewN _
        have HOw2 : Hid (OW eC 12 83 w.heap.size w2 A acc.length c acc) := by show OW _ _ _ _ _ _ _ _ _; rw [hw2]; exact HOw1.out.drewN _
        have d0 : w2.cell? ⟨yb, yo + j * 10, none⟩ = some (.int .i64 y.k) := by rw [hw2]; exact d0
        have d1 : w2.cell? ⟨yb, yo + j * 10 + 1, none⟩ = some (.int .i64 y.tu) := by rw [hw2]; exact d1
        have d2 : w2.cell? ⟨yb, yo + j * 10 + 2, none⟩ = some (.int .i64 y.gr) := by rw [hw2]; exact d2
        have d3 : w2.cell? ⟨yb, yo + j * 10 + 3, none⟩ = some (.int .i64 y.lo) := by rw [hw2]; exact d3
        have d4 : w2.cell? ⟨yb, yo + j * 10 + 4, none⟩ = some (.int .i64 y.ch) := by rw [hw2]; exact d4
        have d5 : w2.cell? ⟨yb, yo + j * 10 + 5, none⟩ = some (.int .i64 y.ton) := by rw [hw2]; exact d5
        have d6 : w2.cell? ⟨yb, yo + j * 10 + 6, none⟩ = some (.int .i64 y.me) := by rw [hw2]; exact d6
        have d7 : w2.cell? ⟨yb, yo + j * 10 + 7, none⟩ = some (.int .i64 y.si) := by rw [hw2]; exact d7
        have d8 : w2.cell? ⟨yb, yo + j * 10 + 8, none⟩ = some (.int .i64 y.wa) := by rw [hw2]; exact d8
        have d9 : w2.cell? ⟨yb, yo + j * 10 + 9, none⟩ = some (.int .i64 y.ar) := by rw [hw2]; exact d9
        rw [← hw2]
        clear hw2 HBw1 HGw1 HOw1
        go_wp2_with fail
        go_quiet (fail)
        obtain ⟨w3, hw3⟩ : ∃ w9, w9 = w2.drewN nq := ⟨_, rfl⟩
        have HBw3 : Hid (Below w.heap.size w w3) := by show Below _ _ _; rw [hw3]; exact below_drewN HBw2.out _
        have HGw3 : Hid (GC a b n m w3 rb cb 0 0) := by show GC _ _ _ _ _ _ _ _ _; rw [hw3]; exact HGw2.out.drewN _
        have HOw3 : Hid (OW eC 12 83 w.heap.size w3 A acc.length c acc) := by show OW _ _ _ _ _ _ _ _ _; rw [hw3]; exact HOw2.out.drewN _
        have d0 : w3.cell? ⟨yb, yo + j * 10, none⟩ = some (.int .i64 y.k) := by rw [hw3]; exact d0
        have d1 : w3.cell? ⟨yb, yo + j * 10 + 1, none⟩ = some (.int .i64 y.tu) := by rw [hw3]; exact d1
        have d2 : w3.cell? ⟨yb, yo + j * 10 + 2, none⟩ = some (.int .i64 y.gr) := by rw [hw3]; exact d2
        have d3 : w3.cell? ⟨yb, yo + j * 10 + 3, none⟩ = some (.int .i64 y.lo) := by rw [hw3]; exact d3
        have d4 : w3.cell? ⟨yb, yo + j * 10 + 4, none⟩ = some (.int .i64 y.ch) := by rw [hw3]; exact d4
        have d5 : w3.cell? ⟨yb, yo + j * 10 + 5, none⟩ = some (.int .i64 y.ton) := by rw [hw3]; exact d5
        have d6 : w3.cell? ⟨yb, yo + j * 10 + 6, none⟩ = some (.int .i64 y.me) := by rw [hw3]; exact d6
        have d7 : w3.cell? ⟨yb, yo + j * 10 + 7, none⟩ = some (.int .i64 y.si) := by rw [hw3]; exact d7
        have d8 : w3.cell? ⟨yb, yo + j * 10 + 8, none⟩ = some (.int .i64 y.wa) := by rw [hw3]; exact d8
        have d9 : w3.cell? ⟨yb, yo + j * 10 + 9, none⟩ = some (.int .i64 y.ar) := by rw [hw3]; exact d9
        rw [← hw3]
        clear hw3 HBw2 HGw2 HOw2
        have hlt1 := HGw3.out.lt
        go_wp2_with (at_builtin; refine wpList_app rfl _ _ 40 rfl w.heap.size 83 _ 12 96 Tryz.underlying40 infoE rfl (by decide) eC A acc.length c _ rfl (HOw3.out.alloc _) ⟨(n : Nat), 1, y⟩ #[.int .i64 (n : Nat), .int .i64 1, .int .i64 y.k, .int .i64 y.tu, .int .i64 y.gr, .int .i64 y.lo, .int .i64 y.ch, .int .i64 y.ton, .int .i64 y.me, .int .i64 y.si, .int .i64 y.wa, .int .i64 y.ar] rfl rfl 83 w3.heap.size rfl (BK.new w3 _ _) (by simp [eC, Value.oneCell']) (by omega) (by omega) (by simp; omega) ?_; intro g' c9 w8 hap; have HAP := Lib.hid hap; clear hap)
        have hbN := (HBw3.out.alloc (by omega) (.cells #[.int .i64 (n : Nat), .int .i64 1, .int .i64 y.k, .int .i64 y.tu, .int .i64 y.gr, .int .i64 y.lo, .int .i64 y.ch, .int .i64 y.ton, .int .i64 y.me, .int .i64 y.si, .int .i64 y.wa, .int .i64 y.ar] 83)).trans HAP.out.bel
        have hGN := HGw3.out.app HOw3.out HAP.out
        go_roundw
        case rel => exact ⟨n, j + 1, acc ++ [⟨(n : Nat), 1, y⟩], some ⟨g', 0, none⟩, c9, by omega, by omega, rfl, by go_num, by simp, by rw [List.length_append, List.length_singleton]; have := HAL.out; omega, HM2.out, by rw [List.length_append]; exact HAP.out.own, hGN, hbN⟩
        case measure => simp [intOf]; omega
      · obtain rfl : m = j := by omega
        have hfin : mnd 0 a b = acc := by rw [hmn, List.drop_of_length_le (Nat.le_of_eq HLA.out.symm), List.drop_of_length_le (Nat.le_of_eq HLB.out.symm), mnd_nil, List.append_nil]
        have HF := Lib.hid hfin
        clear hfin hmn
        go_wp2_with fail
        go_ret
        exact ⟨A, c, by rw [HF.out]; rfl, by rw [HF.out]; exact hO, hbr⟩
end Go.Proofs.YtnmipejpjeakbaaGreatDoor
