/- The document's Edits: which edits are as defined. Printed by geneds.py. -/
import Derived.Test.YtnmipejpjeakbaaGreatDoorNEds
namespace Go.Proofs.YtnmipejpjeakbaaGreatDoor
open Go.RowKit Go.Shelf Go.Sort Go.Proofs

theorem BK.t12 {w : World} {g : Nat} {t : TypeId} {v0 v1 v2 v3 v4 v5 v6 v7 v8 v9 v10 v11 : Value} (h : BK w g t #[v0, v1, v2, v3, v4, v5, v6, v7, v8, v9, v10, v11]) : w.cell? ⟨g, 0, none⟩ = some v0 ∧ w.cell? ⟨g, 1, none⟩ = some v1 := by
  have c0 := h.cell 0
  have c1 := h.cell 1
  simp only [List.getElem?_toArray, List.getElem?_cons_zero, List.getElem?_cons_succ] at c0 c1
  exact ⟨c0, c1⟩
set_option maxRecDepth 100000 in
set_option maxHeartbeats 8000000 in
theorem redits_any (n : Nat) (hn6 : n ≤ 1000000) (A : Option Addr) (m c : Nat) (xs : List EdR) (w : World) (h : SL eC 12 w w.heap.size A m xs) (hm6 : m ≤ 1000000) :
    Calls Tryz.prog 37 #[.int .i64 (n : Nat), .slice A m c] w fun e w' => e = .returned (.bool (edB n xs)) ∧ Below w.heap.size w w' := by
  have hmo : Tryz.prog.follows .mixedOrders = true := by kernel_rfl
  have HL := Lib.hid h.1
  have HS := Lib.hid h
  clear h
  go_enter Tryz.func37, Tryz.ntmps37
  go_wp2_with fail
  go_loopw [5, 6, 19, 32, 46] (fun iv _ _ _ _ wr => ∃ (k : Nat) (P K : Int), k ≤ m ∧ iv = .int .i64 (k : Nat) ∧ edB n xs = edDoc n P K (xs.drop k) ∧ (k = 0 → P = 0 ∧ K = 1) ∧ (∀ j, k = j + 1 → ∃ e, xs[j]? = some e ∧ e.at_ = P ∧ e.kd = K) ∧ Below w.heap.size w wr) (fun iv _ _ _ _ _ => m - (intOf iv).toNat)
  case atStart => exact ⟨0, 0, 1, Nat.zero_le _, rfl, rfl, fun _ => ⟨rfl, rfl⟩, fun j hj => by omega, Below.refl _ _⟩
  case round =>
    obtain ⟨k, P, K, hk, rfl, hed, hz, hp, hbr⟩ := hrel
    by_cases hlt : k < m
    case neg =>
      obtain rfl : k = m := by omega
      have HR : Hid (edB n xs = true) := by
        show _ = _
        rw [hed, List.drop_of_length_le (by rw [← HL.out]; omega)]
        rfl
      clear hed hz hp
      go_wp2_with fail
      go_ret
      exact ⟨by rw [HR.out]; rfl, hbr⟩
    have hkl : k < xs.length := by rw [← HL.out]; exact hlt
    have HZ := Lib.hid hz
    have HP := Lib.hid hp
    obtain ⟨b, off, hA, hbB, c0, c1, c2, c3, c4, c5, c6, c7, c8, c9, c10, c11⟩ := ES.at12 (HS.out.below hbr) hkl
    rw [List.drop_eq_getElem_cons hkl] at hed
    generalize hx : xs[k]'hkl = x at hed c0 c1 c2 c3 c4 c5 c6 c7 c8 c9 c10 c11
    subst hA
    obtain ⟨ea, ek, ⟨k0, tu0, gr0, lo0, ch0, ton0, me0, si0, wa0, ar0⟩⟩ := x
    dsimp only at c0 c1 c2 c3 c4 c5 c6 c7 c8 c9 c10 c11
    have HX : Hid (xs[k]? = some ⟨ea, ek, ⟨k0, tu0, gr0, lo0, ch0, ton0, me0, si0, wa0, ar0⟩⟩) := by show _ = _; rw [List.getElem?_eq_getElem hkl, hx]
    have HED := Lib.hid hed
    have HE : Hid (BK (wr.alloc (.cells #[.int .i64 ea, .int .i64 ek, .int .i64 k0, .int .i64 tu0, .int .i64 gr0, .int .i64 lo0, .int .i64 ch0, .int .i64 ton0, .int .i64 me0, .int .i64 si0, .int .i64 wa0, .int .i64 ar0] 83)) wr.heap.size 83 #[.int .i64 ea, .int .i64 ek, .int .i64 k0, .int .i64 tu0, .int .i64 gr0, .int .i64 lo0, .int .i64 ch0, .int .i64 ton0, .int .i64 me0, .int .i64 si0, .int .i64 wa0, .int .i64 ar0]) := BK.new wr _ _
    have HB1 : Hid (Below w.heap.size w (wr.alloc (.cells #[.int .i64 ea, .int .i64 ek, .int .i64 k0, .int .i64 tu0, .int .i64 gr0, .int .i64 lo0, .int .i64 ch0, .int .i64 ton0, .int .i64 me0, .int .i64 si0, .int .i64 wa0, .int .i64 ar0] 83))) := hbr.alloc hbr.size _
    have hgk : (k : Int) < (m : Int) := by omega
    have hwn : IntKind.i64.wrap ((n : Int) - 1) = (n : Int) - 1 := IntWalk.i64_in _ (by omega)
    clear hed hx hz hp hkl hbr
    by_cases k1 : ek = 1
    · subst k1
      by_cases h1 : 0 ≤ ea ∧ ea ≤ n
      case neg =>
        have HI : Hid ((decide (0 ≤ ea) && decide (ea ≤ (n : Int))) = false) := by show _ = _; rw [← Bool.not_eq_true]; simp only [Bool.and_eq_true, decide_eq_true_eq]; exact h1
        go_wp2_with fail
        refine (rin_any _ _ _ _).mono ?_
        rintro e w' ⟨rfl, rfl⟩
        rw [HI.out]
        have HR : Hid (edB n xs = false) := by show _ = _; rw [HED.out, edDoc, edOne]; simp [h1]
        clear HED
        go_wp2_with fail
        go_ret
        exact ⟨by rw [HR.out]; rfl, HB1.out⟩
      have HI : Hid ((decide (0 ≤ ea) && decide (ea ≤ (n : Int))) = true) := by show _ = _; simp only [Bool.and_eq_true, decide_eq_true_eq]; exact h1
      go_wp2_with fail
      refine (rin_any _ _ _ _).mono ?_
      rintro e w' ⟨rfl, rfl⟩
      rw [HI.out]
      cases hv : nVal ⟨k0, tu0, gr0, lo0, ch0, ton0, me0, si0, wa0, ar0⟩ with
      | false =>
        have HVV := Lib.hid hv
        go_wp2_with fail
        refine (rvalid_any k0 tu0 gr0 lo0 ch0 ton0 me0 si0 wa0 ar0 _).mono ?_
        rintro e w2 ⟨rfl, hb2⟩
        rw [HVV.out]
        have HR : Hid (edB n xs = false) := by show _ = _; rw [HED.out, edDoc, edOne]; simp [h1, hv]
        clear HED
        go_wp2_with fail
        go_ret
        exact ⟨by rw [HR.out]; rfl, HB1.out.trans (hb2.mono HB1.out.size)⟩
      | true =>
      have HVV := Lib.hid hv
      go_wp2_with fail
      refine (rvalid_any k0 tu0 gr0 lo0 ch0 ton0 me0 si0 wa0 ar0 _).mono ?_
      rintro e w2 ⟨rfl, hb2⟩
      rw [HVV.out]
      have HB2 := Lib.hid (HB1.out.trans (hb2.mono HB1.out.size))
      have hE2 := HE.out.below hb2 HE.out.lt
      clear hb2
      go_wp2_with fail
      obtain ⟨b0, -⟩ := hE2.t12
      cases k with
      | zero =>
        have HR : Hid (edB n xs = edDoc n ea 1 (xs.drop 1)) := by
          show _ = _
          obtain ⟨rfl, rfl⟩ := HZ.out rfl
          rw [HED.out, edDoc, edOne]
          have a0 : ¬ ea < 0 := by omega
          simp [h1, hv, a0]
        clear HED
        go_wp2_with fail
        go_quiet (fail)
        go_wp2_with fail
        go_roundw
        case rel => exact ⟨1, ea, 1, by omega, by go_num, HR.out, fun q => by omega, fun j hj => by obtain rfl : j = 0 := (by omega); exact ⟨_, HX.out, rfl, rfl⟩, below_drewN HB2.out _⟩
        case measure => simp [intOf]; omega
      | succ j =>
        obtain ⟨ej, hej0, hP, hK⟩ := HP.out j rfl
        obtain ⟨hj, hej⟩ := List.getElem?_eq_some_iff.1 hej0
        obtain ⟨bj, offj, hAj, hbj, p0, p1, -⟩ := ES.at12 (HS.out.below HB2.out) hj
        rw [hej, hP] at p0
        rw [hej, hK] at p1
        have hAj2 : b = bj ∧ off = offj := by
          injection hAj with hAj
          injection hAj with e1 e2
          exact ⟨e1, e2⟩
        obtain ⟨rfl, rfl⟩ := hAj2
        have hw3 : IntKind.i64.wrap (((j + 1 : Nat) : Int) - 1) = (j : Int) := by rw [show ((j + 1 : Nat) : Int) - 1 = (j : Int) by omega]; exact IntWalk.i64_in _ (by omega)
        have g0 : (0 : Int) ≤ (j : Int) := by omega
        have gj : (j : Int) < (m : Int) := by omega
        have gz : decide ((0 : Int) < ((j + 1 : Nat) : Int)) = true := by rw [decide_eq_true_eq]; omega
        clear hP hK hAj hej hej0 hj
        by_cases h8 : ea < P
        · have g8 : decide (ea < P) = true := decide_eq_true h8
          have HR : Hid (edB n xs = false) := by show _ = _; rw [HED.out, edDoc]; simp [h8]
          clear HED h8
          go_wp2_with fail
          go_quiet (fail)
          go_wp2_with fail
          go_ret
          exact ⟨by rw [HR.out]; rfl, below_drewN HB2.out _⟩
        have g8 : decide (ea < P) = false := decide_eq_false h8
        by_cases h9 : ea = P
        · have g9 : (ea == P) = true := by simpa using h9
          by_cases h10 : K = 1
          · have g10 : (K != 1) = false := by simpa using h10
            have HR : Hid (edB n xs = edDoc n ea 1 (xs.drop (j + 1 + 1))) := by show _ = _; rw [HED.out, edDoc, edOne]; simp [h1, hv, ← h9, h10]
            clear HED h8 h9 h10
            go_wp2_with fail
            go_quiet (fail)
            go_wp2_with fail
            go_roundw
            case rel => exact ⟨j + 1 + 1, ea, 1, by omega, by go_num, HR.out, fun q => by omega, fun j' hj' => by obtain rfl : j' = j + 1 := (by omega); exact ⟨_, HX.out, rfl, rfl⟩, below_drewN HB2.out _⟩
            case measure => simp [intOf]; omega
          · have g10 : (K != 1) = true := by simpa using h10
            have HR : Hid (edB n xs = false) := by show _ = _; rw [HED.out, edDoc]; simp [h9, h10]
            clear HED h8 h9 h10
            go_wp2_with fail
            go_quiet (fail)
            go_wp2_with fail
            go_ret
            exact ⟨by rw [HR.out]; rfl, below_drewN HB2.out _⟩
        · have g9 : (ea == P) = false := by simpa using h9
          have HR : Hid (edB n xs = edDoc n ea 1 (xs.drop (j + 1 + 1))) := by show _ = _; rw [HED.out, edDoc, edOne]; simp [h1, hv, h8, h9]
          clear HED h8 h9
          go_wp2_with fail
          go_quiet (fail)
          go_wp2_with fail
          go_roundw
          case rel => exact ⟨j + 1 + 1, ea, 1, by omega, by go_num, HR.out, fun q => by omega, fun j' hj' => by obtain rfl : j' = j + 1 := (by omega); exact ⟨_, HX.out, rfl, rfl⟩, below_drewN HB2.out _⟩
          case measure => simp [intOf]; omega
    have g1 : (ek == 1) = false := by simpa using k1
    by_cases k2 : ek = 2
    · subst k2
      by_cases h1 : 0 ≤ ea ∧ ea ≤ (n : Int) - 1
      case neg =>
        have HI : Hid ((decide (0 ≤ ea) && decide (ea ≤ (n : Int) - 1)) = false) := by show _ = _; rw [← Bool.not_eq_true]; simp only [Bool.and_eq_true, decide_eq_true_eq]; exact h1
        go_wp2_with fail
        refine (rin_any _ _ _ _).mono ?_
        rintro e w' ⟨rfl, rfl⟩
        rw [HI.out]
        have HR : Hid (edB n xs = false) := by show _ = _; rw [HED.out, edDoc, edOne]; simp [h1]
        clear HED
        go_wp2_with fail
        go_ret
        exact ⟨by rw [HR.out]; rfl, HB1.out⟩
      have HI : Hid ((decide (0 ≤ ea) && decide (ea ≤ (n : Int) - 1)) = true) := by show _ = _; simp only [Bool.and_eq_true, decide_eq_true_eq]; exact h1
      go_wp2_with fail
      refine (rin_any _ _ _ _).mono ?_
      rintro e w' ⟨rfl, rfl⟩
      rw [HI.out]
      have hq := neN2 ⟨k0, tu0, gr0, lo0, ch0, ton0, me0, si0, wa0, ar0⟩ ⟨0, 0, 0, 0, 0, 0, 0, 0, 0, 0⟩
      by_cases hzz : (⟨k0, tu0, gr0, lo0, ch0, ton0, me0, si0, wa0, ar0⟩ : NoteR) = ⟨0, 0, 0, 0, 0, 0, 0, 0, 0, 0⟩
      case neg =>
        rw [decide_eq_false hzz] at hq
        have HR : Hid (edB n xs = false) := by show _ = _; rw [HED.out, edDoc, edOne]; simp [h1, hzz]
        clear HED
        go_wp2_with fail
        go_ret
        exact ⟨by rw [HR.out]; rfl, HB1.out⟩
      rw [decide_eq_true hzz] at hq
      go_wp2_with fail
      obtain ⟨w2, hw2⟩ : ∃ w2, w2 = (wr.alloc (.cells #[.int .i64 ea, .int .i64 2, .int .i64 k0, .int .i64 tu0, .int .i64 gr0, .int .i64 lo0, .int .i64 ch0, .int .i64 ton0, .int .i64 me0, .int .i64 si0, .int .i64 wa0, .int .i64 ar0] 83)) := ⟨_, rfl⟩
      have HB2 : Hid (Below w.heap.size w w2) := by show Below _ _ _; rw [hw2]; exact HB1.out
      have hE2 : BK w2 wr.heap.size 83 #[.int .i64 ea, .int .i64 2, .int .i64 k0, .int .i64 tu0, .int .i64 gr0, .int .i64 lo0, .int .i64 ch0, .int .i64 ton0, .int .i64 me0, .int .i64 si0, .int .i64 wa0, .int .i64 ar0] := by rw [hw2]; exact HE.out
      rw [← hw2]
      clear hw2
      obtain ⟨b0, -⟩ := hE2.t12
      cases k with
      | zero =>
        have HR : Hid (edB n xs = edDoc n ea 2 (xs.drop 1)) := by
          show _ = _
          obtain ⟨rfl, rfl⟩ := HZ.out rfl
          rw [HED.out, edDoc, edOne]
          have a0 : ¬ ea < 0 := by omega
          simp [h1, hzz, a0]
        clear HED
        go_wp2_with fail
        go_quiet (fail)
        go_wp2_with fail
        go_roundw
        case rel => exact ⟨1, ea, 2, by omega, by go_num, HR.out, fun q => by omega, fun j hj => by obtain rfl : j = 0 := (by omega); exact ⟨_, HX.out, rfl, rfl⟩, below_drewN HB2.out _⟩
        case measure => simp [intOf]; omega
      | succ j =>
        obtain ⟨ej, hej0, hP, hK⟩ := HP.out j rfl
        obtain ⟨hj, hej⟩ := List.getElem?_eq_some_iff.1 hej0
        obtain ⟨bj, offj, hAj, hbj, p0, p1, -⟩ := ES.at12 (HS.out.below HB2.out) hj
        rw [hej, hP] at p0
        rw [hej, hK] at p1
        have hAj2 : b = bj ∧ off = offj := by
          injection hAj with hAj
          injection hAj with e1 e2
          exact ⟨e1, e2⟩
        obtain ⟨rfl, rfl⟩ := hAj2
        have hw3 : IntKind.i64.wrap (((j + 1 : Nat) : Int) - 1) = (j : Int) := by rw [show ((j + 1 : Nat) : Int) - 1 = (j : Int) by omega]; exact IntWalk.i64_in _ (by omega)
        have g0 : (0 : Int) ≤ (j : Int) := by omega
        have gj : (j : Int) < (m : Int) := by omega
        have gz : decide ((0 : Int) < ((j + 1 : Nat) : Int)) = true := by rw [decide_eq_true_eq]; omega
        clear hP hK hAj hej hej0 hj
        by_cases h8 : ea < P
        · have g8 : decide (ea < P) = true := decide_eq_true h8
          have HR : Hid (edB n xs = false) := by show _ = _; rw [HED.out, edDoc]; simp [h8]
          clear HED h8
          go_wp2_with fail
          go_quiet (fail)
          go_wp2_with fail
          go_ret
          exact ⟨by rw [HR.out]; rfl, below_drewN HB2.out _⟩
        have g8 : decide (ea < P) = false := decide_eq_false h8
        by_cases h9 : ea = P
        · have g9 : (ea == P) = true := by simpa using h9
          by_cases h10 : K = 1
          · have g10 : (K != 1) = false := by simpa using h10
            have HR : Hid (edB n xs = edDoc n ea 2 (xs.drop (j + 1 + 1))) := by show _ = _; rw [HED.out, edDoc, edOne]; simp [h1, hzz, ← h9, h10]
            clear HED h8 h9 h10
            go_wp2_with fail
            go_quiet (fail)
            go_wp2_with fail
            go_roundw
            case rel => exact ⟨j + 1 + 1, ea, 2, by omega, by go_num, HR.out, fun q => by omega, fun j' hj' => by obtain rfl : j' = j + 1 := (by omega); exact ⟨_, HX.out, rfl, rfl⟩, below_drewN HB2.out _⟩
            case measure => simp [intOf]; omega
          · have g10 : (K != 1) = true := by simpa using h10
            have HR : Hid (edB n xs = false) := by show _ = _; rw [HED.out, edDoc]; simp [h9, h10]
            clear HED h8 h9 h10
            go_wp2_with fail
            go_quiet (fail)
            go_wp2_with fail
            go_ret
            exact ⟨by rw [HR.out]; rfl, below_drewN HB2.out _⟩
        · have g9 : (ea == P) = false := by simpa using h9
          have HR : Hid (edB n xs = edDoc n ea 2 (xs.drop (j + 1 + 1))) := by show _ = _; rw [HED.out, edDoc, edOne]; simp [h1, hzz, h8, h9]
          clear HED h8 h9
          go_wp2_with fail
          go_quiet (fail)
          go_wp2_with fail
          go_roundw
          case rel => exact ⟨j + 1 + 1, ea, 2, by omega, by go_num, HR.out, fun q => by omega, fun j' hj' => by obtain rfl : j' = j + 1 := (by omega); exact ⟨_, HX.out, rfl, rfl⟩, below_drewN HB2.out _⟩
          case measure => simp [intOf]; omega
    have g2 : (ek == 2) = false := by simpa using k2
    by_cases k3 : ek = 3
    · subst k3
      by_cases h1 : 0 ≤ ea ∧ ea ≤ (n : Int) - 1
      case neg =>
        have HI : Hid ((decide (0 ≤ ea) && decide (ea ≤ (n : Int) - 1)) = false) := by show _ = _; rw [← Bool.not_eq_true]; simp only [Bool.and_eq_true, decide_eq_true_eq]; exact h1
        go_wp2_with fail
        refine (rin_any _ _ _ _).mono ?_
        rintro e w' ⟨rfl, rfl⟩
        rw [HI.out]
        have HR : Hid (edB n xs = false) := by show _ = _; rw [HED.out, edDoc, edOne]; simp [h1]
        clear HED
        go_wp2_with fail
        go_ret
        exact ⟨by rw [HR.out]; rfl, HB1.out⟩
      have HI : Hid ((decide (0 ≤ ea) && decide (ea ≤ (n : Int) - 1)) = true) := by show _ = _; simp only [Bool.and_eq_true, decide_eq_true_eq]; exact h1
      go_wp2_with fail
      refine (rin_any _ _ _ _).mono ?_
      rintro e w' ⟨rfl, rfl⟩
      rw [HI.out]
      cases hv : nVal ⟨k0, tu0, gr0, lo0, ch0, ton0, me0, si0, wa0, ar0⟩ with
      | false =>
        have HVV := Lib.hid hv
        go_wp2_with fail
        refine (rvalid_any k0 tu0 gr0 lo0 ch0 ton0 me0 si0 wa0 ar0 _).mono ?_
        rintro e w2 ⟨rfl, hb2⟩
        rw [HVV.out]
        have HR : Hid (edB n xs = false) := by show _ = _; rw [HED.out, edDoc, edOne]; simp [h1, hv]
        clear HED
        go_wp2_with fail
        go_ret
        exact ⟨by rw [HR.out]; rfl, HB1.out.trans (hb2.mono HB1.out.size)⟩
      | true =>
      have HVV := Lib.hid hv
      go_wp2_with fail
      refine (rvalid_any k0 tu0 gr0 lo0 ch0 ton0 me0 si0 wa0 ar0 _).mono ?_
      rintro e w2 ⟨rfl, hb2⟩
      rw [HVV.out]
      have HB2 := Lib.hid (HB1.out.trans (hb2.mono HB1.out.size))
      have hE2 := HE.out.below hb2 HE.out.lt
      clear hb2
      go_wp2_with fail
      obtain ⟨b0, -⟩ := hE2.t12
      cases k with
      | zero =>
        have HR : Hid (edB n xs = edDoc n ea 3 (xs.drop 1)) := by
          show _ = _
          obtain ⟨rfl, rfl⟩ := HZ.out rfl
          rw [HED.out, edDoc, edOne]
          have a0 : ¬ ea < 0 := by omega
          simp [h1, hv, a0]
        clear HED
        go_wp2_with fail
        go_quiet (fail)
        go_wp2_with fail
        go_roundw
        case rel => exact ⟨1, ea, 3, by omega, by go_num, HR.out, fun q => by omega, fun j hj => by obtain rfl : j = 0 := (by omega); exact ⟨_, HX.out, rfl, rfl⟩, below_drewN HB2.out _⟩
        case measure => simp [intOf]; omega
      | succ j =>
        obtain ⟨ej, hej0, hP, hK⟩ := HP.out j rfl
        obtain ⟨hj, hej⟩ := List.getElem?_eq_some_iff.1 hej0
        obtain ⟨bj, offj, hAj, hbj, p0, p1, -⟩ := ES.at12 (HS.out.below HB2.out) hj
        rw [hej, hP] at p0
        rw [hej, hK] at p1
        have hAj2 : b = bj ∧ off = offj := by
          injection hAj with hAj
          injection hAj with e1 e2
          exact ⟨e1, e2⟩
        obtain ⟨rfl, rfl⟩ := hAj2
        have hw3 : IntKind.i64.wrap (((j + 1 : Nat) : Int) - 1) = (j : Int) := by rw [show ((j + 1 : Nat) : Int) - 1 = (j : Int) by omega]; exact IntWalk.i64_in _ (by omega)
        have g0 : (0 : Int) ≤ (j : Int) := by omega
        have gj : (j : Int) < (m : Int) := by omega
        have gz : decide ((0 : Int) < ((j + 1 : Nat) : Int)) = true := by rw [decide_eq_true_eq]; omega
        clear hP hK hAj hej hej0 hj
        by_cases h8 : ea < P
        · have g8 : decide (ea < P) = true := decide_eq_true h8
          have HR : Hid (edB n xs = false) := by show _ = _; rw [HED.out, edDoc]; simp [h8]
          clear HED h8
          go_wp2_with fail
          go_quiet (fail)
          go_wp2_with fail
          go_ret
          exact ⟨by rw [HR.out]; rfl, below_drewN HB2.out _⟩
        have g8 : decide (ea < P) = false := decide_eq_false h8
        by_cases h9 : ea = P
        · have g9 : (ea == P) = true := by simpa using h9
          by_cases h10 : K = 1
          · have g10 : (K != 1) = false := by simpa using h10
            have HR : Hid (edB n xs = edDoc n ea 3 (xs.drop (j + 1 + 1))) := by show _ = _; rw [HED.out, edDoc, edOne]; simp [h1, hv, ← h9, h10]
            clear HED h8 h9 h10
            go_wp2_with fail
            go_quiet (fail)
            go_wp2_with fail
            go_roundw
            case rel => exact ⟨j + 1 + 1, ea, 3, by omega, by go_num, HR.out, fun q => by omega, fun j' hj' => by obtain rfl : j' = j + 1 := (by omega); exact ⟨_, HX.out, rfl, rfl⟩, below_drewN HB2.out _⟩
            case measure => simp [intOf]; omega
          · have g10 : (K != 1) = true := by simpa using h10
            have HR : Hid (edB n xs = false) := by show _ = _; rw [HED.out, edDoc]; simp [h9, h10]
            clear HED h8 h9 h10
            go_wp2_with fail
            go_quiet (fail)
            go_wp2_with fail
            go_ret
            exact ⟨by rw [HR.out]; rfl, below_drewN HB2.out _⟩
        · have g9 : (ea == P) = false := by simpa using h9
          have HR : Hid (edB n xs = edDoc n ea 3 (xs.drop (j + 1 + 1))) := by show _ = _; rw [HED.out, edDoc, edOne]; simp [h1, hv, h8, h9]
          clear HED h8 h9
          go_wp2_with fail
          go_quiet (fail)
          go_wp2_with fail
          go_roundw
          case rel => exact ⟨j + 1 + 1, ea, 3, by omega, by go_num, HR.out, fun q => by omega, fun j' hj' => by obtain rfl : j' = j + 1 := (by omega); exact ⟨_, HX.out, rfl, rfl⟩, below_drewN HB2.out _⟩
          case measure => simp [intOf]; omega
    have g3 : (ek == 3) = false := by simpa using k3
    have HR : Hid (edB n xs = false) := by show _ = _; rw [HED.out, edDoc, edOne]; simp [k1, k2, k3]
    clear HED
    go_wp2_with fail
    go_ret
    exact ⟨by rw [HR.out]; rfl, HB1.out⟩
end Go.Proofs.YtnmipejpjeakbaaGreatDoor
