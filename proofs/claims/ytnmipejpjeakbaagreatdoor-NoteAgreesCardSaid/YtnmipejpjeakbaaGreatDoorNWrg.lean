/- note.wrong, Unclear, Unsafe; the law's has. Printed by genwrg.py. -/
import Derived.Test.YtnmipejpjeakbaaGreatDoorPAll
namespace Go.Proofs.YtnmipejpjeakbaaGreatDoor
open Go.RowKit Go.Shelf Go.Sort Go.Proofs

/-- A note that is not right for two books. -/
def wrB (rg : MeanR → MeanR → Bool) (a b : BkR) (x : NoteR) : Bool := decide (x.k = 1) && !(match meanN a x, meanN b x with | some p, some q => rg p q | _, _ => false)
/-- The places of such notes. -/
def wrL (rg : MeanR → MeanR → Bool) (a b : BkR) : Nat → List NoteR → List Int
  | _, [] => []
  | i, x :: xs => if wrB rg a b x then (i : Nat) :: wrL rg a b (i + 1) xs else wrL rg a b (i + 1) xs
theorem wrL_mem (rg : MeanR → MeanR → Bool) (a b : BkR) : ∀ (xs : List NoteR) (i : Nat) (v : Int), v ∈ wrL rg a b i xs ↔ ∃ j : Nat, ∃ h : j < xs.length, v = ((i + j : Nat) : Int) ∧ wrB rg a b xs[j] = true
  | [], i, v => by simp [wrL]
  | x :: xs, i, v => by
    have ih := wrL_mem rg a b xs (i + 1) v
    rw [wrL]
    constructor
    · intro h
      by_cases hw : wrB rg a b x = true
      · rw [if_pos hw] at h
        rcases List.mem_cons.1 h with h | h
        · exact ⟨0, by simp, by simpa using h, by simpa using hw⟩
        · obtain ⟨j, hj, h1, h2⟩ := ih.1 h
          exact ⟨j + 1, by simpa using hj, by rw [h1]; congr 1; omega, by simpa using h2⟩
      · rw [if_neg hw] at h
        obtain ⟨j, hj, h1, h2⟩ := ih.1 h
        exact ⟨j + 1, by simpa using hj, by rw [h1]; congr 1; omega, by simpa using h2⟩
    · rintro ⟨j, hj, h1, h2⟩
      cases j with
      | zero =>
        simp only [List.getElem_cons_zero] at h2
        rw [if_pos h2]
        exact List.mem_cons.2 (.inl (by simpa using h1))
      | succ j =>
        simp only [List.getElem_cons_succ] at h2
        have h3 := ih.2 ⟨j, by simpa using hj, by rw [h1]; congr 1; omega, h2⟩
        by_cases hw : wrB rg a b x = true
        · rw [if_pos hw]; exact List.mem_cons_of_mem _ h3
        · rw [if_neg hw]; exact h3
theorem wrL_len (rg : MeanR → MeanR → Bool) (a b : BkR) : ∀ (xs : List NoteR) (i : Nat), (wrL rg a b i xs).length ≤ xs.length
  | [], i => by simp [wrL]
  | x :: xs, i => by
    have ih := wrL_len rg a b xs (i + 1)
    rw [wrL]
    split
    · simp; exact ih
    · simp; omega
theorem wrL_cons (rg : MeanR → MeanR → Bool) (a b : BkR) (i : Nat) (x : NoteR) (xs : List NoteR) : wrL rg a b i (x :: xs) = if wrB rg a b x then ((i : Nat) : Int) :: wrL rg a b (i + 1) xs else wrL rg a b (i + 1) xs := by rw [wrL]
theorem infoI6 : (Tryz.prog.info? 3).map (fun i => (i.zero, i.size, i.bytes)) = some (some (.int .i64 0), 1, 8) := by kernel_rfl
set_option maxRecDepth 100000 in
set_option maxHeartbeats 8000000 in
theorem nwrong_any (F : FuncId) (hFN : F = 77 ∨ F = 78) (rg : MeanR → MeanR → Bool) (hF : ∀ (p q : MeanR) (w : World), Calls Tryz.prog F #[mA p, mA q] w fun e w' => e = .returned (.bool (rg p q)) ∧ Below w.heap.size w w')
    (xs : List NoteR) (aa : Option Addr) (n ac : Nat) (a : BkR) (hva : BkOK a) (A1 : Option Addr) (c1 : Nat) (b : BkR) (hvb : BkOK b) (A2 : Option Addr) (c2 : Nat) (w : World)
    (hx : SL nC 10 w w.heap.size aa n xs) (ha : SL iC 1 w w.heap.size A1 a.gs.length a.gs) (hb : SL iC 1 w w.heap.size A2 b.gs.length b.gs) (hn : n ≤ 2000) (hall : xs.all nVal = true) :
    Calls Tryz.prog 76 #[.slice aa n ac, bkA A1 c1 a, bkA A2 c2 b, .func (.func F) #[] #[]] w fun e w' => ∃ A c, e = .returned (.tuple #[.slice A (wrL rg a b 0 xs).length c, .int .i64 0]) ∧ OW iC 1 3 w.heap.size w' A (wrL rg a b 0 xs).length c (wrL rg a b 0 xs) ∧ Below w.heap.size w w' := by
  obtain ⟨w0, hw0⟩ : ∃ w0, w0 = (w.alloc (.cells #[.slice A1 a.gs.length c1, .int .i64 a.sh, .int .i64 a.lo, .int .i64 a.ra, .int .i64 a.an, .int .i64 a.io, .int .i64 a.st, .int .i64 a.ga, .int .i64 a.le] 50)).alloc (.cells #[.slice A2 b.gs.length c2, .int .i64 b.sh, .int .i64 b.lo, .int .i64 b.ra, .int .i64 b.an, .int .i64 b.io, .int .i64 b.st, .int .i64 b.ga, .int .i64 b.le] 50) := ⟨_, rfl⟩
  have HMA0 : Hid (BK w0 w.heap.size 50 #[.slice A1 a.gs.length c1, .int .i64 a.sh, .int .i64 a.lo, .int .i64 a.ra, .int .i64 a.an, .int .i64 a.io, .int .i64 a.st, .int .i64 a.ga, .int .i64 a.le]) := by show BK _ _ _ _; rw [hw0]; exact (BK.new w _ _).alloc _
  have HMB0 : Hid (BK w0 (w.heap.size + 1) 50 #[.slice A2 b.gs.length c2, .int .i64 b.sh, .int .i64 b.lo, .int .i64 b.ra, .int .i64 b.an, .int .i64 b.io, .int .i64 b.st, .int .i64 b.ga, .int .i64 b.le]) := by show BK _ _ _ _; rw [hw0]; exact bk2 w _ _ _ _
  have HB0 : Hid (Below w.heap.size w w0) := by show Below _ _ _; rw [hw0]; exact ((Below.refl _ w).alloc (Nat.le_refl _) _).alloc (by simp) _
  have HFN := Lib.hid hFN
  clear hFN
  have HLX := Lib.hid hx.1
  have HX := Lib.hid hx
  have HSA := Lib.hid ha
  have HSB := Lib.hid hb
  have HVA := Lib.hid hva
  have HVB := Lib.hid hvb
  have HNL : Hid (nLE xs = 0) := by show _ = _; unfold nLE; rw [if_neg (by rw [← HLX.out]; omega), hall]; rfl
  have hck1 := fun (w1 : World) (h1 : Below w.heap.size w w1) => nCheck_ok a HVA.out A1 c1 w1 ((HSA.out.below h1).more h1.size)
  have hck2 := fun (w1 : World) (h1 : Below w.heap.size w w1) => nCheck_ok b HVB.out A2 c2 w1 ((HSB.out.below h1).more h1.size)
  have hme1 := fun (x : NoteR) (w1 : World) (h1 : Below w.heap.size w w1) => nmeaning_any a HVA.out A1 c1 x w1 ((HSA.out.below h1).more h1.size)
  have hme2 := fun (x : NoteR) (w1 : World) (h1 : Below w.heap.size w w1) => nmeaning_any b HVB.out A2 c2 x w1 ((HSB.out.below h1).more h1.size)
  unfold bkA at hck1 hck2
  unfold bkA nA at hme1 hme2
  have HCK1 := Lib.hid hck1
  have HCK2 := Lib.hid hck2
  have HME1 := Lib.hid hme1
  have HME2 := Lib.hid hme2
  have HFF := Lib.hid hF
  obtain ⟨m0, m1, m2, m3, m4, m5, m6, m7, m8⟩ := bk9 HMA0.out
  obtain ⟨l0, l1, l2, l3, l4, l5, l6, l7, l8⟩ := bk9 HMB0.out
  have gn : decide ((2000 : Int) < (n : Int)) = false := by simp; omega
  clear hx ha hb hva hvb hall hck1 hck2 hme1 hme2 hF
  unfold bkA
  go_enter Tryz.func76, Tryz.ntmps76
  go_wp2_with fail
  rw [← hw0]
  clear hw0
  go_wp2_with fail
  refine (nlisted_any aa n ac xs _ ((HX.out.below HB0.out).more HB0.out.size)).mono ?_
  rintro e w1 ⟨rfl, hb⟩
  rw [HNL.out]
  have HB1 := Lib.hid (HB0.out.trans (hb.mono HB0.out.size))
  have HMA1 := Lib.hid (HMA0.out.below hb HMA0.out.lt)
  have HMB1 := Lib.hid (HMB0.out.below hb HMB0.out.lt)
  clear hb m0 m1 m2 m3 m4 m5 m6 m7 m8 l0 l1 l2 l3 l4 l5 l6 l7 l8 HMA0 HMB0
  obtain ⟨m0, m1, m2, m3, m4, m5, m6, m7, m8⟩ := bk9 HMA1.out
  obtain ⟨l0, l1, l2, l3, l4, l5, l6, l7, l8⟩ := bk9 HMB1.out
  go_wp2_with fail
  refine (HCK1.out _ HB1.out).mono ?_
  rintro e w2 ⟨rfl, hb⟩
  have HB2 := Lib.hid (HB1.out.trans (hb.mono HB1.out.size))
  have HMA2 := Lib.hid (HMA1.out.below hb HMA1.out.lt)
  have HMB2 := Lib.hid (HMB1.out.below hb HMB1.out.lt)
  clear hb m0 m1 m2 m3 m4 m5 m6 m7 m8 l0 l1 l2 l3 l4 l5 l6 l7 l8 HMA1 HMB1
  obtain ⟨m0, m1, m2, m3, m4, m5, m6, m7, m8⟩ := bk9 HMA2.out
  obtain ⟨l0, l1, l2, l3, l4, l5, l6, l7, l8⟩ := bk9 HMB2.out
  go_wp2_with fail
  refine (HCK2.out _ HB2.out).mono ?_
  rintro e w3 ⟨rfl, hb⟩
  have HB3 := Lib.hid (HB2.out.trans (hb.mono HB2.out.size))
  have HMA3 := Lib.hid (HMA2.out.below hb HMA2.out.lt)
  have HMB3 := Lib.hid (HMB2.out.below hb HMB2.out.lt)
  clear hb m0 m1 m2 m3 m4 m5 m6 m7 m8 l0 l1 l2 l3 l4 l5 l6 l7 l8 HMA2 HMB2
  obtain ⟨m0, m1, m2, m3, m4, m5, m6, m7, m8⟩ := bk9 HMA3.out
  obtain ⟨l0, l1, l2, l3, l4, l5, l6, l7, l8⟩ := bk9 HMB3.out
  go_wp2_with fail
  clear m0 m1 m2 m3 m4 m5 m6 m7 m8 l0 l1 l2 l3 l4 l5 l6 l7 l8 gn
  go_loopw [10, 11, 12, 13, 14, 15, 16, 35] (fun ov _ _ _ _ _ _ iv wr => ∃ (k : Nat) (acc : List Int) (Ao : Option Addr) (co : Nat), k ≤ n ∧ iv = .int .i64 (k : Nat) ∧ ov = .slice Ao acc.length co ∧ acc.length ≤ k ∧ wrL rg a b 0 xs = acc ++ wrL rg a b k (xs.drop k) ∧ OW iC 1 3 w3.heap.size wr Ao acc.length co acc ∧ Below w3.heap.size w3 wr) (fun _ _ _ _ _ _ _ iv _ => n - (intOf iv).toNat)
  case atStart => exact ⟨0, [], none, 0, Nat.zero_le _, rfl, rfl, Nat.zero_le _, rfl, OW.nil_, Below.refl _ _⟩
  case round =>
    obtain ⟨k, acc, Ao, co, hk, rfl, rfl, hac, hwr, hO, hbr⟩ := hrel
    have hcap := hO.cap
    have HO := Lib.hid hO
    have HBK := Lib.hid hbr
    have HBR := Lib.hid (HB3.out.trans (hbr.mono HB3.out.size))
    have HMAr := Lib.hid (HMA3.out.below hbr HMA3.out.lt)
    have HMBr := Lib.hid (HMB3.out.below hbr HMB3.out.lt)
    clear hO hbr
    by_cases hkn : k < n
    case neg =>
      obtain rfl : k = n := by omega
      have hfin : wrL rg a b 0 xs = acc := by rw [hwr, List.drop_of_length_le (by rw [← HLX.out]; omega)]; simp [wrL]
      have HF := Lib.hid hfin
      clear hfin hwr hcap
      go_wp2_with fail
      go_ret2
      exact ⟨Ao, co, by rw [HF.out]; rfl, by rw [HF.out]; exact HO.out.drop0 HB3.out.size, HBR.out⟩
    have hkl : k < xs.length := by rw [← HLX.out]; exact hkn
    obtain ⟨eb, eo, hA, heB, c0, c1', c2', c3, c4, c5, c6, c7, c8, c9⟩ := NS.at_ (HX.out.below HBR.out) hkl
    rw [List.drop_eq_getElem_cons hkl, wrL_cons] at hwr
    generalize xs[k]'hkl = x at *
    subst hA
    have gk : (k : Int) < (n : Int) := by omega
    have HNB : Hid (BK (wr.alloc (.cells #[.int .i64 x.k, .int .i64 x.tu, .int .i64 x.gr, .int .i64 x.lo, .int .i64 x.ch, .int .i64 x.ton, .int .i64 x.me, .int .i64 x.si, .int .i64 x.wa, .int .i64 x.ar] 36)) wr.heap.size 36 #[.int .i64 x.k, .int .i64 x.tu, .int .i64 x.gr, .int .i64 x.lo, .int .i64 x.ch, .int .i64 x.ton, .int .i64 x.me, .int .i64 x.si, .int .i64 x.wa, .int .i64 x.ar]) := BK.new wr _ _
    have HMAn := Lib.hid (HMAr.out.alloc (.cells #[.int .i64 x.k, .int .i64 x.tu, .int .i64 x.gr, .int .i64 x.lo, .int .i64 x.ch, .int .i64 x.ton, .int .i64 x.me, .int .i64 x.si, .int .i64 x.wa, .int .i64 x.ar] 36))
    have HMBn := Lib.hid (HMBr.out.alloc (.cells #[.int .i64 x.k, .int .i64 x.tu, .int .i64 x.gr, .int .i64 x.lo, .int .i64 x.ch, .int .i64 x.ton, .int .i64 x.me, .int .i64 x.si, .int .i64 x.wa, .int .i64 x.ar] 36))
    have HBN : Hid (Below w.heap.size w (wr.alloc (.cells #[.int .i64 x.k, .int .i64 x.tu, .int .i64 x.gr, .int .i64 x.lo, .int .i64 x.ch, .int .i64 x.ton, .int .i64 x.me, .int .i64 x.si, .int .i64 x.wa, .int .i64 x.ar] 36))) := HBR.out.alloc HBR.out.size _
    have HBKN : Hid (Below w3.heap.size w3 (wr.alloc (.cells #[.int .i64 x.k, .int .i64 x.tu, .int .i64 x.gr, .int .i64 x.lo, .int .i64 x.ch, .int .i64 x.ton, .int .i64 x.me, .int .i64 x.si, .int .i64 x.wa, .int .i64 x.ar] 36))) := HBK.out.alloc HBK.out.size _
    have HON := Lib.hid (HO.out.alloc (.cells #[.int .i64 x.k, .int .i64 x.tu, .int .i64 x.gr, .int .i64 x.lo, .int .i64 x.ch, .int .i64 x.ton, .int .i64 x.me, .int .i64 x.si, .int .i64 x.wa, .int .i64 x.ar] 36))
    obtain ⟨n0, n1, n2, n3, n4, n5, n6, n7, n8, n9⟩ := HNB.out.n10
    obtain ⟨m0, m1, m2, m3, m4, m5, m6, m7, m8⟩ := bk9 HMAn.out
    clear hkl HMAr HMBr HBR HBK HO
    by_cases k1 : x.k = 1
    case neg =>
      have gk1 : (x.k != 1) = true := by simpa using k1
      have hw : wrB rg a b x = false := by unfold wrB; rw [decide_eq_false k1]; rfl
      rw [hw] at hwr
      have HWR := Lib.hid hwr
      clear hw k1 hwr
      go_wp2_with fail
      go_roundw
      case rel => exact ⟨k + 1, acc, Ao, co, by omega, by go_num, rfl, by omega, HWR.out, HON.out, HBKN.out⟩
      case measure => simp [intOf]; omega
    have gk1 : (x.k != 1) = false := by simpa using k1
    have hm1 := HME1.out x _ HBN.out
    have HM1 := Lib.hid hm1
    have HK1 := Lib.hid k1
    clear hm1 k1
    have HWR := Lib.hid hwr
    clear hwr
    go_wp2_with fail
    refine HM1.out.mono ?_
    rintro e w4 ⟨rfl, hb⟩
    have HB4 := Lib.hid (HBN.out.trans (hb.mono HBN.out.size))
    have HBK4 := Lib.hid (HBKN.out.trans (hb.mono HBKN.out.size))
    have HNB4 := Lib.hid (HNB.out.below hb HNB.out.lt)
    have HMB4 := Lib.hid (HMBn.out.below hb HMBn.out.lt)
    have HO4 := Lib.hid (HON.out.call hb)
    clear c0 c1' c2' c3 c4 c5 c6 c7 c8 c9 hb m0 m1 m2 m3 m4 m5 m6 m7 m8 n0 n1 n2 n3 n4 n5 n6 n7 n8 n9 HNB HMAn HMBn HBN HBKN HON
    cases hp : meanN a x with
    | none =>
      have HP := Lib.hid hp
      clear hp
      have HB5 : Hid (Below w.heap.size w (w4.alloc (.cells #[.int .i64 0, .int .i64 0, .int .i64 0, .int .i64 0, .int .i64 0, .int .i64 0] 53))) := HB4.out.alloc HB4.out.size _
      have HBK5 : Hid (Below w3.heap.size w3 (w4.alloc (.cells #[.int .i64 0, .int .i64 0, .int .i64 0, .int .i64 0, .int .i64 0, .int .i64 0] 53))) := HBK4.out.alloc HBK4.out.size _
      have HPB : Hid (BK (w4.alloc (.cells #[.int .i64 0, .int .i64 0, .int .i64 0, .int .i64 0, .int .i64 0, .int .i64 0] 53)) w4.heap.size 53 #[.int .i64 0, .int .i64 0, .int .i64 0, .int .i64 0, .int .i64 0, .int .i64 0]) := BK.new w4 _ _
      have HNB5 := Lib.hid (HNB4.out.alloc (.cells #[.int .i64 0, .int .i64 0, .int .i64 0, .int .i64 0, .int .i64 0, .int .i64 0] 53))
      have HMB5 := Lib.hid (HMB4.out.alloc (.cells #[.int .i64 0, .int .i64 0, .int .i64 0, .int .i64 0, .int .i64 0, .int .i64 0] 53))
      have HO5 := Lib.hid (HO4.out.alloc (.cells #[.int .i64 0, .int .i64 0, .int .i64 0, .int .i64 0, .int .i64 0, .int .i64 0] 53))
      obtain ⟨n0, n1, n2, n3, n4, n5, n6, n7, n8, n9⟩ := HNB5.out.n10
      obtain ⟨l0, l1, l2, l3, l4, l5, l6, l7, l8⟩ := bk9 HMB5.out
      have hm2 := HME2.out x _ HB5.out
      have HM2 := Lib.hid hm2
      clear hm2 HNB4 HMB4 HO4 HB4 HBK4
      simp only [meanOr, Option.getD_none, Option.isSome_none, zeroM, mA]
      go_wp2_with fail
      refine HM2.out.mono ?_
      rintro e w5 ⟨rfl, hb⟩
      have HB6 := Lib.hid (HB5.out.trans (hb.mono HB5.out.size))
      have HBK6 := Lib.hid (HBK5.out.trans (hb.mono HBK5.out.size))
      have HPB6 := Lib.hid (HPB.out.below hb HPB.out.lt)
      have HO6 := Lib.hid (HO5.out.call hb)
      clear hb n0 n1 n2 n3 n4 n5 n6 n7 n8 n9 l0 l1 l2 l3 l4 l5 l6 l7 l8 HNB5 HMB5 HPB HO5 HB5 HBK5
      cases hq : meanN b x with
      | none =>
        have HQ := Lib.hid hq
        clear hq
        have HB7 : Hid (Below w.heap.size w (w5.alloc (.cells #[.int .i64 0, .int .i64 0, .int .i64 0, .int .i64 0, .int .i64 0, .int .i64 0] 53))) := HB6.out.alloc HB6.out.size _
        have HBK7 : Hid (Below w3.heap.size w3 (w5.alloc (.cells #[.int .i64 0, .int .i64 0, .int .i64 0, .int .i64 0, .int .i64 0, .int .i64 0] 53))) := HBK6.out.alloc HBK6.out.size _
        have HO7 := Lib.hid (HO6.out.alloc (.cells #[.int .i64 0, .int .i64 0, .int .i64 0, .int .i64 0, .int .i64 0, .int .i64 0] 53))
        have hw : wrB rg a b x = true := by unfold wrB; rw [decide_eq_true HK1.out, HP.out, HQ.out]; rfl
        clear HB6 HBK6 HO6 HPB6
        simp only [meanOr, Option.getD_none, Option.isSome_none, zeroM, mA]
        have HWR2 : Hid (wrL rg a b 0 xs = (acc ++ [((k : Nat) : Int)]) ++ wrL rg a b (k + 1) (xs.drop (k + 1))) := by show _ = _; rw [HWR.out, if_pos hw, List.append_assoc]; rfl
        clear hw
        have hws := HBK7.out.size
        go_wp2_with (at_builtin; refine wpList_app rfl _ _ 46 rfl w3.heap.size 3 _ 1 8 Tryz.underlying46 infoI6 rfl (by decide) iC Ao acc.length co _ rfl (HO7.out.alloc _) ((k : Nat) : Int) #[.int .i64 (k : Nat)] rfl rfl 3 _ rfl (bk2 w5 _ _ _ _) (by simp [iC, Value.oneCell']) (by omega) (by omega) (by rw [World.size_alloc]; omega) ?_; intro g' c9 w8 hap; have HAP := Lib.hid hap; clear hap)
        have hbK := (HBK7.out.alloc hws (.cells #[.int .i64 (k : Nat)] 3)).trans HAP.out.bel
        go_roundw
        case rel => exact ⟨k + 1, acc ++ [((k : Nat) : Int)], some ⟨g', 0, none⟩, c9, by omega, by go_num, by simp, by rw [List.length_append, List.length_singleton]; omega, HWR2.out, by rw [List.length_append]; exact HAP.out.own, hbK⟩
        case measure => simp [intOf]; omega
      | some q =>
        have HQ := Lib.hid hq
        clear hq
        have HB7 : Hid (Below w.heap.size w (w5.alloc (.cells #[.int .i64 q.fr, .int .i64 q.to_, .int .i64 q.lt, .int .i64 q.la, .int .i64 q.an, .int .i64 q.mo] 53))) := HB6.out.alloc HB6.out.size _
        have HBK7 : Hid (Below w3.heap.size w3 (w5.alloc (.cells #[.int .i64 q.fr, .int .i64 q.to_, .int .i64 q.lt, .int .i64 q.la, .int .i64 q.an, .int .i64 q.mo] 53))) := HBK6.out.alloc HBK6.out.size _
        have HO7 := Lib.hid (HO6.out.alloc (.cells #[.int .i64 q.fr, .int .i64 q.to_, .int .i64 q.lt, .int .i64 q.la, .int .i64 q.an, .int .i64 q.mo] 53))
        have hw : wrB rg a b x = true := by unfold wrB; rw [decide_eq_true HK1.out, HP.out, HQ.out]; rfl
        clear HB6 HBK6 HO6 HPB6
        simp only [meanOr, Option.getD_some, Option.isSome_some, mA]
        have HWR2 : Hid (wrL rg a b 0 xs = (acc ++ [((k : Nat) : Int)]) ++ wrL rg a b (k + 1) (xs.drop (k + 1))) := by show _ = _; rw [HWR.out, if_pos hw, List.append_assoc]; rfl
        clear hw
        have hws := HBK7.out.size
        go_wp2_with (at_builtin; refine wpList_app rfl _ _ 46 rfl w3.heap.size 3 _ 1 8 Tryz.underlying46 infoI6 rfl (by decide) iC Ao acc.length co _ rfl (HO7.out.alloc _) ((k : Nat) : Int) #[.int .i64 (k : Nat)] rfl rfl 3 _ rfl (bk2 w5 _ _ _ _) (by simp [iC, Value.oneCell']) (by omega) (by omega) (by rw [World.size_alloc]; omega) ?_; intro g' c9 w8 hap; have HAP := Lib.hid hap; clear hap)
        have hbK := (HBK7.out.alloc hws (.cells #[.int .i64 (k : Nat)] 3)).trans HAP.out.bel
        go_roundw
        case rel => exact ⟨k + 1, acc ++ [((k : Nat) : Int)], some ⟨g', 0, none⟩, c9, by omega, by go_num, by simp, by rw [List.length_append, List.length_singleton]; omega, HWR2.out, by rw [List.length_append]; exact HAP.out.own, hbK⟩
        case measure => simp [intOf]; omega
    | some p =>
      have HP := Lib.hid hp
      clear hp
      have HB5 : Hid (Below w.heap.size w (w4.alloc (.cells #[.int .i64 p.fr, .int .i64 p.to_, .int .i64 p.lt, .int .i64 p.la, .int .i64 p.an, .int .i64 p.mo] 53))) := HB4.out.alloc HB4.out.size _
      have HBK5 : Hid (Below w3.heap.size w3 (w4.alloc (.cells #[.int .i64 p.fr, .int .i64 p.to_, .int .i64 p.lt, .int .i64 p.la, .int .i64 p.an, .int .i64 p.mo] 53))) := HBK4.out.alloc HBK4.out.size _
      have HPB : Hid (BK (w4.alloc (.cells #[.int .i64 p.fr, .int .i64 p.to_, .int .i64 p.lt, .int .i64 p.la, .int .i64 p.an, .int .i64 p.mo] 53)) w4.heap.size 53 #[.int .i64 p.fr, .int .i64 p.to_, .int .i64 p.lt, .int .i64 p.la, .int .i64 p.an, .int .i64 p.mo]) := BK.new w4 _ _
      have HNB5 := Lib.hid (HNB4.out.alloc (.cells #[.int .i64 p.fr, .int .i64 p.to_, .int .i64 p.lt, .int .i64 p.la, .int .i64 p.an, .int .i64 p.mo] 53))
      have HMB5 := Lib.hid (HMB4.out.alloc (.cells #[.int .i64 p.fr, .int .i64 p.to_, .int .i64 p.lt, .int .i64 p.la, .int .i64 p.an, .int .i64 p.mo] 53))
      have HO5 := Lib.hid (HO4.out.alloc (.cells #[.int .i64 p.fr, .int .i64 p.to_, .int .i64 p.lt, .int .i64 p.la, .int .i64 p.an, .int .i64 p.mo] 53))
      obtain ⟨n0, n1, n2, n3, n4, n5, n6, n7, n8, n9⟩ := HNB5.out.n10
      obtain ⟨l0, l1, l2, l3, l4, l5, l6, l7, l8⟩ := bk9 HMB5.out
      have hm2 := HME2.out x _ HB5.out
      have HM2 := Lib.hid hm2
      clear hm2 HNB4 HMB4 HO4 HB4 HBK4
      simp only [meanOr, Option.getD_some, Option.isSome_some, mA]
      go_wp2_with fail
      refine HM2.out.mono ?_
      rintro e w5 ⟨rfl, hb⟩
      have HB6 := Lib.hid (HB5.out.trans (hb.mono HB5.out.size))
      have HBK6 := Lib.hid (HBK5.out.trans (hb.mono HBK5.out.size))
      have HPB6 := Lib.hid (HPB.out.below hb HPB.out.lt)
      have HO6 := Lib.hid (HO5.out.call hb)
      clear hb n0 n1 n2 n3 n4 n5 n6 n7 n8 n9 l0 l1 l2 l3 l4 l5 l6 l7 l8 HNB5 HMB5 HPB HO5 HB5 HBK5
      cases hq : meanN b x with
      | none =>
        have HQ := Lib.hid hq
        clear hq
        have HB7 : Hid (Below w.heap.size w (w5.alloc (.cells #[.int .i64 0, .int .i64 0, .int .i64 0, .int .i64 0, .int .i64 0, .int .i64 0] 53))) := HB6.out.alloc HB6.out.size _
        have HBK7 : Hid (Below w3.heap.size w3 (w5.alloc (.cells #[.int .i64 0, .int .i64 0, .int .i64 0, .int .i64 0, .int .i64 0, .int .i64 0] 53))) := HBK6.out.alloc HBK6.out.size _
        have HO7 := Lib.hid (HO6.out.alloc (.cells #[.int .i64 0, .int .i64 0, .int .i64 0, .int .i64 0, .int .i64 0, .int .i64 0] 53))
        have hw : wrB rg a b x = true := by unfold wrB; rw [decide_eq_true HK1.out, HP.out, HQ.out]; rfl
        clear HB6 HBK6 HO6 HPB6
        simp only [meanOr, Option.getD_none, Option.isSome_none, zeroM, mA]
        have HWR2 : Hid (wrL rg a b 0 xs = (acc ++ [((k : Nat) : Int)]) ++ wrL rg a b (k + 1) (xs.drop (k + 1))) := by show _ = _; rw [HWR.out, if_pos hw, List.append_assoc]; rfl
        clear hw
        have hws := HBK7.out.size
        go_wp2_with (at_builtin; refine wpList_app rfl _ _ 46 rfl w3.heap.size 3 _ 1 8 Tryz.underlying46 infoI6 rfl (by decide) iC Ao acc.length co _ rfl (HO7.out.alloc _) ((k : Nat) : Int) #[.int .i64 (k : Nat)] rfl rfl 3 _ rfl (bk2 w5 _ _ _ _) (by simp [iC, Value.oneCell']) (by omega) (by omega) (by rw [World.size_alloc]; omega) ?_; intro g' c9 w8 hap; have HAP := Lib.hid hap; clear hap)
        have hbK := (HBK7.out.alloc hws (.cells #[.int .i64 (k : Nat)] 3)).trans HAP.out.bel
        go_roundw
        case rel => exact ⟨k + 1, acc ++ [((k : Nat) : Int)], some ⟨g', 0, none⟩, c9, by omega, by go_num, by simp, by rw [List.length_append, List.length_singleton]; omega, HWR2.out, by rw [List.length_append]; exact HAP.out.own, hbK⟩
        case measure => simp [intOf]; omega
      | some q =>
        have HQ := Lib.hid hq
        clear hq
        have HB7 : Hid (Below w.heap.size w (w5.alloc (.cells #[.int .i64 q.fr, .int .i64 q.to_, .int .i64 q.lt, .int .i64 q.la, .int .i64 q.an, .int .i64 q.mo] 53))) := HB6.out.alloc HB6.out.size _
        have HBK7 : Hid (Below w3.heap.size w3 (w5.alloc (.cells #[.int .i64 q.fr, .int .i64 q.to_, .int .i64 q.lt, .int .i64 q.la, .int .i64 q.an, .int .i64 q.mo] 53))) := HBK6.out.alloc HBK6.out.size _
        have HO7 := Lib.hid (HO6.out.alloc (.cells #[.int .i64 q.fr, .int .i64 q.to_, .int .i64 q.lt, .int .i64 q.la, .int .i64 q.an, .int .i64 q.mo] 53))
        have HPB7 := Lib.hid (HPB6.out.alloc (.cells #[.int .i64 q.fr, .int .i64 q.to_, .int .i64 q.lt, .int .i64 q.la, .int .i64 q.an, .int .i64 q.mo] 53))
        obtain ⟨z0, z1, z2, z3, z4, z5⟩ := HPB7.out.t6
        have hcF := HFF.out p q (w5.alloc (.cells #[.int .i64 q.fr, .int .i64 q.to_, .int .i64 q.lt, .int .i64 q.la, .int .i64 q.an, .int .i64 q.mo] 53))
        unfold mA at hcF
        have HCF := Lib.hid hcF
        clear hcF HB6 HBK6 HO6 HPB6
        simp only [meanOr, Option.getD_some, Option.isSome_some, mA]
        rcases HFN.out with hF1 | hF1
        all_goals
          subst hF1
          go_wp2_with fail
          refine HCF.out.mono ?_
          rintro e w6 ⟨rfl, hb⟩
          have HBK8 := Lib.hid (HBK7.out.trans (hb.mono HBK7.out.size))
          have HO8 := Lib.hid (HO7.out.call hb)
          clear hb z0 z1 z2 z3 z4 z5
          cases hrg : rg p q with
          | true =>
            have hw : wrB rg a b x = false := by unfold wrB; rw [decide_eq_true HK1.out, HP.out, HQ.out]; simp [hrg]
            have HWR2 : Hid (wrL rg a b 0 xs = acc ++ wrL rg a b (k + 1) (xs.drop (k + 1))) := by show _ = _; rw [HWR.out, hw]; rfl
            clear hw hrg
            go_wp2_with fail
            go_roundw
            case rel => exact ⟨k + 1, acc, Ao, co, by omega, by go_num, rfl, by omega, HWR2.out, HO8.out, HBK8.out⟩
            case measure => simp [intOf]; omega
          | false =>
            have hw : wrB rg a b x = true := by unfold wrB; rw [decide_eq_true HK1.out, HP.out, HQ.out]; simp [hrg]
            clear hrg
            have HWR2 : Hid (wrL rg a b 0 xs = (acc ++ [((k : Nat) : Int)]) ++ wrL rg a b (k + 1) (xs.drop (k + 1))) := by show _ = _; rw [HWR.out, if_pos hw, List.append_assoc]; rfl
            clear hw
            have hws := HBK8.out.size
            go_wp2_with (at_builtin; refine wpList_app rfl _ _ 46 rfl w3.heap.size 3 _ 1 8 Tryz.underlying46 infoI6 rfl (by decide) iC Ao acc.length co _ rfl (HO8.out.alloc _) ((k : Nat) : Int) #[.int .i64 (k : Nat)] rfl rfl 3 _ rfl (BK.new w6 _ _) (by simp [iC, Value.oneCell']) (by omega) (by omega) (by rw [World.size_alloc]; omega) ?_; intro g' c9 w8 hap; have HAP := Lib.hid hap; clear hap)
            have hbK := (HBK8.out.alloc hws (.cells #[.int .i64 (k : Nat)] 3)).trans HAP.out.bel
            go_roundw
            case rel => exact ⟨k + 1, acc ++ [((k : Nat) : Int)], some ⟨g', 0, none⟩, c9, by omega, by go_num, by simp, by rw [List.length_append, List.length_singleton]; omega, HWR2.out, by rw [List.length_append]; exact HAP.out.own, hbK⟩
            case measure => simp [intOf]; omega
/-- Two meanings are the same. -/
def rgC (p q : MeanR) : Bool := (p.fr == q.fr) && (p.to_ == q.to_) && (p.lt == q.lt) && (p.la == q.la) && (p.an == q.an) && (p.mo == q.mo)
/-- The second meaning is safe for the first. -/
def rgS (p q : MeanR) : Bool := decide (q.fr ≤ p.fr) && (decide (q.lt ≤ p.lt) && decide (p.mo ≤ q.mo))
theorem rgC_eq {p q : MeanR} (h : rgC p q = true) : p = q := by
  obtain ⟨p0, p1, p2, p3, p4, p5⟩ := p
  obtain ⟨q0, q1, q2, q3, q4, q5⟩ := q
  simp only [rgC, Bool.and_eq_true, beq_iff_eq] at h
  simp only [MeanR.mk.injEq]
  omega
theorem rgC_self (p : MeanR) : rgC p p = true := by simp [rgC]
theorem rgS_self (p : MeanR) : rgS p p = true := by simp [rgS]
set_option maxHeartbeats 4000000 in
theorem eq_mean (a0 a1 a2 a3 a4 a5 b0 b1 b2 b3 b4 b5 : Int) (w : World) :
    (Go.binOp .eql 53 (.agg #[.int .i64 a0, .int .i64 a1, .int .i64 a2, .int .i64 a3, .int .i64 a4, .int .i64 a5]) (.agg #[.int .i64 b0, .int .i64 b1, .int .i64 b2, .int .i64 b3, .int .i64 b4, .int .i64 b5])).run Tryz.prog w = .ok (.bool ((a0 == b0) && (a1 == b1) && (a2 == b2) && (a3 == b3) && (a4 == b4) && (a5 == b5))) w := by
  by_cases h0 : a0 = b0
  case neg =>
    have g0 : (a0 == b0) = false := by simpa using h0
    go_simp
  subst h0
  by_cases h1 : a1 = b1
  case neg =>
    have g1 : (a1 == b1) = false := by simpa using h1
    go_simp
  subst h1
  by_cases h2 : a2 = b2
  case neg =>
    have g2 : (a2 == b2) = false := by simpa using h2
    go_simp
  subst h2
  by_cases h3 : a3 = b3
  case neg =>
    have g3 : (a3 == b3) = false := by simpa using h3
    go_simp
  subst h3
  by_cases h4 : a4 = b4
  case neg =>
    have g4 : (a4 == b4) = false := by simpa using h4
    go_simp
  subst h4
  by_cases h5 : a5 = b5
  case neg =>
    have g5 : (a5 == b5) = false := by simpa using h5
    go_simp
  subst h5
  go_simp
set_option maxHeartbeats 4000000 in
theorem nclear1_any (p q : MeanR) (w : World) : Calls Tryz.prog 77 #[mA p, mA q] w fun e w' => e = .returned (.bool (rgC p q)) ∧ Below w.heap.size w w' := by
  have hb : Below w.heap.size w ((w.alloc (.cells #[.int .i64 p.fr, .int .i64 p.to_, .int .i64 p.lt, .int .i64 p.la, .int .i64 p.an, .int .i64 p.mo] 53)).alloc (.cells #[.int .i64 q.fr, .int .i64 q.to_, .int .i64 q.lt, .int .i64 q.la, .int .i64 q.an, .int .i64 q.mo] 53)) := ((Below.refl _ w).alloc (Nat.le_refl _) _).alloc (by simp) _
  have HP : BK ((w.alloc (.cells #[.int .i64 p.fr, .int .i64 p.to_, .int .i64 p.lt, .int .i64 p.la, .int .i64 p.an, .int .i64 p.mo] 53)).alloc (.cells #[.int .i64 q.fr, .int .i64 q.to_, .int .i64 q.lt, .int .i64 q.la, .int .i64 q.an, .int .i64 q.mo] 53)) w.heap.size 53 #[.int .i64 p.fr, .int .i64 p.to_, .int .i64 p.lt, .int .i64 p.la, .int .i64 p.an, .int .i64 p.mo] := (BK.new w _ _).alloc _
  obtain ⟨z0, z1, z2, z3, z4, z5⟩ := HP.t6
  have hq := eq_mean p.fr p.to_ p.lt p.la p.an p.mo q.fr q.to_ q.lt q.la q.an q.mo
  have HR : Hid (rgC p q = ((p.fr == q.fr) && (p.to_ == q.to_) && (p.lt == q.lt) && (p.la == q.la) && (p.an == q.an) && (p.mo == q.mo))) := rfl
  obtain ⟨r, hr⟩ : ∃ r, rgC p q = r := ⟨_, rfl⟩
  rw [← HR.out, hr] at hq
  rw [hr]
  unfold mA
  clear HP HR
  go_enter Tryz.func77, Tryz.ntmps77
  go_wp2_with fail
  go_ret
  exact ⟨rfl, hb⟩
set_option maxHeartbeats 4000000 in
theorem nsafe1_any (p q : MeanR) (w : World) : Calls Tryz.prog 78 #[mA p, mA q] w fun e w' => e = .returned (.bool (rgS p q)) ∧ Below w.heap.size w w' := by
  have hb : Below w.heap.size w ((w.alloc (.cells #[.int .i64 p.fr, .int .i64 p.to_, .int .i64 p.lt, .int .i64 p.la, .int .i64 p.an, .int .i64 p.mo] 53)).alloc (.cells #[.int .i64 q.fr, .int .i64 q.to_, .int .i64 q.lt, .int .i64 q.la, .int .i64 q.an, .int .i64 q.mo] 53)) := ((Below.refl _ w).alloc (Nat.le_refl _) _).alloc (by simp) _
  have HP : BK ((w.alloc (.cells #[.int .i64 p.fr, .int .i64 p.to_, .int .i64 p.lt, .int .i64 p.la, .int .i64 p.an, .int .i64 p.mo] 53)).alloc (.cells #[.int .i64 q.fr, .int .i64 q.to_, .int .i64 q.lt, .int .i64 q.la, .int .i64 q.an, .int .i64 q.mo] 53)) w.heap.size 53 #[.int .i64 p.fr, .int .i64 p.to_, .int .i64 p.lt, .int .i64 p.la, .int .i64 p.an, .int .i64 p.mo] := (BK.new w _ _).alloc _
  obtain ⟨z0, z1, z2, z3, z4, z5⟩ := HP.t6
  unfold mA rgS
  clear HP
  cases h0 : decide (q.fr ≤ p.fr) with
  | false =>
    rw [Bool.false_and]
    go_enter Tryz.func78, Tryz.ntmps78
    go_wp2_with fail
    go_ret
    exact ⟨rfl, hb⟩
  | true =>
    rw [Bool.true_and]
    cases h1 : decide (q.lt ≤ p.lt) with
    | false =>
      rw [Bool.false_and]
      go_enter Tryz.func78, Tryz.ntmps78
      go_wp2_with fail
      go_ret
      exact ⟨rfl, hb⟩
    | true =>
      rw [Bool.true_and]
      go_enter Tryz.func78, Tryz.ntmps78
      go_wp2_with fail
      go_ret
      exact ⟨rfl, hb⟩
set_option maxRecDepth 100000 in
theorem nUnclear_any (xs : List NoteR) (aa : Option Addr) (n ac : Nat) (a : BkR) (hva : BkOK a) (A1 : Option Addr) (c1 : Nat) (b : BkR) (hvb : BkOK b) (A2 : Option Addr) (c2 : Nat) (w : World)
    (hx : SL nC 10 w w.heap.size aa n xs) (ha : SL iC 1 w w.heap.size A1 a.gs.length a.gs) (hb : SL iC 1 w w.heap.size A2 b.gs.length b.gs) (hn : n ≤ 2000) (hall : xs.all nVal = true) :
    Calls Tryz.prog 39 #[.slice aa n ac, bkA A1 c1 a, bkA A2 c2 b] w fun e w' => ∃ A c, e = .returned (.tuple #[.slice A (wrL rgC a b 0 xs).length c, .int .i64 0]) ∧ OW iC 1 3 w.heap.size w' A (wrL rgC a b 0 xs).length c (wrL rgC a b 0 xs) ∧ Below w.heap.size w w' := by
  obtain ⟨w0, hw0⟩ : ∃ w0, w0 = (w.alloc (.cells #[.slice A1 a.gs.length c1, .int .i64 a.sh, .int .i64 a.lo, .int .i64 a.ra, .int .i64 a.an, .int .i64 a.io, .int .i64 a.st, .int .i64 a.ga, .int .i64 a.le] 50)).alloc (.cells #[.slice A2 b.gs.length c2, .int .i64 b.sh, .int .i64 b.lo, .int .i64 b.ra, .int .i64 b.an, .int .i64 b.io, .int .i64 b.st, .int .i64 b.ga, .int .i64 b.le] 50) := ⟨_, rfl⟩
  have hMA : BK w0 w.heap.size 50 #[.slice A1 a.gs.length c1, .int .i64 a.sh, .int .i64 a.lo, .int .i64 a.ra, .int .i64 a.an, .int .i64 a.io, .int .i64 a.st, .int .i64 a.ga, .int .i64 a.le] := by rw [hw0]; exact (BK.new w _ _).alloc _
  have hMB : BK w0 (w.heap.size + 1) 50 #[.slice A2 b.gs.length c2, .int .i64 b.sh, .int .i64 b.lo, .int .i64 b.ra, .int .i64 b.an, .int .i64 b.io, .int .i64 b.st, .int .i64 b.ga, .int .i64 b.le] := by rw [hw0]; exact bk2 w _ _ _ _
  have HB0 : Hid (Below w.heap.size w w0) := by show Below _ _ _; rw [hw0]; exact ((Below.refl _ w).alloc (Nat.le_refl _) _).alloc (by simp) _
  have hc := nwrong_any 77 (.inl rfl) rgC nclear1_any xs aa n ac a hva A1 c1 b hvb A2 c2 w0 (hx.grow HB0.out HB0.out.size) (ha.grow HB0.out HB0.out.size) (hb.grow HB0.out HB0.out.size) hn hall
  unfold bkA at hc
  have HC := Lib.hid hc
  obtain ⟨m0, m1, m2, m3, m4, m5, m6, m7, m8⟩ := bk9 hMA
  obtain ⟨l0, l1, l2, l3, l4, l5, l6, l7, l8⟩ := bk9 hMB
  clear hc hMA hMB hx ha hb hall hva hvb
  unfold bkA
  go_enter Tryz.func39, Tryz.ntmps39
  go_wp2_with fail
  rw [← hw0]
  clear hw0
  go_wp2_with fail
  refine HC.out.mono ?_
  rintro e w1 ⟨A, c, rfl, hO, hb⟩
  have HO := Lib.hid hO
  have HB := Lib.hid hb
  clear hO hb
  go_wp2_with fail
  go_ret2
  exact ⟨A, c, rfl, HO.out.drop0 HB0.out.size, HB0.out.trans (HB.out.mono HB0.out.size)⟩
set_option maxRecDepth 100000 in
theorem nUnsafe_any (xs : List NoteR) (aa : Option Addr) (n ac : Nat) (a : BkR) (hva : BkOK a) (A1 : Option Addr) (c1 : Nat) (b : BkR) (hvb : BkOK b) (A2 : Option Addr) (c2 : Nat) (w : World)
    (hx : SL nC 10 w w.heap.size aa n xs) (ha : SL iC 1 w w.heap.size A1 a.gs.length a.gs) (hb : SL iC 1 w w.heap.size A2 b.gs.length b.gs) (hn : n ≤ 2000) (hall : xs.all nVal = true) :
    Calls Tryz.prog 40 #[.slice aa n ac, bkA A1 c1 a, bkA A2 c2 b] w fun e w' => ∃ A c, e = .returned (.tuple #[.slice A (wrL rgS a b 0 xs).length c, .int .i64 0]) ∧ OW iC 1 3 w.heap.size w' A (wrL rgS a b 0 xs).length c (wrL rgS a b 0 xs) ∧ Below w.heap.size w w' := by
  obtain ⟨w0, hw0⟩ : ∃ w0, w0 = (w.alloc (.cells #[.slice A1 a.gs.length c1, .int .i64 a.sh, .int .i64 a.lo, .int .i64 a.ra, .int .i64 a.an, .int .i64 a.io, .int .i64 a.st, .int .i64 a.ga, .int .i64 a.le] 50)).alloc (.cells #[.slice A2 b.gs.length c2, .int .i64 b.sh, .int .i64 b.lo, .int .i64 b.ra, .int .i64 b.an, .int .i64 b.io, .int .i64 b.st, .int .i64 b.ga, .int .i64 b.le] 50) := ⟨_, rfl⟩
  have hMA : BK w0 w.heap.size 50 #[.slice A1 a.gs.length c1, .int .i64 a.sh, .int .i64 a.lo, .int .i64 a.ra, .int .i64 a.an, .int .i64 a.io, .int .i64 a.st, .int .i64 a.ga, .int .i64 a.le] := by rw [hw0]; exact (BK.new w _ _).alloc _
  have hMB : BK w0 (w.heap.size + 1) 50 #[.slice A2 b.gs.length c2, .int .i64 b.sh, .int .i64 b.lo, .int .i64 b.ra, .int .i64 b.an, .int .i64 b.io, .int .i64 b.st, .int .i64 b.ga, .int .i64 b.le] := by rw [hw0]; exact bk2 w _ _ _ _
  have HB0 : Hid (Below w.heap.size w w0) := by show Below _ _ _; rw [hw0]; exact ((Below.refl _ w).alloc (Nat.le_refl _) _).alloc (by simp) _
  have hc := nwrong_any 78 (.inr rfl) rgS nsafe1_any xs aa n ac a hva A1 c1 b hvb A2 c2 w0 (hx.grow HB0.out HB0.out.size) (ha.grow HB0.out HB0.out.size) (hb.grow HB0.out HB0.out.size) hn hall
  unfold bkA at hc
  have HC := Lib.hid hc
  obtain ⟨m0, m1, m2, m3, m4, m5, m6, m7, m8⟩ := bk9 hMA
  obtain ⟨l0, l1, l2, l3, l4, l5, l6, l7, l8⟩ := bk9 hMB
  clear hc hMA hMB hx ha hb hall hva hvb
  unfold bkA
  go_enter Tryz.func40, Tryz.ntmps40
  go_wp2_with fail
  rw [← hw0]
  clear hw0
  go_wp2_with fail
  refine HC.out.mono ?_
  rintro e w1 ⟨A, c, rfl, hO, hb⟩
  have HO := Lib.hid hO
  have HB := Lib.hid hb
  clear hO hb
  go_wp2_with fail
  go_ret2
  exact ⟨A, c, rfl, HO.out.drop0 HB0.out.size, HB0.out.trans (HB.out.mono HB0.out.size)⟩
/-- Whether a list has a number. -/
theorem has_any (A : Option Addr) (n c : Nat) (xs : List Int) (v : Int) (w : World) (h : SL iC 1 w w.heap.size A n xs) (hn : n ≤ 100000) :
    Calls Tryz.prog 41 #[.slice A n c, .int .i64 v] w fun e w' => e = .returned (.bool (decide (v ∈ xs))) ∧ w' = w := by
  have HL := Lib.hid h.1
  have HS := Lib.hid h
  clear h
  go_enter Tryz.func41, Tryz.ntmps41
  go_wp2_with fail
  go_loop [5] (fun i => ∃ k : Nat, k ≤ n ∧ i = .int .i64 (k : Nat) ∧ Hid (¬ v ∈ xs.take k)) (fun i => n - (intOf i).toNat)
  case atStart => exact ⟨0, Nat.zero_le _, rfl, by show ¬ _; simp⟩
  case round =>
    obtain ⟨k, hk, rfl, hnot⟩ := hrel
    by_cases hkn : k < n
    · have hkl : k < xs.length := by rw [← HL.out]; exact hkn
      obtain ⟨b, off, hA, hbB, c0⟩ := IS.at_ HS.out hkl
      have HM : Hid (xs[k] ∈ xs) := List.getElem_mem hkl
      have HT : Hid (v ≠ xs[k] → ¬ v ∈ xs.take (k + 1)) := by
        intro hne
        rw [List.take_add_one, List.getElem?_eq_getElem hkl]
        simp only [Option.toList_some, List.mem_append, List.mem_singleton, not_or]
        exact ⟨hnot.out, hne⟩
      generalize xs[k]'hkl = x at *
      subst hA
      have gk : (k : Int) < (n : Int) := by omega
      clear hkl hnot
      by_cases e : x = v
      · subst e
        have HR : Hid (decide (x ∈ xs) = true) := decide_eq_true HM.out
        have g : (x == x) = true := by simp
        go_wp2_with fail
        go_ret
        exact ⟨by rw [HR.out]; rfl, rfl⟩
      · have g : (x == v) = false := by simpa using e
        have HN := Lib.hid (HT.out (fun q => e q.symm))
        clear e HT
        go_wp2_with fail
        go_round
        case rel => exact ⟨k + 1, by omega, by go_num, HN.out⟩
        case measure => simp [intOf]; omega
    · obtain rfl : k = n := by omega
      have HR : Hid (decide (v ∈ xs) = false) := decide_eq_false (by have := hnot.out; rwa [HL.out, List.take_length] at this)
      clear hnot
      go_wp2_with fail
      go_ret
      exact ⟨by rw [HR.out]; rfl, rfl⟩
end Go.Proofs.YtnmipejpjeakbaaGreatDoor
