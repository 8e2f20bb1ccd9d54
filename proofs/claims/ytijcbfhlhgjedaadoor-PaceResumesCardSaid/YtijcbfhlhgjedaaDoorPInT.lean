/- pace.InTime, walked: whether a choice is in time, and its value, for all arguments. -/
import Derived.Test.YtijcbfhlhgjedaaDoorPVal
namespace Go.Proofs.YtijcbfhlhgjedaaDoor
open Go.RowKit Go.Shelf Go.Sort Go.Proofs

/-- The value of a choice of calls that is in order, from f on, and in time. -/
def itC (Q : Int → Int) (a : Int) (cs : List CallR) : List Int → Int → Int → Int → Option Int
  | [], _, _, v => some v
  | i :: is, f, s, v => if f ≤ i ∧ i < cs.length then (match cs[i.toNat]? with
    | none => none
    | some x => if endsB Q a x (s + x.lasts) = true then itC Q a cs is (i + 1) (s + x.lasts) (v + x.value) else none) else none
theorem itC_no {Q : Int → Int} {a : Int} {cs : List CallR} {i f s v : Int} {is : List Int} (h : ¬ (f ≤ i ∧ i < cs.length)) : itC Q a cs (i :: is) f s v = none := by
  rw [itC, if_neg h]
theorem itC_cons {Q : Int → Int} {a : Int} {cs : List CallR} {i : Nat} {f s v : Int} {is : List Int} {x : CallR} (h : f ≤ (i : Int)) (hx : cs[i]? = some x) : itC Q a cs ((i : Int) :: is) f s v = if endsB Q a x (s + x.lasts) = true then itC Q a cs is (i + 1) (s + x.lasts) (v + x.value) else none := by
  have := (List.getElem?_eq_some_iff.1 hx).1
  rw [itC, if_pos ⟨h, by omega⟩, Int.toNat_natCast, hx]
def itRes (o : Option Int) : Int × Bool := match o with
  | some v => (v, true)
  | none => (0, false)
def itAll (S : Spd) (R : Road) (cs : List CallR) (q : Int) (us : List Int) : Int × Bool := if (val R && spB S && remB (sumL R.ps) cs q) = true then itRes (itC (qS S R) q cs us 0 0 0) else (0, false)
theorem itAll_bad {S : Spd} {R : Road} {cs : List CallR} {q : Int} {us : List Int} (h : (val R && spB S && remB (sumL R.ps) cs q) = false) : itAll S R cs q us = (0, false) := by unfold itAll; rw [h]; rfl
theorem itAll_ok {S : Spd} {R : Road} {cs : List CallR} {q : Int} {us : List Int} (h : (val R && spB S && remB (sumL R.ps) cs q) = true) : itAll S R cs q us = itRes (itC (qS S R) q cs us 0 0 0) := by unfold itAll; rw [h]; rfl
/-- How far a choice has been looked at. -/
structure IP (Q : Int → Int) (a : Int) (cs : List CallR) (us : List Int) (k : Nat) (f s v : Int) : Prop where
  e : itC Q a cs us 0 0 0 = itC Q a cs (us.drop k) f s v
  z : k = 0 → f = 0
  p : ∀ p, 0 < k → us[k - 1]? = some p → f = p + 1
  f : (k : Int) ≤ f ∧ f ≤ cs.length
  s : 0 ≤ s ∧ s ≤ 1125899906842624 * k
  v : 0 ≤ v ∧ v ≤ 100 * k
set_option maxRecDepth 100000 in
set_option maxHeartbeats 8000000 in
theorem InTime_all (q : Int) (pa : Option Addr) (pn pc : Nat) (ca : Option Addr) (cn cc : Nat) (ja : Option Addr) (jn jc : Nat) (R : Road) (ra : Option Addr) (rn rc : Nat) (sa : Option Addr) (sn sc : Nat) (S : Spd) (ka : Option Addr) (kn kc : Nat) (cs : List CallR) (ua : Option Addr) (un uc : Nat) (us : List Int) (w : World)
    (h : RD w w.heap.size pa pn ca cn ja jn R) (hD : SD w w.heap.size ra rn sa sn S) (hK : SL caC 5 w w.heap.size ka kn cs) (hU : SL iC 1 w w.heap.size ua un us) (hkn : kn ≤ 1000) :
    Calls Tryd.prog 48 #[.agg #[.slice pa pn pc, .slice ca cn cc, .slice ja jn jc], .agg #[.int .i64 S.least, .int .i64 S.most, .slice ra rn rc, .slice sa sn sc], .slice ka kn kc, .int .i64 q, .slice ua un uc] w fun e w' =>
      e = .returned (.tuple #[.int .i64 (itAll S R cs q us).1, .bool (itAll S R cs q us).2]) ∧ Below w.heap.size w w' := by
  have HLK := Lib.hid hK.1
  have HLU := Lib.hid hU.1
  have HR := Lib.hid h
  have HD := Lib.hid hD
  have HK := Lib.hid hK
  have HU := Lib.hid hU
  clear h hD hK hU
  obtain ⟨w0, hw0⟩ : ∃ w0, w0 = (w.alloc (.cells #[.slice pa pn pc, .slice ca cn cc, .slice ja jn jc] 26)).alloc (.cells #[.int .i64 S.least, .int .i64 S.most, .slice ra rn rc, .slice sa sn sc] 30) := ⟨_, rfl⟩
  have hB0 : Below w.heap.size w w0 := by rw [hw0]; exact ((Below.refl w.heap.size w).alloc (Nat.le_refl _) _).alloc (by simp) _
  have hX0 : BK w0 (w.heap.size) 26 #[.slice pa pn pc, .slice ca cn cc, .slice ja jn jc] := by rw [hw0]; exact ((BK.new w 26 #[.slice pa pn pc, .slice ca cn cc, .slice ja jn jc])).alloc _
  have hY0 : BK w0 (w.heap.size + 1) 30 #[.int .i64 S.least, .int .i64 S.most, .slice ra rn rc, .slice sa sn sc] := by rw [hw0]; have := BK.new (w.alloc (.cells #[.slice pa pn pc, .slice ca cn cc, .slice ja jn jc] 26)) 30 #[.int .i64 S.least, .int .i64 S.most, .slice ra rn rc, .slice sa sn sc]; rw [World.size_alloc] at this; exact this
  go_enter Tryd.func48, Tryd.ntmps48
  go_wp2_with fail
  rw [← hw0]
  clear hw0
  have x0 := hX0.cell 0
  have x1 := hX0.cell 1
  have x2 := hX0.cell 2
  have y0 := hY0.cell 0
  have y1 := hY0.cell 1
  have y2 := hY0.cell 2
  have y3 := hY0.cell 3
  simp only [List.getElem?_toArray, List.getElem?_cons_zero, List.getElem?_cons_succ] at x0 x1 x2 y0 y1 y2 y3
  go_wp2_with fail
  clear x0 x1 x2 y0 y1 y2 y3
  by_cases hb : OK R ∧ SOK S
  case neg =>
    have HE := Lib.hid (itAll_bad (S := S) (R := R) (cs := cs) (q := q) (us := us) (by
      rw [Bool.eq_false_iff]
      intro q
      rw [Bool.and_eq_true, Bool.and_eq_true] at q
      exact hb ⟨(val_iff R).1 q.1.1, (spB_iff S).1 q.1.2⟩))
    refine (begin_bad pa pn pc ca cn cc ja jn jc R ra rn rc sa sn sc S w0 (HR.out.grow hB0 hB0.size) (HD.out.grow hB0 hB0.size) hb).mono ?_
    rintro e w1 ⟨rfl, hk⟩
    have hB1 := hB0.trans (hk.mono hB0.size)
    clear hX0 hY0 hk hB0
    go_wp2_with fail
    refine bodyPost_ret (v := .tuple #[.int .i64 0, .bool false]) (by simp [results, Tryd.results48, go_sem]) rfl ⟨by rw [HE.out], hB1⟩
  have HV := Lib.hid hb.1
  have HS := Lib.hid hb.2
  clear hb
  refine (begin_any pa pn pc ca cn cc ja jn jc R ra rn rc sa sn sc S w0 (HR.out.grow hB0 hB0.size) (HD.out.grow hB0 hB0.size) HV.out HS.out).mono ?_
  rintro e w1 ⟨g, ta, tc, N, rfl, hTS, hk⟩
  have HT1 := Lib.hid hTS
  have hN1 : N ≤ 100000 := by have := hTS.n; have := HV.out.n1; omega
  have HN : Hid (sumL R.ps = N) := hTS.n
  have hB1 := hB0.trans (hk.mono hB0.size)
  clear hX0 hY0 hTS hB0 hk
  go_wp2_with fail
  refine (remain_any q ka kn kc cs g ta tc N S R w1 HT1.out (HK.out.grow hB1 hB1.size) (by omega) (by omega)).mono ?_
  rintro e w2 ⟨rfl, hk⟩
  have HOB : Hid ((val R && spB S && remB (sumL R.ps) cs q) = remB N cs q) := by
    show _ = _
    rw [(val_iff R).2 HV.out, (spB_iff S).2 HS.out, HN.out, Bool.true_and, Bool.true_and]
  have HT2 := Lib.hid (HT1.out.grow hk hk.size)
  have hB2 := hB1.trans (hk.mono hB1.size)
  clear HT1 hB1 hk
  cases hrb : remB N cs q
  case false =>
    have HE := Lib.hid (itAll_bad (S := S) (R := R) (cs := cs) (q := q) (us := us) (HOB.out.trans hrb))
    go_wp2_with fail
    refine bodyPost_ret (v := .tuple #[.int .i64 0, .bool false]) (by simp [results, Tryd.results48, go_sem]) rfl ⟨by rw [HE.out], hB2⟩
  have HRO := Lib.hid ((remB_iff _ _ _).1 hrb)
  have HOK := Lib.hid (HOB.out.trans hrb)
  clear hrb HOB
  obtain ⟨a, rfl⟩ : ∃ a : Nat, q = (a : Int) := ⟨q.toNat, by have := HRO.out.a; omega⟩
  have haN : a ≤ N := by have := HRO.out.a; omega
  have HC : Hid (COK N cs) := HRO.out.c
  have hk60 : kn ≤ 60 := by have := HRO.out.l; have := HLK.out; omega
  have hz2 := hB2.size
  go_wp2_with fail
  go_loopw [14, 15, 35] (fun vv ss i wr => ∃ (k : Nat) (f s v : Int), k ≤ un ∧ i = .int .i64 k ∧ vv = .int .i64 v ∧ ss = .int .i64 s ∧ Hid (IP (qS S R) a cs us k f s v) ∧ Below w.heap.size w wr ∧ Below w2.heap.size w2 wr)
    (fun _ _ i _ => un - (intOf i).toNat)
  case atStart => exact ⟨0, 0, 0, 0, Nat.zero_le _, rfl, rfl, rfl, ⟨rfl, fun _ => rfl, fun p h => absurd h (Nat.lt_irrefl _), by omega, by omega, by omega⟩, hB2, Below.refl _ _⟩
  case round =>
    obtain ⟨k, f, s, v, hk, rfl, rfl, rfl, HIP, hBr, hbr⟩ := hrel
    have hipf := HIP.out.f
    have hips := HIP.out.s
    have hipv := HIP.out.v
    by_cases hlt : k < un
    case neg =>
      obtain rfl : un = k := by omega
      have HE : Hid (itAll S R cs a us = (v, true)) := by
        show _ = _
        rw [itAll_ok HOK.out, HIP.out.e, List.drop_eq_nil_of_le (by have := HLU.out; omega), itC]
        rfl
      go_wp2_with fail
      refine bodyPost_ret (v := .tuple #[.int .i64 v, .bool true]) (by simp [results, Tryd.results48, go_sem]) rfl ⟨by rw [HE.out], hBr⟩
    have hkl : k < us.length := by rw [← HLU.out]; exact hlt
    obtain ⟨ub, uo, hUA, -, u0⟩ := IS.at_ (HU.out.grow hBr hBr.size) (k := k) hkl
    have HDR : Hid (us.drop k = (us[k]'hkl) :: us.drop (k + 1)) := List.drop_eq_getElem_cons hkl
    have HPK : Hid (us[k]? = some (us[k]'hkl)) := List.getElem?_eq_getElem hkl
    have hprev : 0 < k → ∃ p, us[k - 1]? = some p ∧ ∀ b o, ua = some ⟨b, o, none⟩ → wr.cell? ⟨b, o + (k - 1), none⟩ = some (.int .i64 p) := fun h0 => by
      have hkl2 : k - 1 < us.length := by omega
      obtain ⟨b', o', hA', -, p0⟩ := IS.at_ (HU.out.grow hBr hBr.size) (k := k - 1) hkl2
      exact ⟨_, List.getElem?_eq_getElem hkl2, fun b o h => by rw [hA'] at h; cases h; exact p0⟩
    generalize us[k]'hkl = p at u0 HDR HPK
    have hi1 : (0 : Int) ≤ (k : Int) := by omega
    have hi2 : (k : Int) < (un : Int) := by omega
    have gkU : decide ((k : Int) < (un : Int)) = true := decide_eq_true hi2
    have gkUN : decide (k < un) = true := decide_eq_true hlt
    have hwkn : IntKind.i64.wrap ((kn : Int) - 1) = (kn : Int) - 1 := IntWalk.i64_in _ (by omega)
    subst hUA
    clear hkl
    by_cases hp : 0 ≤ p ∧ p ≤ (kn : Int) - 1
    case neg =>
      have gin : inR p 0 ((kn : Int) - 1) = false := by simp only [inR, Bool.and_eq_false_iff, decide_eq_false_iff_not]; omega
      have HE : Hid (itAll S R cs a us = (0, false)) := by
        show _ = _
        rw [itAll_ok HOK.out, HIP.out.e, HDR.out, itC_no (by have := HLK.out; omega)]
        rfl
      clear hprev
      go_wp2_with fail
      refine (pwithin_any _ _ _ _).mono ?_
      rintro e w' ⟨rfl, rfl⟩
      rw [gin]
      go_wp2_with fail
      refine bodyPost_ret (v := .tuple #[.int .i64 0, .bool false]) (by simp [results, Tryd.results48, go_sem]) rfl ⟨by rw [HE.out], hBr⟩
    have gin : inR p 0 ((kn : Int) - 1) = true := by simp only [inR, Bool.and_eq_true, decide_eq_true_eq]; omega
    obtain ⟨i, rfl⟩ : ∃ i : Nat, p = (i : Int) := ⟨p.toNat, by omega⟩
    have hil : i < cs.length := by have := HLK.out; omega
    have hii : (i : Int) < (kn : Int) := by omega
    have hi0 : (0 : Int) ≤ (i : Int) := by omega
    clear hp
    have hmain : ∀ (ok : Prop) [Decidable ok], True := fun _ _ => trivial
    clear hmain
    by_cases hk0 : 0 < k
    case neg =>
      have gk : decide ((0 : Int) < (k : Int)) = false := decide_eq_false (by omega)
      have gkN : decide (0 < k) = false := decide_eq_false hk0
      have HFI : Hid (f ≤ (i : Int)) := by show _ ≤ _; have := HIP.out.z (by omega); omega
      clear hprev hk0
      go_wp2_with fail
      refine (pwithin_any _ _ _ _).mono ?_
      rintro e w' ⟨rfl, rfl⟩
      rw [gin]
      have hx := List.getElem?_eq_getElem hil
      obtain ⟨kb, ko, hKA, hkbB, c0, c1, c2, c3, c4⟩ := KS5.at_ (HK.out.grow hBr hBr.size) (k := i) hil
      have hbd := kAt_bd HC.out hil
      have hvb := (HC.out.k i hil _ hx).2.2.2.2.1
      simp only [inR, Bool.and_eq_true, decide_eq_true_eq] at hvb
      rw [show maxM = 1125899906842624 from rfl] at hbd
      have HST : Hid (itC (qS S R) a cs (us.drop k) f s v = if endsB (qS S R) a (cs[i]'hil) (s + (cs[i]'hil).lasts) = true then itC (qS S R) a cs (us.drop (k + 1)) (i + 1) (s + (cs[i]'hil).lasts) (v + (cs[i]'hil).value) else none) := by
        show _ = _
        rw [HDR.out]
        exact itC_cons HFI.out hx
      generalize cs[i]'hil = x at c0 c1 c2 c3 c4 hbd hvb HST
      obtain ⟨⟨p1, p2⟩, ⟨p3, p4⟩, ⟨p5, p6⟩, -⟩ := hbd
      have hf60 : (k : Int) < 60 := by have := HFI.out; have := HRO.out.l; omega
      have hwk1 : IntKind.i64.wrap ((k : Int) + 1) = (k : Int) + 1 := IntWalk.i64_in _ (by omega)
      have hw1 : IntKind.i64.wrap (s + x.lasts) = s + x.lasts := IntWalk.i64_in _ (by omega)
      have hw2 : IntKind.i64.wrap (v + x.value) = v + x.value := IntWalk.i64_in _ (by omega)
      cases hKA
      clear hx hil
      go_wp2_with fail
      refine (ends_any x a (s + x.lasts) g ta tc N S R wr (HT2.out.grow hbr hbr.size) HS.out HV.out haN ⟨p1, p2⟩ ⟨by omega, by omega⟩ ⟨p5, by rw [show maxM = 1125899906842624 from rfl]; exact p6⟩).mono ?_
      rintro e w7 ⟨rfl, hk7⟩
      have hbr7 := hbr.trans (hk7.mono hbr.size)
      have hBr7 := hBr.trans (hk7.mono hBr.size)
      cases he : endsB (qS S R) a x (s + x.lasts)
      case false =>
        have HE : Hid (itAll S R cs a us = (0, false)) := by
          show _ = _
          rw [itAll_ok HOK.out, HIP.out.e, HST.out, he]
          rfl
        clear he hbr hBr
        go_wp2_with fail
        refine bodyPost_ret (v := .tuple #[.int .i64 0, .bool false]) (by simp [results, Tryd.results48, go_sem]) rfl ⟨by rw [HE.out], hBr7⟩
      have HIP2 : Hid (IP (qS S R) a cs us (k + 1) ((i : Int) + 1) (s + x.lasts) (v + x.value)) := by
        refine ⟨?_, fun h => by omega, fun p h hp => ?_, ?_, by omega, by omega⟩
        · rw [HIP.out.e, HST.out, he, if_pos rfl]
        · rw [Nat.add_sub_cancel, HPK.out] at hp
          cases hp
          rfl
        · have := HFI.out
          have := HLK.out
          omega
      have c4 := (hk7.cell (p := ⟨kb, ko + i * 5 + 4, none⟩) hkbB).trans c4
      clear he hbr hBr
      go_wp2_with fail
      go_roundw
      case rel => exact ⟨k + 1, _, _, _, by omega, by go_num, rfl, rfl, HIP2, hBr7, hbr7⟩
      case measure => simp [intOf]; omega
    obtain ⟨pp, hpp, hpc⟩ := hprev hk0
    have p0 := hpc _ _ rfl
    have hfp := HIP.out.p pp hk0 hpp
    obtain ⟨j, hj⟩ : ∃ j, k = j + 1 := ⟨k - 1, by omega⟩
    rw [show k - 1 = j by omega] at p0
    have hwj : IntKind.i64.wrap ((k : Int) - 1) = (j : Int) := (IntWalk.i64_in _ (by have := HRO.out.l; omega)).trans (by omega)
    have hj1 : (0 : Int) ≤ (j : Int) := by omega
    have hj2 : (j : Int) < (un : Int) := by omega
    have gk : decide ((0 : Int) < (k : Int)) = true := decide_eq_true (by omega)
    have gkN : decide (0 < k) = true := decide_eq_true hk0
    clear hprev hpc hpp hj
    by_cases hle : (i : Int) ≤ pp
    case pos =>
      have gle : decide ((i : Int) ≤ pp) = true := decide_eq_true hle
      have HE : Hid (itAll S R cs a us = (0, false)) := by
        show _ = _
        rw [itAll_ok HOK.out, HIP.out.e, HDR.out, itC_no (by omega)]
        rfl
      clear hk0
      go_wp2_with fail
      refine (pwithin_any _ _ _ _).mono ?_
      rintro e w' ⟨rfl, rfl⟩
      rw [gin]
      go_wp2_with fail
      refine bodyPost_ret (v := .tuple #[.int .i64 0, .bool false]) (by simp [results, Tryd.results48, go_sem]) rfl ⟨by rw [HE.out], hBr⟩
    have gle : decide ((i : Int) ≤ pp) = false := decide_eq_false hle
    have HFI : Hid (f ≤ (i : Int)) := by show _ ≤ _; omega
    clear hk0 hle
    go_wp2_with fail
    refine (pwithin_any _ _ _ _).mono ?_
    rintro e w' ⟨rfl, rfl⟩
    rw [gin]
    have hx := List.getElem?_eq_getElem hil
    obtain ⟨kb, ko, hKA, hkbB, c0, c1, c2, c3, c4⟩ := KS5.at_ (HK.out.grow hBr hBr.size) (k := i) hil
    have hbd := kAt_bd HC.out hil
    have hvb := (HC.out.k i hil _ hx).2.2.2.2.1
    simp only [inR, Bool.and_eq_true, decide_eq_true_eq] at hvb
    rw [show maxM = 1125899906842624 from rfl] at hbd
    have HST : Hid (itC (qS S R) a cs (us.drop k) f s v = if endsB (qS S R) a (cs[i]'hil) (s + (cs[i]'hil).lasts) = true then itC (qS S R) a cs (us.drop (k + 1)) (i + 1) (s + (cs[i]'hil).lasts) (v + (cs[i]'hil).value) else none) := by
      show _ = _
      rw [HDR.out]
      exact itC_cons HFI.out hx
    generalize cs[i]'hil = x at c0 c1 c2 c3 c4 hbd hvb HST
    obtain ⟨⟨p1, p2⟩, ⟨p3, p4⟩, ⟨p5, p6⟩, -⟩ := hbd
    have hf60 : (k : Int) < 60 := by have := HFI.out; have := HRO.out.l; omega
    have hwk1 : IntKind.i64.wrap ((k : Int) + 1) = (k : Int) + 1 := IntWalk.i64_in _ (by omega)
    have hw1 : IntKind.i64.wrap (s + x.lasts) = s + x.lasts := IntWalk.i64_in _ (by omega)
    have hw2 : IntKind.i64.wrap (v + x.value) = v + x.value := IntWalk.i64_in _ (by omega)
    cases hKA
    clear hx hil
    go_wp2_with fail
    refine (ends_any x a (s + x.lasts) g ta tc N S R wr (HT2.out.grow hbr hbr.size) HS.out HV.out haN ⟨p1, p2⟩ ⟨by omega, by omega⟩ ⟨p5, by rw [show maxM = 1125899906842624 from rfl]; exact p6⟩).mono ?_
    rintro e w7 ⟨rfl, hk7⟩
    have hbr7 := hbr.trans (hk7.mono hbr.size)
    have hBr7 := hBr.trans (hk7.mono hBr.size)
    cases he : endsB (qS S R) a x (s + x.lasts)
    case false =>
      have HE : Hid (itAll S R cs a us = (0, false)) := by
        show _ = _
        rw [itAll_ok HOK.out, HIP.out.e, HST.out, he]
        rfl
      clear he hbr hBr
      go_wp2_with fail
      refine bodyPost_ret (v := .tuple #[.int .i64 0, .bool false]) (by simp [results, Tryd.results48, go_sem]) rfl ⟨by rw [HE.out], hBr7⟩
    have HIP2 : Hid (IP (qS S R) a cs us (k + 1) ((i : Int) + 1) (s + x.lasts) (v + x.value)) := by
      refine ⟨?_, fun h => by omega, fun p h hp => ?_, ?_, by omega, by omega⟩
      · rw [HIP.out.e, HST.out, he, if_pos rfl]
      · rw [Nat.add_sub_cancel, HPK.out] at hp
        cases hp
        rfl
      · have := HFI.out
        have := HLK.out
        omega
    have c4 := (hk7.cell (p := ⟨kb, ko + i * 5 + 4, none⟩) hkbB).trans c4
    clear he hbr hBr
    go_wp2_with fail
    go_roundw
    case rel => exact ⟨k + 1, _, _, _, by omega, by go_num, rfl, rfl, HIP2, hBr7, hbr7⟩
    case measure => simp [intOf]; omega
end Go.Proofs.YtijcbfhlhgjedaaDoor
