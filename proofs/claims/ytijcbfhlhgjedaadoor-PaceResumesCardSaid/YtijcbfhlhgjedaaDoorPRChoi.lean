/- The document's Choice and InTime, walked. -/
import Derived.Test.YtijcbfhlhgjedaaDoorPRLeft
import Derived.Test.YtijcbfhlhgjedaaDoorPRMtr
namespace Go.Proofs.YtijcbfhlhgjedaaDoor
open Go.RowKit Go.Shelf Go.Sort Go.Proofs

def chB (n : Nat) : Int → List Int → Bool
  | _, [] => true
  | f, i :: is => decide (f ≤ i ∧ i < n) && chB n (i + 1) is
theorem chB_no {n : Nat} {f i : Int} {is : List Int} (h : ¬ (f ≤ i ∧ i < n)) : chB n f (i :: is) = false := by rw [chB, decide_eq_false h]; rfl
theorem chB_yes {n : Nat} {f i : Int} {is : List Int} (h : f ≤ i ∧ i < n) : chB n f (i :: is) = chB n (i + 1) is := by rw [chB, decide_eq_true h, Bool.true_and]
structure CP (n : Nat) (us : List Int) (k : Nat) (f : Int) : Prop where
  e : chB n 0 us = chB n f (us.drop k)
  z : k = 0 → f = 0
  p : ∀ p, 0 < k → us[k - 1]? = some p → f = p + 1
  f : 0 ≤ f
set_option maxRecDepth 100000 in
set_option maxHeartbeats 8000000 in
theorem RChoice_any (ka : Option Addr) (kn kc : Nat) (ua : Option Addr) (un uc : Nat) (us : List Int) (w : World) (hU : SL iC 1 w w.heap.size ua un us) (hkn : kn ≤ 1000) (hun : un ≤ 1000) :
    Calls Tryd.prog 51 #[.slice ka kn kc, .slice ua un uc] w fun e w' => e = .returned (.bool (chB kn 0 us)) ∧ Below w.heap.size w w' := by
  have hmo : Tryd.prog.follows .mixedOrders = true := by kernel_rfl
  have HLU := Lib.hid hU.1
  have HU := Lib.hid hU
  clear hU
  go_enter Tryd.func51, Tryd.ntmps51
  go_wp2_with fail
  go_loopw [5] (fun i wr => ∃ (k : Nat) (f : Int), k ≤ un ∧ i = .int .i64 k ∧ Hid (CP kn us k f) ∧ Below w.heap.size w wr)
    (fun i _ => un - (intOf i).toNat)
  case atStart => exact ⟨0, 0, Nat.zero_le _, rfl, ⟨rfl, fun _ => rfl, fun p h => absurd h (Nat.lt_irrefl _), Int.le_refl _⟩, Below.refl _ _⟩
  case round =>
    obtain ⟨k, f, hk, rfl, HCP, hbr⟩ := hrel
    have hf0 := HCP.out.f
    by_cases hlt : k < un
    case neg =>
      obtain rfl : un = k := by omega
      have hE : Hid (chB kn 0 us = true) := by show _ = _; rw [HCP.out.e, List.drop_eq_nil_of_le (by have := HLU.out; omega)]; rfl
      go_wp2_with fail
      go_ret
      exact ⟨ret_bool hE.out.symm, hbr⟩
    have hkl : k < us.length := by rw [← HLU.out]; exact hlt
    obtain ⟨ub, uo, hUA, -, u0⟩ := IS.at_ (HU.out.grow hbr hbr.size) (k := k) hkl
    have HDR : Hid (us.drop k = (us[k]'hkl) :: us.drop (k + 1)) := List.drop_eq_getElem_cons hkl
    have HPK : Hid (us[k]? = some (us[k]'hkl)) := List.getElem?_eq_getElem hkl
    have hprev : 0 < k → ∃ p, us[k - 1]? = some p ∧ ∀ b o, ua = some ⟨b, o, none⟩ → wr.cell? ⟨b, o + (k - 1), none⟩ = some (.int .i64 p) := fun h0 => by
      have hkl2 : k - 1 < us.length := by omega
      obtain ⟨b', o', hA', -, p0⟩ := IS.at_ (HU.out.grow hbr hbr.size) (k := k - 1) hkl2
      exact ⟨_, List.getElem?_eq_getElem hkl2, fun b o h => by rw [hA'] at h; cases h; exact p0⟩
    generalize us[k]'hkl = p at u0 HDR HPK
    have hi1 : (0 : Int) ≤ (k : Int) := by omega
    have hi2 : (k : Int) < (un : Int) := by omega
    have gU : decide ((k : Int) < (un : Int)) = true := decide_eq_true hi2
    have gUN : decide (k < un) = true := decide_eq_true hlt
    have hwkn : IntKind.i64.wrap ((kn : Int) - 1) = (kn : Int) - 1 := IntWalk.i64_in _ (by omega)
    subst hUA
    clear hkl
    by_cases hp : 0 ≤ p ∧ p ≤ (kn : Int) - 1
    case neg =>
      have HIN : Hid (inR p 0 ((kn : Int) - 1) = false) := by show _ = _; simp only [inR, Bool.and_eq_false_iff, decide_eq_false_iff_not]; omega
      have hE : Hid (chB kn 0 us = false) := by show _ = _; rw [HCP.out.e, HDR.out]; exact chB_no (by omega)
      clear hprev hp
      go_wp2_with fail
      have u0 := fun d os => cell_regrown u0 d os
      refine wp_region_ch 24 [7, 9, 12] hmo (by kernel_rfl) ?_
      simp only [List.take_succ_cons, List.take_zero, List.drop_succ_cons, List.drop_zero]
      repeat (with_reducible refine wpC_q (by decide) (by decide) (fun K hK => ?_); go_simp; (try rw [if_neg (by simp [undef])]); refine hK _ ?_; clear hK K)
      with_reducible refine wpC_cg (ι := Unit) 65 #[.int .i64 p, .int .i64 0, .int .i64 (kn - 1)] (fun _ => .bool false) (fun _ _ => True) (by decide) (by decide) (by go_simp) (fun w => by go_simp) stable_true (fun _ => stable_true) (fun W hW _ => ?_) (fun i0 hs0 => ?_)
      · obtain ⟨pp, rfl⟩ := hW
        refine (in3_bel _ _ _ _).mono ?_
        rintro e w' ⟨rfl, hbl⟩
        exact ⟨(), by rw [HIN.out], trivial, hbl⟩
      repeat (with_reducible refine wpC_q (by decide) (by decide) (fun K hK => ?_); go_simp; (try rw [if_neg (by simp [undef])]); refine hK _ ?_; clear hK K)
      with_reducible refine wpC_vg (ι := Unit) (fun _ => .bool true) (fun _ _ => True) (by decide) (by decide) (by go_simp) hs0 (fun _ => stable_true) (fun W _ _ => ⟨(), W, by go_simp, trivial, Below.refl _ _⟩) (fun i1 hs1 => ?_)
      repeat (with_reducible refine wpC_q (by decide) (by decide) (fun K hK => ?_); go_simp; (try rw [if_neg (by simp [undef])]); refine hK _ ?_; clear hK K)
      with_reducible refine wpC_off (by decide) (by go_simp) ?_
      repeat (with_reducible refine wpC_q (by decide) (by decide) (fun K hK => ?_); go_simp; (try rw [if_neg (by simp [undef])]); refine hK _ ?_; clear hK K)
      refine wpC_nil ?_
      intro w1 hb1 _
      clear u0  hs0 hs1
      go_wp2_with fail
      go_ret
      exact ⟨ret_bool hE.out.symm, hbr.trans (hb1.mono hbr.size)⟩
    have HIN : Hid (inR p 0 ((kn : Int) - 1) = true) := by show _ = _; simp only [inR, Bool.and_eq_true, decide_eq_true_eq]; omega
    by_cases hk0 : 0 < k
    case neg =>
      have gk : decide ((0 : Int) < (k : Int)) = false := decide_eq_false (by omega)
      have gkN : decide (0 < k) = false := decide_eq_false hk0
      have HFI : Hid (f ≤ p) := by show _ ≤ _; have := HCP.out.z (by omega); omega
      have HCP2 : Hid (CP kn us (k + 1) (p + 1)) := ⟨by rw [HCP.out.e, HDR.out]; exact chB_yes ⟨HFI.out, by omega⟩, fun h => by omega, fun y h hy => by rw [Nat.add_sub_cancel, HPK.out] at hy; cases hy; rfl, by omega⟩
      clear hprev hk0 hp
      go_wp2_with fail
      have u0 := fun d os => cell_regrown u0 d os
      refine wp_region_ch 24 [7, 9, 12] hmo (by kernel_rfl) ?_
      simp only [List.take_succ_cons, List.take_zero, List.drop_succ_cons, List.drop_zero]
      repeat (with_reducible refine wpC_q (by decide) (by decide) (fun K hK => ?_); go_simp; (try rw [if_neg (by simp [undef])]); refine hK _ ?_; clear hK K)
      with_reducible refine wpC_cg (ι := Unit) 65 #[.int .i64 p, .int .i64 0, .int .i64 (kn - 1)] (fun _ => .bool true) (fun _ _ => True) (by decide) (by decide) (by go_simp) (fun w => by go_simp) stable_true (fun _ => stable_true) (fun W hW _ => ?_) (fun i0 hs0 => ?_)
      · obtain ⟨pp, rfl⟩ := hW
        refine (in3_bel _ _ _ _).mono ?_
        rintro e w' ⟨rfl, hbl⟩
        exact ⟨(), by rw [HIN.out], trivial, hbl⟩
      repeat (with_reducible refine wpC_q (by decide) (by decide) (fun K hK => ?_); go_simp; (try rw [if_neg (by simp [undef])]); refine hK _ ?_; clear hK K)
      with_reducible refine wpC_vg (ι := Unit) (fun _ => .bool false) (fun _ _ => True) (by decide) (by decide) (by go_simp) hs0 (fun _ => stable_true) (fun W _ _ => ⟨(), W, by go_simp, trivial, Below.refl _ _⟩) (fun i1 hs1 => ?_)
      repeat (with_reducible refine wpC_q (by decide) (by decide) (fun K hK => ?_); go_simp; (try rw [if_neg (by simp [undef])]); refine hK _ ?_; clear hK K)
      with_reducible refine wpC_vg (ι := Unit) (fun _ => .bool false) (fun _ _ => True) (by decide) (by decide) (by go_simp) hs1 (fun _ => stable_true) (fun W _ _ => ⟨(), W, by go_simp, trivial, Below.refl _ _⟩) (fun i2 hs2 => ?_)
      repeat (with_reducible refine wpC_q (by decide) (by decide) (fun K hK => ?_); go_simp; (try rw [if_neg (by simp [undef])]); refine hK _ ?_; clear hK K)
      refine wpC_nil ?_
      intro w1 hb1 _
      clear u0  hs0 hs1 hs2
      have hbn := hbr.trans (hb1.mono hbr.size)
      clear hbr hb1
      go_wp2_with fail
      go_roundw
      case rel => exact ⟨k + 1, p + 1, by omega, by go_num, HCP2, hbn⟩
      case measure => simp [intOf]; omega
    obtain ⟨pp, hpp, hpc⟩ := hprev hk0
    have p0 := hpc _ _ rfl
    have hfp := HCP.out.p pp hk0 hpp
    obtain ⟨j, hj⟩ : ∃ j, k = j + 1 := ⟨k - 1, by omega⟩
    rw [show k - 1 = j by omega] at p0
    have hwj : IntKind.i64.wrap ((k : Int) - 1) = (j : Int) := (IntWalk.i64_in _ (by omega)).trans (by omega)
    have hj1 : (0 : Int) ≤ (j : Int) := by omega
    have hj2 : (j : Int) < (un : Int) := by omega
    have gk : decide ((0 : Int) < (k : Int)) = true := decide_eq_true (by omega)
    have gkN : decide (0 < k) = true := decide_eq_true hk0
    clear hprev hpc hpp hj
    by_cases hle : p ≤ pp
    case pos =>
      have gle : decide (p ≤ pp) = true := decide_eq_true hle
      have hE : Hid (chB kn 0 us = false) := by show _ = _; rw [HCP.out.e, HDR.out]; exact chB_no (by omega)
      clear hk0 hp
      go_wp2_with fail
      have u0 := fun d os => cell_regrown u0 d os
      have p0 := fun d os => cell_regrown p0 d os
      refine wp_region_ch 24 [7, 9, 12] hmo (by kernel_rfl) ?_
      simp only [List.take_succ_cons, List.take_zero, List.drop_succ_cons, List.drop_zero]
      repeat (with_reducible refine wpC_q (by decide) (by decide) (fun K hK => ?_); go_simp; (try rw [if_neg (by simp [undef])]); refine hK _ ?_; clear hK K)
      with_reducible refine wpC_cg (ι := Unit) 65 #[.int .i64 p, .int .i64 0, .int .i64 (kn - 1)] (fun _ => .bool true) (fun _ _ => True) (by decide) (by decide) (by go_simp) (fun w => by go_simp) stable_true (fun _ => stable_true) (fun W hW _ => ?_) (fun i0 hs0 => ?_)
      · obtain ⟨pp, rfl⟩ := hW
        refine (in3_bel _ _ _ _).mono ?_
        rintro e w' ⟨rfl, hbl⟩
        exact ⟨(), by rw [HIN.out], trivial, hbl⟩
      repeat (with_reducible refine wpC_q (by decide) (by decide) (fun K hK => ?_); go_simp; (try rw [if_neg (by simp [undef])]); refine hK _ ?_; clear hK K)
      with_reducible refine wpC_vg (ι := Unit) (fun _ => .bool false) (fun _ _ => True) (by decide) (by decide) (by go_simp) hs0 (fun _ => stable_true) (fun W _ _ => ⟨(), W, by go_simp, trivial, Below.refl _ _⟩) (fun i1 hs1 => ?_)
      repeat (with_reducible refine wpC_q (by decide) (by decide) (fun K hK => ?_); go_simp; (try rw [if_neg (by simp [undef])]); refine hK _ ?_; clear hK K)
      with_reducible refine wpC_vg (ι := Unit) (fun _ => .bool true) (fun _ _ => True) (by decide) (by decide) (by go_simp) hs1 (fun _ => stable_true) (fun W _ _ => ⟨(), W, by go_simp, trivial, Below.refl _ _⟩) (fun i2 hs2 => ?_)
      repeat (with_reducible refine wpC_q (by decide) (by decide) (fun K hK => ?_); go_simp; (try rw [if_neg (by simp [undef])]); refine hK _ ?_; clear hK K)
      refine wpC_nil ?_
      intro w1 hb1 _
      clear u0 p0 hs0 hs1 hs2
      go_wp2_with fail
      go_ret
      exact ⟨ret_bool hE.out.symm, hbr.trans (hb1.mono hbr.size)⟩
    have gle : decide (p ≤ pp) = false := decide_eq_false hle
    have HCP2 : Hid (CP kn us (k + 1) (p + 1)) := ⟨by rw [HCP.out.e, HDR.out]; exact chB_yes ⟨by omega, by omega⟩, fun h => by omega, fun y h hy => by rw [Nat.add_sub_cancel, HPK.out] at hy; cases hy; rfl, by omega⟩
    clear hk0 hle hp
    go_wp2_with fail
    have u0 := fun d os => cell_regrown u0 d os
    have p0 := fun d os => cell_regrown p0 d os
    refine wp_region_ch 24 [7, 9, 12] hmo (by kernel_rfl) ?_
    simp only [List.take_succ_cons, List.take_zero, List.drop_succ_cons, List.drop_zero]
    repeat (with_reducible refine wpC_q (by decide) (by decide) (fun K hK => ?_); go_simp; (try rw [if_neg (by simp [undef])]); refine hK _ ?_; clear hK K)
    with_reducible refine wpC_cg (ι := Unit) 65 #[.int .i64 p, .int .i64 0, .int .i64 (kn - 1)] (fun _ => .bool true) (fun _ _ => True) (by decide) (by decide) (by go_simp) (fun w => by go_simp) stable_true (fun _ => stable_true) (fun W hW _ => ?_) (fun i0 hs0 => ?_)
    · obtain ⟨pp, rfl⟩ := hW
      refine (in3_bel _ _ _ _).mono ?_
      rintro e w' ⟨rfl, hbl⟩
      exact ⟨(), by rw [HIN.out], trivial, hbl⟩
    repeat (with_reducible refine wpC_q (by decide) (by decide) (fun K hK => ?_); go_simp; (try rw [if_neg (by simp [undef])]); refine hK _ ?_; clear hK K)
    with_reducible refine wpC_vg (ι := Unit) (fun _ => .bool false) (fun _ _ => True) (by decide) (by decide) (by go_simp) hs0 (fun _ => stable_true) (fun W _ _ => ⟨(), W, by go_simp, trivial, Below.refl _ _⟩) (fun i1 hs1 => ?_)
    repeat (with_reducible refine wpC_q (by decide) (by decide) (fun K hK => ?_); go_simp; (try rw [if_neg (by simp [undef])]); refine hK _ ?_; clear hK K)
    with_reducible refine wpC_vg (ι := Unit) (fun _ => .bool true) (fun _ _ => True) (by decide) (by decide) (by go_simp) hs1 (fun _ => stable_true) (fun W _ _ => ⟨(), W, by go_simp, trivial, Below.refl _ _⟩) (fun i2 hs2 => ?_)
    repeat (with_reducible refine wpC_q (by decide) (by decide) (fun K hK => ?_); go_simp; (try rw [if_neg (by simp [undef])]); refine hK _ ?_; clear hK K)
    refine wpC_nil ?_
    intro w1 hb1 _
    clear u0 p0 hs0 hs1 hs2
    have hbn := hbr.trans (hb1.mono hbr.size)
    clear hbr hb1
    go_wp2_with fail
    go_roundw
    case rel => exact ⟨k + 1, p + 1, by omega, by go_num, HCP2, hbn⟩
    case measure => simp [intOf]; omega
set_option maxRecDepth 100000 in
set_option maxHeartbeats 8000000 in
theorem R3InTime_any (a : Nat) (pa : Option Addr) (pn pc : Nat) (ca : Option Addr) (cn cc : Nat) (ja : Option Addr) (jn jc : Nat) (R : Road) (ra : Option Addr) (rn rc : Nat) (sa : Option Addr) (sn sc : Nat) (S : Spd) (ka : Option Addr) (kn kc : Nat) (cs : List CallR) (ua : Option Addr) (un uc : Nat) (us : List Int) (w : World) (h : RD w w.heap.size pa pn ca cn ja jn R) (hD : SD w w.heap.size ra rn sa sn S) (hK : SL caC 5 w w.heap.size ka kn cs) (hU : SL iC 1 w w.heap.size ua un us) (hv : OK R) (hS : SOK S) (hro : ROK (sumL R.ps) cs a) (hch : chB cs.length 0 us = true) (hun : un ≤ 1000) :
    Calls Tryd.prog 52 #[.agg #[.slice pa pn pc, .slice ca cn cc, .slice ja jn jc], .agg #[.int .i64 S.least, .int .i64 S.most, .slice ra rn rc, .slice sa sn sc], .slice ka kn kc, .int .i64 a, .slice ua un uc] w fun e w' =>
      e = .returned (.tuple #[.int .i64 (itRes (itC (qS S R) a cs us 0 0 0)).1, .bool (itRes (itC (qS S R) a cs us 0 0 0)).2]) ∧ Below w.heap.size w w' := by
  have HLK := Lib.hid hK.1
  have HLU := Lib.hid hU.1
  have HV := Lib.hid hv
  have HS := Lib.hid hS
  have HRO := Lib.hid hro
  have HCH := Lib.hid hch
  have hk60 : kn ≤ 60 := by rw [hK.1]; exact hro.l
  clear hv hS hro hch
  have HR := Lib.hid h
  have HD := Lib.hid hD
  have HK := Lib.hid hK
  have HU := Lib.hid hU
  clear h hD hK hU
  obtain ⟨w0, hw0⟩ : ∃ w0, w0 = (w.alloc (.cells #[.slice pa pn pc, .slice ca cn cc, .slice ja jn jc] 26)).alloc (.cells #[.int .i64 S.least, .int .i64 S.most, .slice ra rn rc, .slice sa sn sc] 30) := ⟨_, rfl⟩
  have hB0 : Below w.heap.size w w0 := by rw [hw0]; exact ((Below.refl w.heap.size w).alloc (Nat.le_refl _) _).alloc (by simp) _
  have hX0 : BK w0 (w.heap.size) 26 #[.slice pa pn pc, .slice ca cn cc, .slice ja jn jc] := by rw [hw0]; exact ((BK.new w 26 #[.slice pa pn pc, .slice ca cn cc, .slice ja jn jc])).alloc _
  have hY0 : BK w0 (w.heap.size + 1) 30 #[.int .i64 S.least, .int .i64 S.most, .slice ra rn rc, .slice sa sn sc] := by rw [hw0]; have := BK.new (w.alloc (.cells #[.slice pa pn pc, .slice ca cn cc, .slice ja jn jc] 26)) 30 #[.int .i64 S.least, .int .i64 S.most, .slice ra rn rc, .slice sa sn sc]; rw [World.size_alloc] at this; exact this
  go_enter Tryd.func52, Tryd.ntmps52
  go_wp2_with fail
  rw [← hw0]
  clear hw0
  have hz0 := hB0.size
  go_loopw [12, 13, 14] (fun ss vv i wr => ∃ (k : Nat) (f s v : Int), k ≤ un ∧ i = .int .i64 k ∧ vv = .int .i64 v ∧ ss = .int .i64 s ∧ Hid (IP (qS S R) a cs us k f s v ∧ chB cs.length f (us.drop k) = true) ∧ Below w0.heap.size w0 wr)
    (fun _ _ i _ => un - (intOf i).toNat)
  case atStart => exact ⟨0, 0, 0, 0, Nat.zero_le _, rfl, rfl, rfl, ⟨⟨rfl, fun _ => rfl, fun p h => absurd h (Nat.lt_irrefl _), by omega, by omega, by omega⟩, HCH.out⟩, Below.refl _ _⟩
  case round =>
    obtain ⟨k, f, s, v, hk, rfl, rfl, rfl, HIC, hbr⟩ := hrel
    have HIP := Lib.hid HIC.out.1
    have hBr := hB0.trans (hbr.mono hz0)
    have hXr := hX0.below hbr hX0.lt
    have hYr := hY0.below hbr hY0.lt
    have hipf := HIP.out.f
    have hips := HIP.out.s
    have hipv := HIP.out.v
    by_cases hlt : k < un
    case neg =>
      obtain rfl : un = k := by omega
      have HE : Hid (itRes (itC (qS S R) a cs us 0 0 0) = (v, true)) := by
        show _ = _
        rw [HIP.out.e, List.drop_eq_nil_of_le (by have := HLU.out; omega), itC]
        rfl
      go_wp2_with fail
      refine bodyPost_ret (v := .tuple #[.int .i64 v, .bool true]) (by simp [results, Tryd.results52, go_sem]) rfl ⟨by rw [HE.out], hBr⟩
    have hkl : k < us.length := by rw [← HLU.out]; exact hlt
    obtain ⟨ub, uo, hUA, -, u0⟩ := IS.at_ (HU.out.grow hBr hBr.size) (k := k) hkl
    have HDR : Hid (us.drop k = (us[k]'hkl) :: us.drop (k + 1)) := List.drop_eq_getElem_cons hkl
    have HPK : Hid (us[k]? = some (us[k]'hkl)) := List.getElem?_eq_getElem hkl
    generalize us[k]'hkl = p at u0 HDR HPK
    have hcb := HIC.out.2
    rw [HDR.out, chB, Bool.and_eq_true, decide_eq_true_eq] at hcb
    obtain ⟨⟨hc1, hc2⟩, hc3⟩ := hcb
    obtain ⟨i, rfl⟩ : ∃ i : Nat, p = (i : Int) := ⟨p.toNat, by omega⟩
    have HC3 := Lib.hid hc3
    have HFI : Hid (f ≤ (i : Int)) := hc1
    have hil : i < cs.length := by omega
    have hii : (i : Int) < (kn : Int) := by have := HLK.out; omega
    have hi0 : (0 : Int) ≤ (i : Int) := by omega
    have hi1 : (0 : Int) ≤ (k : Int) := by omega
    have hi2 : (k : Int) < (un : Int) := by omega
    have gU : decide ((k : Int) < (un : Int)) = true := decide_eq_true hi2
    have gUN : decide (k < un) = true := decide_eq_true hlt
    have hx := List.getElem?_eq_getElem hil
    obtain ⟨kb, ko, hKA, hkbB, c0, c1, c2, c3, c4⟩ := KS5.at_ (HK.out.grow hBr hBr.size) (k := i) hil
    have hbd := kAt_bd HRO.out.c hil
    have hpl := rem_places HRO.out hil
    have hvb := (HRO.out.c.k i hil _ hx).2.2.2.2.1
    simp only [inR, Bool.and_eq_true, decide_eq_true_eq] at hvb
    rw [show maxM = 1125899906842624 from rfl] at hbd
    have HST : Hid (itC (qS S R) a cs (us.drop k) f s v = if endsB (qS S R) a (cs[i]'hil) (s + (cs[i]'hil).lasts) = true then itC (qS S R) a cs (us.drop (k + 1)) (i + 1) (s + (cs[i]'hil).lasts) (v + (cs[i]'hil).value) else none) := by
      show _ = _
      rw [HDR.out]
      exact itC_cons HFI.out hx
    generalize cs[i]'hil = x at c0 c1 c2 c3 c4 hbd hpl hvb HST
    obtain ⟨⟨p1, p2⟩, ⟨p3, p4⟩, ⟨p5, p6⟩, -⟩ := hbd
    obtain ⟨z, hz⟩ : ∃ z : Nat, x.place = (z : Int) := ⟨x.place.toNat, by omega⟩
    have hf60 : (k : Int) < 60 := by have := HRO.out.l; omega
    have HAZ : Hid (a ≤ z) := by show _ ≤ _; omega
    have HZN : Hid ((z : Int) ≤ sumL R.ps) := by show _ ≤ _; omega
    obtain ⟨dq, hdq⟩ : ∃ dq, dq = tQ S R.ps z - tQ S R.ps a := ⟨_, rfl⟩
    have HDQ : Hid (tQ S R.ps z - tQ S R.ps a = dq) := hdq.symm
    have hw1 : IntKind.i64.wrap (s + x.lasts) = s + x.lasts := IntWalk.i64_in _ (by omega)
    have hw2 : IntKind.i64.wrap (v + x.value) = v + x.value := IntWalk.i64_in _ (by omega)
    have hw3 : IntKind.i64.wrap (s + x.lasts + x.lead) = s + x.lasts + x.lead := IntWalk.i64_in _ (by omega)
    have hwk1 : IntKind.i64.wrap ((k : Int) + 1) = (k : Int) + 1 := IntWalk.i64_in _ (by omega)
    have HEB : Hid (endsB (qS S R) a x (s + x.lasts) = decide (s + x.lasts + x.lead ≤ dq)) := by
      show _ = _
      unfold endsB qS
      rw [hz, Int.toNat_natCast, Int.toNat_natCast, hdq]
    rw [hz] at c0
    obtain ⟨xp, xl, xe, xa, xv⟩ := x
    dsimp only at c0 c1 c2 c3 c4 hz hvb HST p3 p4 p5 p6 hw1 hw2 hw3 HEB
    subst hz
    obtain ⟨w5, hw5⟩ : ∃ w5, w5 = wr.alloc (.cells #[.int .i64 z, .int .i64 xl, .int .i64 xe, .int .i64 xa, .int .i64 xv] 75) := ⟨_, rfl⟩
    have hk5 : Below wr.heap.size wr w5 := by rw [hw5]; exact (Below.refl _ _).alloc (Nat.le_refl _) _
    have hZ5 : BK w5 wr.heap.size 75 #[.int .i64 z, .int .i64 xl, .int .i64 xe, .int .i64 xa, .int .i64 xv] := by rw [hw5]; exact BK.new _ _ _
    have hX5 := hXr.below hk5 hXr.lt
    have hY5 := hYr.below hk5 hYr.lt
    have hB5 := hBr.trans (hk5.mono hBr.size)
    have hXr' := hXr.alloc (.cells #[.int .i64 z, .int .i64 xl, .int .i64 xe, .int .i64 xa, .int .i64 xv] 75)
    have hYr' := hYr.alloc (.cells #[.int .i64 z, .int .i64 xl, .int .i64 xe, .int .i64 xa, .int .i64 xv] 75)
    have x0 := hXr'.cell 0
    have x1 := hXr'.cell 1
    have x2 := hXr'.cell 2
    have y0 := hYr'.cell 0
    have y1 := hYr'.cell 1
    have y2 := hYr'.cell 2
    have y3 := hYr'.cell 3
    simp only [List.getElem?_toArray, List.getElem?_cons_zero, List.getElem?_cons_succ] at x0 x1 x2 y0 y1 y2 y3
    cases hUA
    cases hKA
    clear hx hil hkl hpl hdq hc1 hc2 hc3 hXr hYr
    have hlX := hX5.lt
    have hlY := hY5.lt
    have hlZ := hZ5.lt
    go_wp2_with fail
    rw [← hw5]
    clear x0 x1 x2 y0 y1 y2 y3
    clear hw5 c0 c1 c2 c3 c4 u0 hXr' hYr'
    refine (R3Between_any a z pa pn pc ca cn cc ja jn jc R ra rn rc sa sn sc S w5 (HR.out.grow hB5 hB5.size) (HD.out.grow hB5 hB5.size) HV.out HS.out HAZ.out HZN.out).mono ?_
    rintro e w6 ⟨rfl, hk6⟩
    rw [HDQ.out]
    have hZ6 := hZ5.below hk6 hlZ
    have hbr6 := hbr.trans ((hk5.trans (hk6.mono hk5.size)).mono hbr.size)
    have hB6 := hB5.trans (hk6.mono hB5.size)
    have z2 := hZ6.cell 2
    have z4 := hZ6.cell 4
    simp only [List.getElem?_toArray, List.getElem?_cons_zero, List.getElem?_cons_succ] at z2 z4
    by_cases he : s + xl + xe ≤ dq
    case neg =>
      have ge : decide (dq < s + xl + xe) = true := decide_eq_true (by omega)
      have HE : Hid (itRes (itC (qS S R) a cs us 0 0 0) = (0, false)) := by
        show _ = _
        rw [HIP.out.e, HST.out, HEB.out, decide_eq_false he]
        rfl
      clear he hbr hBr hk5 hk6 hZ5 hZ6
      go_wp2_with fail
      refine bodyPost_ret (v := .tuple #[.int .i64 0, .bool false]) (by simp [results, Tryd.results52, go_sem]) rfl ⟨by rw [HE.out], hB6⟩
    have ge : decide (dq < s + xl + xe) = false := decide_eq_false (by omega)
    have HIP2 : Hid (IP (qS S R) a cs us (k + 1) ((i : Int) + 1) (s + xl) (v + xv) ∧ chB cs.length ((i : Int) + 1) (us.drop (k + 1)) = true) := by
      refine ⟨⟨?_, fun h => by omega, fun p h hp => ?_, ?_, by omega, by omega⟩, HC3.out⟩
      · rw [HIP.out.e, HST.out, HEB.out, decide_eq_true he, if_pos rfl]
      · rw [Nat.add_sub_cancel, HPK.out] at hp
        cases hp
        rfl
      · have := HFI.out
        have := HLK.out
        omega
    clear he hbr hBr hk5 hk6 hZ5 hZ6
    go_wp2_with fail
    go_roundw
    case rel => exact ⟨k + 1, _, _, _, by omega, by go_num, rfl, rfl, HIP2, hbr6⟩
    case measure => simp [intOf]; omega
end Go.Proofs.YtijcbfhlhgjedaaDoor
