/- Reading aloud: by a good plan each call ends in time, during each run that the speeds allow: plain. No program in sight. -/
import Derived.Test.YtogkmnopggmdjaaGreatDoorPLate3
import Derived.Test.YtogkmnopggmdjaaGreatDoorPSaid
import Derived.Test.YtogkmnopggmdjaaGreatDoorPFits
import Derived.Test.YtogkmnopggmdjaaGreatDoorPRadii
import Derived.Test.YtogkmnopggmdjaaGreatDoorPPCal
import Derived.Test.YtogkmnopggmdjaaGreatDoorPSpd
import Derived.Test.YtogkmnopggmdjaaGreatDoorPRMan
import Derived.Test.YtogkmnopggmdjaaGreatDoorPPlanS
namespace Go.Proofs.YtogkmnopggmdjaaGreatDoor
open Go.RowKit Go.Shelf Go.Sort Go.Proofs

theorem lsum_cons (cs : List CallR) (m k : Nat) (h : m < cs.length) : lsum cs m (k + 1) = (cs[m]'h).lasts + lsum cs (m + 1) k := by
  unfold lsum
  rw [List.drop_eq_getElem_cons h, List.take_succ_cons, List.map_cons, List.sum_cons]
/-- A run that the speeds allow: its times, place by place. -/
structure Runs (S : Spd) (R : Road) (N : Nat) (v : Nat → Int) : Prop where
  z : v 0 = 0
  d : ∀ k, k < N → tQ S R.ps (k + 1) - tQ S R.ps k ≤ v (k + 1) - v k ∧ v (k + 1) - v k ≤ tSl S R.ps (k + 1) - tSl S R.ps k
theorem Runs.le {S : Spd} {R : Road} {N : Nat} {v : Nat → Int} (h : Runs S R N v) {a : Nat} : ∀ d : Nat, a + d ≤ N → tQ S R.ps (a + d) - tQ S R.ps a ≤ v (a + d) - v a ∧ v (a + d) - v a ≤ tSl S R.ps (a + d) - tSl S R.ps a
  | 0, _ => by simp
  | d + 1, hd => by
    have h1 := h.le (a := a) d (by omega)
    have h2 := h.d (a + d) (by omega)
    rw [← Nat.add_assoc]
    omega
theorem Runs.at_ {S : Spd} {R : Road} {N : Nat} {v : Nat → Int} (h : Runs S R N v) {a b : Nat} (hab : a ≤ b) (hb : b ≤ N) : tQ S R.ps b - tQ S R.ps a ≤ v b - v a ∧ v b - v a ≤ tSl S R.ps b - tSl S R.ps a := by
  have := h.le (a := a) (b - a) (by omega)
  rwa [show a + (b - a) = b by omega] at this
theorem Runs.bd {S : Spd} {R : Road} {N : Nat} {v : Nat → Int} (h : Runs S R N v) (hS : SOK S) (hv : OK R) {b : Nat} (hb : b ≤ N) : 0 ≤ v b ∧ v b ≤ 1000070000000 := by
  have h1 := h.at_ (Nat.zero_le b) hb
  have h2 := tSl_bd hS hv b
  have h3 := tQ_bd hS hv b
  rw [h.z, tQ_zero, tSl_zero] at h1
  omega
theorem Runs.up {S : Spd} {R : Road} {N : Nat} {v : Nat → Int} (h : Runs S R N v) (hS : SOK S) (hv : OK R) {a b : Nat} (hab : a ≤ b) (hb : b ≤ N) : v a ≤ v b := by
  have h1 := (h.at_ hab hb).1
  have h2 := tQ_mono hS hv hab
  omega
/-- The list of a run's times. -/
def runL (N : Nat) (v : Nat → Int) : List Int := (List.range' 0 (N + 1)).map v
theorem runL_len (N : Nat) (v : Nat → Int) : (runL N v).length = N + 1 := by simp [runL]
theorem runL_at {N : Nat} {v : Nat → Int} {k : Nat} (h : k ≤ N) : (runL N v)[k]? = some (v k) := by
  simp [runL, Nat.lt_succ_of_le h]
theorem runs_tok {S : Spd} {R : Road} {N : Nat} {v : Nat → Int} (h : Runs S R N v) (hS : SOK S) (hv : OK R) : TOK maxR (N + 1) (runL N v) := by
  refine ⟨runL_len N v, fun i hi x hx => ?_⟩
  rw [runL_len] at hi
  rw [runL_at (by omega)] at hx
  cases hx
  have h1 := h.bd hS hv (b := i) (by omega)
  have e : maxR = 1125899906842624 := rfl
  refine ⟨by rw [e]; simp [inR]; omega, fun y h0 hy => ?_⟩
  rw [runL_at (by omega)] at hy
  cases hy
  exact h.up hS hv (by omega) (by omega)
theorem runs_fit {S : Spd} {R : Road} {N : Nat} {v : Nat → Int} (h : Runs S R N v) : fitM S R [] (runL N v) = true := by
  rw [fitM_yes (fun i hi => ?_)]
  · rfl
  · rw [runL_len] at hi
    cases i with
    | zero => rw [okI_0 (runL_at (Nat.zero_le N)), h.z]; rfl
    | succ i =>
      rw [okI_s (runL_at (by omega)) (runL_at (by omega))]
      have := h.d i (by omega)
      simp only [Bool.and_eq_true, decide_eq_true_eq]
      exact this
/-- Each call that is read ends so early that all later ones are in time. -/
theorem heard_all {S : Spd} {R : Road} {cs : List CallR} {ls : List Int} {N : Nat} {v : Nat → Int} (hS : SOK S) (hv : OK R) (hN : sumL R.ps = N) (hc : COK (sumL R.ps) cs) (ht : TOK (sumL R.ps) cs.length ls) (hr : Runs S R N v)
    (hg : ∀ j, j < cs.length → goodAt S R cs ls j = true) : ∀ m : Nat, m < cs.length → ∀ (i z : Nat) (h : i < cs.length), m ≤ i → (cs[i]'h).place = (z : Int) → endAt cs ls (runL N v) (m + 1) + lsum cs (m + 1) (i - m) + (cs[i]'h).lead ≤ v z := by
  intro m
  induction m with
  | zero =>
    intro hm i z hi _ hz
    obtain ⟨q, y, h1, h2, h3, h4⟩ := tok_at hc ht hm
    have g1 := ((goodAt_iff hm h1 h3).1 (hg 0 hm)).1
    have g2 := okTo_iff.1 g1 i (Nat.zero_le i) hi
    rw [hN] at h2 h4
    have hpi := (hc.k i hi _ (List.getElem?_eq_getElem hi)).1
    rw [hz, hN] at hpi
    simp only [inR, Bool.and_eq_true, decide_eq_true_eq] at hpi
    rw [endAt_succ hm h1 (runL_at (by omega))]
    unfold lateD at g2
    rw [List.getElem?_eq_getElem hi] at g2
    simp only [Bool.or_eq_false_iff, decide_eq_false_iff_not] at g2
    rw [hz, Int.toNat_natCast] at g2
    have h5 := (hr.at_ (a := q) (b := z) (by omega) (by omega)).1
    have h6 := (hr.bd hS hv (b := q) (by omega)).1
    have h7 := lsum_cons cs 0 (i - 0) hm
    rw [show i - 0 + 1 = i + 1 - 0 by omega] at h7
    rw [show endAt cs ls (runL N v) 0 = 0 from rfl, Int.max_eq_right h6]
    omega
  | succ m ih =>
    intro hm i z hi hmi hz
    obtain ⟨q, y, h1, h2, h3, h4⟩ := tok_at hc ht hm
    have g1 := ((goodAt_iff hm h1 h3).1 (hg (m + 1) hm)).1
    have g2 := okTo_iff.1 g1 i hmi hi
    rw [hN] at h2 h4
    have hpi := (hc.k i hi _ (List.getElem?_eq_getElem hi)).1
    rw [hz, hN] at hpi
    simp only [inR, Bool.and_eq_true, decide_eq_true_eq] at hpi
    rw [endAt_succ hm h1 (runL_at (by omega))]
    unfold lateD at g2
    rw [List.getElem?_eq_getElem hi] at g2
    simp only [Bool.or_eq_false_iff, decide_eq_false_iff_not] at g2
    rw [hz, Int.toNat_natCast] at g2
    have h5 := (hr.at_ (a := q) (b := z) (by omega) (by omega)).1
    have h7 := lsum_cons cs (m + 1) (i - (m + 1)) hm
    rw [show i - (m + 1) + 1 = i + 1 - (m + 1) by omega] at h7
    have h8 := ih (by omega) i z hi (by omega) hz
    rw [show i - m = i + 1 - (m + 1) by omega] at h8
    omega
/-- The theorem of reading aloud. -/
theorem heard {S : Spd} {R : Road} {cs : List CallR} {ls : List Int} {N : Nat} {v : Nat → Int} (hS : SOK S) (hv : OK R) (hN : sumL R.ps = N) (hc : COK (sumL R.ps) cs) (ht : TOK (sumL R.ps) cs.length ls) (hr : Runs S R N v)
    (hg : ∀ j, j < cs.length → goodAt S R cs ls j = true) {i : Nat} (hi : i < cs.length) :
    ∃ q z : Nat, ls[i]? = some (q : Int) ∧ (cs[i]'hi).place = (z : Int) ∧ q ≤ N ∧ z ≤ N ∧ endAt cs ls (runL N v) (i + 1) + (cs[i]'hi).lead ≤ v z ∧ v z - v q ≤ (cs[i]'hi).ahead := by
  obtain ⟨q, z, h1, h2, h3, h4⟩ := tok_at hc ht hi
  rw [hN] at h2 h4
  have g := (goodAt_iff hi h1 h3).1 (hg i hi)
  have h5 := heard_all hS hv hN hc ht hr hg i hi i z hi (Nat.le_refl _) h3
  rw [Nat.sub_self] at h5
  have h6 : lsum cs (i + 1) 0 = 0 := by simp [lsum]
  have h7 := (hr.at_ (a := q) (b := z) (ok_place hi h3 g.1) (by omega)).2
  exact ⟨q, z, h1, h3, by omega, by omega, by omega, by omega⟩
/-- The share of what a meter can take. -/
def shareAt (sh : List Int) (i : Nat) : Int := match sh[i]? with
  | some s => min 100 (max 0 s)
  | none => 0
/-- The run that takes these shares. -/
def runV (S : Spd) (R : Road) (sh : List Int) : Nat → Int
  | 0 => 0
  | k + 1 => runV S R sh k + (tQ S R.ps (k + 1) - tQ S R.ps k) + ((tSl S R.ps (k + 1) - tSl S R.ps k) - (tQ S R.ps (k + 1) - tQ S R.ps k)) * shareAt sh k / 100
theorem shareAt_bd (sh : List Int) (i : Nat) : 0 ≤ shareAt sh i ∧ shareAt sh i ≤ 100 := by
  unfold shareAt
  split
  · omega
  · omega
theorem mQ_le_mSl {S : Spd} (hS : SOK S) {p : Piece} (hp : pOk p = true) : mQ S p ≤ mSl S p := by
  obtain ⟨a1, a2, a3⟩ := rowS_bd hS p
  obtain ⟨b1, b2⟩ := surS_bd hS hp
  have hm : mQ S p = 10000000 / (((rowS S p).2 * surS S p + 99) / 100) := rfl
  have hs : mSl S p = (10000000 + max 1 ((rowS S p).1 * surS S p / 100) - 1) / max 1 ((rowS S p).1 * surS S p / 100) := rfl
  rw [hm, hs]
  have h1 : (rowS S p).1 * surS S p ≤ (rowS S p).2 * surS S p := Int.mul_le_mul_of_nonneg_right a2 (by omega)
  have h0 : 1 * 1 ≤ (rowS S p).1 * surS S p := Int.mul_le_mul a1 b1 (by omega) (by omega)
  generalize (rowS S p).1 * surS S p = x at *
  generalize (rowS S p).2 * surS S p = y at *
  obtain ⟨l, hl⟩ : ∃ l, l = max 1 (x / 100) := ⟨_, rfl⟩
  obtain ⟨h, hh⟩ : ∃ h, h = (y + 99) / 100 := ⟨_, rfl⟩
  rw [← hl, ← hh]
  have hlh : l ≤ h := by omega
  have hl1 : 1 ≤ l := by omega
  clear hl hh
  have e1 : 10000000 / h ≤ 10000000 / l := by
    refine (Int.le_ediv_iff_mul_le (by omega)).2 ?_
    have h3 : 10000000 / h * l ≤ 10000000 / h * h := Int.mul_le_mul_of_nonneg_left hlh (Int.ediv_nonneg (by omega) (by omega))
    have h4 := Int.ediv_mul_le 10000000 (show h ≠ 0 by omega)
    omega
  have e2 : 10000000 / l ≤ (10000000 + l - 1) / l := Int.ediv_le_ediv (by omega) (by omega)
  omega
theorem runV_runs {S : Spd} {R : Road} (hS : SOK S) (hv : OK R) {N : Nat} (hN : sumL R.ps = N) (sh : List Int) : Runs S R N (runV S R sh) := by
  refine ⟨rfl, fun k hk => ?_⟩
  obtain ⟨p, hp, hx, -⟩ := meter_at hS hv (k := k) (by rw [hN]; omega)
  have h1 := tQ_succ S R.ps hx
  have h2 := tSl_succ S R.ps hx
  have h3 := mQ_le_mSl hS hp
  rw [mQ_one] at h1
  rw [mSl_one] at h2
  obtain ⟨s0, s1⟩ := shareAt_bd sh k
  rw [runV]
  obtain ⟨a, ha⟩ : ∃ a, a = tQ S R.ps (k + 1) - tQ S R.ps k := ⟨_, rfl⟩
  obtain ⟨b, hb⟩ : ∃ b, b = tSl S R.ps (k + 1) - tSl S R.ps k := ⟨_, rfl⟩
  rw [← ha, ← hb]
  have hab : 0 ≤ b - a := by omega
  have m1 : 0 ≤ (b - a) * shareAt sh k := Int.mul_nonneg hab s0
  have m2 : (b - a) * shareAt sh k ≤ (b - a) * 100 := Int.mul_le_mul_of_nonneg_left s1 hab
  omega
end Go.Proofs.YtogkmnopggmdjaaGreatDoor

/- hairpintop's known02, short, corners. -/
namespace Go.Proofs.YtogkmnopggmdjaaGreatDoor
open Go.RowKit Go.Shelf Go.Sort Go.Proofs

theorem itoa_d (m : Nat) (h : m < 10) : Lib.itoa (m : Nat) = [UInt8.ofNat (48 + m)] := by
  rw [Lib.itoa_nonneg, Lib.decDigits, dif_pos h]
theorem itoa_3 : Lib.itoa 3 = [51] := itoa_d 3 (by decide)
set_option maxRecDepth 100000 in
set_option maxHeartbeats 4000000 in
theorem short_any (pa : Option Addr) (pn pc : Nat) (ca : Option Addr) (cn cc : Nat) (ja : Option Addr) (jn jc : Nat) (R : Road) (most : Int) (w : World) (h : RD w w.heap.size pa pn ca cn ja jn R) :
    Calls Tryz.prog 14 #[.agg #[.slice pa pn pc, .slice ca cn cc, .slice ja jn jc], .int .i64 most] w fun e w' => ∃ m, e = .returned (.bool m) ∧ (m = true → OK R ∧ R.ps.length ≤ 15 ∧ R.cs.length ≤ 20 ∧ R.js.length ≤ 20 ∧ sumL R.ps ≤ most) ∧ Below w.heap.size w w' := by
  have hlp := Lib.hid h.p.1
  have hlc := Lib.hid h.c.1
  have hlj := Lib.hid h.j.1
  obtain ⟨w0, hw0⟩ : ∃ w0, w0 = w.alloc (.cells #[.slice pa pn pc, .slice ca cn cc, .slice ja jn jc] 26) := ⟨_, rfl⟩
  have HX0 : Hid (BK w0 w.heap.size 26 #[.slice pa pn pc, .slice ca cn cc, .slice ja jn jc]) := by show BK _ _ _ _; rw [hw0]; exact BK.new w _ _
  have HB0 : Hid (Below w.heap.size w w0) := by show Below _ _ _; rw [hw0]; exact (Below.refl _ w).alloc (Nat.le_refl _) _
  have HR := Lib.hid h
  have hval := Valid_any pa pn pc ca cn cc ja jn jc R w0 (h.grow HB0.out HB0.out.size)
  have HVAL := Lib.hid hval
  obtain ⟨r0, r1, r2⟩ := roadbk HX0.out
  clear h hval
  by_cases g1 : 15 < pn
  · have k1 : decide ((15 : Int) < (pn : Int)) = true := by simp; omega
    go_enter Tryz.func14, Tryz.ntmps14
    go_wp2_with fail
    rw [← hw0]
    clear hw0
    go_wp2_with fail
    go_ret
    exact ⟨false, rfl, fun q => (by cases q), HB0.out⟩
  have k1 : decide ((15 : Int) < (pn : Int)) = false := by simp; omega
  by_cases g2 : 20 < cn
  · have k2 : decide ((20 : Int) < (cn : Int)) = true := by simp; omega
    go_enter Tryz.func14, Tryz.ntmps14
    go_wp2_with fail
    rw [← hw0]
    clear hw0
    go_wp2_with fail
    go_ret
    exact ⟨false, rfl, fun q => (by cases q), HB0.out⟩
  have k2 : decide ((20 : Int) < (cn : Int)) = false := by simp; omega
  by_cases g3 : 20 < jn
  · have k3 : decide ((20 : Int) < (jn : Int)) = true := by simp; omega
    go_enter Tryz.func14, Tryz.ntmps14
    go_wp2_with fail
    rw [← hw0]
    clear hw0
    go_wp2_with fail
    go_ret
    exact ⟨false, rfl, fun q => (by cases q), HB0.out⟩
  have k3 : decide ((20 : Int) < (jn : Int)) = false := by simp; omega
  have HQ : Hid (R.ps.length ≤ 15 ∧ R.cs.length ≤ 20 ∧ R.js.length ≤ 20) := ⟨by rw [← hlp.out]; omega, by rw [← hlc.out]; omega, by rw [← hlj.out]; omega⟩
  have hp5 : pn ≤ 100000 := by omega
  clear g1 g2 g3
  go_enter Tryz.func14, Tryz.ntmps14
  go_wp2_with fail
  rw [← hw0]
  clear hw0
  go_wp2_with fail
  refine HVAL.out.mono ?_
  rintro e w1 ⟨rfl, hb⟩
  have HB1 := Lib.hid (HB0.out.trans (hb.mono HB0.out.size))
  have HX1 := Lib.hid (HX0.out.below hb HX0.out.lt)
  clear hb r0 r1 r2
  cases hv : val R with
  | false =>
    clear hv
    go_wp2_with fail
    go_ret
    exact ⟨false, rfl, fun q => (by cases q), HB1.out⟩
  | true =>
    have HOK := Lib.hid ((val_iff R).1 hv)
    obtain ⟨r0, r1, r2⟩ := roadbk HX1.out
    clear hv
    go_wp2_with fail
    refine (rLength_any pa pn pc ca cn cc ja jn jc R _ (HR.out.grow HB1.out HB1.out.size) HOK.out.pk hp5).mono ?_
    rintro e w2 ⟨rfl, hb⟩
    have HB2 := Lib.hid (HB1.out.trans (hb.mono HB1.out.size))
    clear hb
    go_wp2_with fail
    go_ret
    exact ⟨_, rfl, fun q => ⟨HOK.out, HQ.out.1, HQ.out.2.1, HQ.out.2.2, of_decide_eq_true q⟩, HB2.out⟩
end Go.Proofs.YtogkmnopggmdjaaGreatDoor

/- A run that takes longer than necessary, as far as the speeds allow: plain; what the small functions of TopWarned tell. -/
namespace Go.Proofs.YtogkmnopggmdjaaGreatDoor
open Go.RowKit Go.Shelf Go.Sort Go.Proofs

/-- How much longer a meter takes at most. -/
def moreAt (us : List Int) (k : Nat) : Int := max 0 (min ((us[k % us.length]?).getD 0) 100000000)
def runW (S : Spd) (R : Road) (us : List Int) : Nat → Int
  | 0 => 0
  | k + 1 => runW S R us k + min (tSl S R.ps (k + 1) - tSl S R.ps k) (tQ S R.ps (k + 1) - tQ S R.ps k + moreAt us k)
theorem runW_runs {S : Spd} {R : Road} (hS : SOK S) (hv : OK R) {N : Nat} (hN : sumL R.ps = N) (us : List Int) : Runs S R N (runW S R us) := by
  have h0 := runV_runs hS hv hN us
  refine ⟨rfl, fun k hk => ?_⟩
  have h1 := h0.d k hk
  have h2 : 0 ≤ moreAt us k := by unfold moreAt; omega
  have h3 : runW S R us (k + 1) = runW S R us k + min (tSl S R.ps (k + 1) - tSl S R.ps k) (tQ S R.ps (k + 1) - tQ S R.ps k + moreAt us k) := rfl
  omega
theorem runL_succ (N : Nat) (v : Nat → Int) : runL (N + 1) v = runL N v ++ [v (N + 1)] := by
  unfold runL
  rw [List.range'_concat]
  simp
theorem nTxt_known : nTxt ⟨1, 1, 3, 1, 0, 0, 0, 0, 0, 0⟩ = [82, 51, 32, 108, 111, 110, 103] := by
  simp [nTxt, itoa_3]
theorem lastR_known : lastR ⟨1, 1, 3, 1, 0, 0, 0, 0, 0, 0⟩ 500000 100000 = (1100000, 0) := by
  unfold lastR lastV
  rw [if_pos (by decide), if_pos (by decide), nTxt_known]
  rfl
set_option maxRecDepth 100000 in
set_option maxHeartbeats 4000000 in
theorem known03_any (w : World) (ht : Lib.TabIs Tryz.prog w pow10N .u64 Lib.pow10Tab) : Calls Tryz.prog 16 #[] w fun e w' => e = .returned (.bool true) ∧ Below w.heap.size w w' := by
  have hk := pLasts_any 1 1 3 1 0 0 0 0 0 0 500000 100000 w ht
  rw [lastR_known] at hk
  go_enter Tryz.func16, Tryz.ntmps16
  go_wp2_with fail
  refine hk.mono ?_
  rintro e w1 ⟨rfl, hb⟩
  have HB := Lib.hid hb
  clear hb hk
  go_wp2_with fail
  go_ret
  exact ⟨rfl, HB.out⟩
theorem sp4 {w : World} {g : Nat} {v0 v1 v2 v3 : Value} (h : BK w g 60 #[v0, v1, v2, v3]) : w.cell? ⟨g, 0, none⟩ = some v0 ∧ w.cell? ⟨g, 1, none⟩ = some v1 ∧ w.cell? ⟨g, 2, none⟩ = some v2 ∧ w.cell? ⟨g, 3, none⟩ = some v3 := by
  have c0 := h.cell 0
  have c1 := h.cell 1
  have c2 := h.cell 2
  have c3 := h.cell 3
  simp only [List.getElem?_toArray, List.getElem?_cons_zero, List.getElem?_cons_succ] at c0 c1 c2 c3
  exact ⟨c0, c1, c2, c3⟩
theorem sp2 {w : World} {g : Nat} {t : TypeId} {v0 v1 : Value} (h : BK w g t #[v0, v1]) : w.cell? ⟨g, 0, none⟩ = some v0 ∧ w.cell? ⟨g, 1, none⟩ = some v1 := by
  have c0 := h.cell 0
  have c1 := h.cell 1
  simp only [List.getElem?_toArray, List.getElem?_cons_zero, List.getElem?_cons_succ] at c0 c1
  exact ⟨c0, c1⟩
set_option maxRecDepth 100000 in
set_option maxHeartbeats 4000000 in
theorem rows_any (ra : Option Addr) (rn rc : Nat) (sa : Option Addr) (sn sc : Nat) (S : Spd) (w : World) (h : SD w w.heap.size ra rn sa sn S) :
    Calls Tryz.prog 15 #[.agg #[.int .i64 S.least, .int .i64 S.most, .slice ra rn rc, .slice sa sn sc]] w fun e w' => ∃ m, e = .returned (.bool m) ∧ (m = true → SOK S) ∧ Below w.heap.size w w' := by
  obtain ⟨w0, hw0⟩ : ∃ w0, w0 = w.alloc (.cells #[.int .i64 S.least, .int .i64 S.most, .slice ra rn rc, .slice sa sn sc] 60) := ⟨_, rfl⟩
  have hB0 : Below w.heap.size w w0 := by rw [hw0]; exact (Below.refl w.heap.size w).alloc (Nat.le_refl _) _
  have hX0 : BK w0 w.heap.size 60 #[.int .i64 S.least, .int .i64 S.most, .slice ra rn rc, .slice sa sn sc] := by rw [hw0]; exact BK.new w _ _
  have HC := Lib.hid (RSpeeds_any ra rn rc sa sn sc S w0 (h.grow hB0 hB0.size))
  have HB0 := Lib.hid hB0
  obtain ⟨x0, x1, x2, x3⟩ := sp4 hX0
  clear hX0 hB0 h
  by_cases g1 : rn ≤ 30
  case neg =>
    have k1 : decide ((rn : Int) ≤ 30) = false := decide_eq_false (by omega)
    clear g1
    go_enter Tryz.func15, Tryz.ntmps15
    go_wp2_with fail
    rw [← hw0]
    clear hw0
    go_wp2_with fail
    go_ret
    exact ⟨false, rfl, fun q => (by cases q), HB0.out⟩
  have k1 : decide ((rn : Int) ≤ 30) = true := decide_eq_true (by omega)
  by_cases g2 : sn ≤ 9
  case neg =>
    have k2 : decide ((sn : Int) ≤ 9) = false := decide_eq_false (by omega)
    clear g1 g2
    go_enter Tryz.func15, Tryz.ntmps15
    go_wp2_with fail
    rw [← hw0]
    clear hw0
    go_wp2_with fail
    go_ret
    exact ⟨false, rfl, fun q => (by cases q), HB0.out⟩
  have k2 : decide ((sn : Int) ≤ 9) = true := decide_eq_true (by omega)
  clear g1 g2
  go_enter Tryz.func15, Tryz.ntmps15
  go_wp2_with fail
  rw [← hw0]
  clear hw0
  go_wp2_with fail
  refine HC.out.mono ?_
  rintro e w1 ⟨rfl, hb⟩
  have HB1 := Lib.hid (HB0.out.trans (hb.mono HB0.out.size))
  clear hb x0 x1 x2 x3 HC
  go_wp2_with fail
  go_ret
  exact ⟨_, rfl, fun q => (spB_iff S).1 q, HB1.out⟩
set_option maxRecDepth 100000 in
set_option maxHeartbeats 4000000 in
theorem called_any (ka : Option Addr) (kn kc : Nat) (cs : List CallR) (P : Int) (w : World) (h : SL caC 5 w w.heap.size ka kn cs) (hn : kn ≤ 100000) {i : Nat} {x : CallR} (hx : cs[i]? = some x) (hp : x.place = P) :
    Calls Tryz.prog 22 #[.slice ka kn kc, .int .i64 P] w fun e w' => e = .returned (.bool true) ∧ w' = w := by
  have HL := Lib.hid h.1
  have HS := Lib.hid h
  obtain ⟨hi, hx⟩ := List.getElem?_eq_some_iff.1 hx
  have hin : i < kn := by rw [h.1]; exact hi
  have HX : Hid (∀ j (hj : j < cs.length), j = i → (cs[j]'hj).place = P) := by
    intro j hj e
    subst e
    rw [hx]
    exact hp
  clear h hx hp
  go_enter Tryz.func22, Tryz.ntmps22
  go_wp2_with fail
  go_loopw [5] (fun iv wr => ∃ k : Nat, k ≤ i ∧ iv = .int .i64 k ∧ wr = w) (fun iv _ => kn - (intOf iv).toNat)
  case atStart => exact ⟨0, Nat.zero_le _, rfl, rfl⟩
  case round =>
    obtain ⟨k, hk, rfl, rfl⟩ := hrel
    have hkn : k < kn := by omega
    have hkl : k < cs.length := by rw [← HL.out]; exact hkn
    have hki : (k : Int) < (kn : Int) := by omega
    obtain ⟨b, off, hA, hbB, hc⟩ := HS.out.at_ hkl
    have c0 := hc 0 _ rfl
    rw [Nat.add_zero] at c0
    have HE := Lib.hid (HX.out k hkl)
    generalize (cs[k]'hkl).place = q at *
    subst hA
    clear hc hbB
    by_cases he : q = P
    · have g0 : (q == P) = true := by simpa using he
      clear he
      go_wp2_with fail
      go_ret
      exact ⟨rfl, rfl⟩
    · have g0 : (q == P) = false := by simpa using he
      have hne : k ≠ i := fun e => he (HE.out e)
      clear he
      go_wp2_with fail
      go_roundw
      case rel => exact ⟨k + 1, by omega, by go_num, trivial⟩
      case measure => simp [intOf]; omega
end Go.Proofs.YtogkmnopggmdjaaGreatDoor
