/- Reading aloud: by a good plan each call ends in time, during each run that the speeds allow: plain. No program in sight. -/
import Derived.Test.YtijcbfhlhgjedaaDoorLate3
import Derived.Test.YtijcbfhlhgjedaaDoorSaid
import Derived.Test.YtijcbfhlhgjedaaDoorFits
namespace Go.Proofs.YtijcbfhlhgjedaaDoor
open Go.RowKit Go.Shelf Go.Sort Go.Proofs

theorem lsum_cons (cs : List CallR) (m k : Nat) (h : m < cs.length) : lsum cs m (k + 1) = (cs[m]'h).lasts + lsum cs (m + 1) k := by
  unfold lsum
  rw [List.drop_eq_getElem_cons h, List.take_succ_cons, List.map_cons, List.sum_cons]
/-- A run that the speeds allow: its times, place by place. -/
structure Runs (S : Spd) (R : Road) (N : Nat) (v : Nat → Int) : Prop where
  z : v 0 = 0
  d : ∀ k, k < N → tQ S R.ps (k + 1) - tQ S R.ps k ≤ v (k + 1) - v k ∧ v (k + 1) - v k ≤ tSl S R.ps (k + 1) - tSl S R.ps k
theorem Runs.le {S : Spd} {R : Road} {N : Nat} {v : Nat → Int} (h : Runs S R N v) {a : Nat} : ∀ d : Nat, a + d ≤ N → tQ S R.ps (a + d) - tQ S R.ps a ≤ v (a + d) - v a ∧ v (a + d) - v a ≤ tSl S R.ps (a + d) - tSl S R.ps a
  | 0, _ => by simp
  | d + 1, hd => by
    have h1 := h.le (a := a) d (by omega)
    have h2 := h.d (a + d) (by omega)
    rw [← Nat.add_assoc]
    omega
theorem Runs.at_ {S : Spd} {R : Road} {N : Nat} {v : Nat → Int} (h : Runs S R N v) {a b : Nat} (hab : a ≤ b) (hb : b ≤ N) : tQ S R.ps b - tQ S R.ps a ≤ v b - v a ∧ v b - v a ≤ tSl S R.ps b - tSl S R.ps a := by
  have := h.le (a := a) (b - a) (by omega)
  rwa [show a + (b - a) = b by omega] at this
theorem Runs.bd {S : Spd} {R : Road} {N : Nat} {v : Nat → Int} (h : Runs S R N v) (hS : SOK S) (hv : OK R) {b : Nat} (hb : b ≤ N) : 0 ≤ v b ∧ v b ≤ 1000070000000 := by
  have h1 := h.at_ (Nat.zero_le b) hb
  have h2 := tSl_bd hS hv b
  have h3 := tQ_bd hS hv b
  rw [h.z, tQ_zero, tSl_zero] at h1
  omega
theorem Runs.up {S : Spd} {R : Road} {N : Nat} {v : Nat → Int} (h : Runs S R N v) (hS : SOK S) (hv : OK R) {a b : Nat} (hab : a ≤ b) (hb : b ≤ N) : v a ≤ v b := by
  have h1 := (h.at_ hab hb).1
  have h2 := tQ_mono hS hv hab
  omega
/-- The list of a run's times. -/
def runL (N : Nat) (v : Nat → Int) : List Int := (List.range' 0 (N + 1)).map v
theorem runL_len (N : Nat) (v : Nat → Int) : (runL N v).length = N + 1 := by simp [runL]
theorem runL_at {N : Nat} {v : Nat → Int} {k : Nat} (h : k ≤ N) : (runL N v)[k]? = some (v k) := by
  simp [runL, Nat.lt_succ_of_le h]
theorem runAt_L {N : Nat} {v : Nat → Int} {k : Nat} (h : k ≤ N) : runAt (runL N v) (k : Int) = v k := by
  unfold runAt
  rw [Int.toNat_natCast, List.getD, runL_at h]
  rfl
theorem runs_tok {S : Spd} {R : Road} {N : Nat} {v : Nat → Int} (h : Runs S R N v) (hS : SOK S) (hv : OK R) : TOK maxR (N + 1) (runL N v) := by
  refine ⟨runL_len N v, fun i hi x hx => ?_⟩
  rw [runL_len] at hi
  rw [runL_at (by omega)] at hx
  cases hx
  have h1 := h.bd hS hv (b := i) (by omega)
  have e : maxR = 1125899906842624 := rfl
  refine ⟨by rw [e]; simp [inR]; omega, fun y h0 hy => ?_⟩
  rw [runL_at (by omega)] at hy
  cases hy
  exact h.up hS hv (by omega) (by omega)
theorem runs_fit {S : Spd} {R : Road} {N : Nat} {v : Nat → Int} (h : Runs S R N v) : fitM S R [] (runL N v) = true := by
  rw [fitM_yes (fun i hi => ?_)]
  · rfl
  · rw [runL_len] at hi
    cases i with
    | zero => rw [okI_0 (runL_at (Nat.zero_le N)), h.z]; rfl
    | succ i =>
      rw [okI_s (runL_at (by omega)) (runL_at (by omega))]
      have := h.d i (by omega)
      simp only [Bool.and_eq_true, decide_eq_true_eq]
      exact this
/-- Each call that is read ends so early that all later ones are in time. -/
theorem heard_all {S : Spd} {R : Road} {cs : List CallR} {ls : List Int} {N : Nat} {v : Nat → Int} (hS : SOK S) (hv : OK R) (hN : sumL R.ps = N) (hc : COK (sumL R.ps) cs) (ht : TOK (sumL R.ps) cs.length ls) (hr : Runs S R N v)
    (hg : ∀ j, j < cs.length → goodAt S R cs ls j = true) : ∀ m : Nat, m < cs.length → ∀ (i z : Nat) (h : i < cs.length), m ≤ i → (cs[i]'h).place = (z : Int) → endAt cs ls (runL N v) (m + 1) + lsum cs (m + 1) (i - m) + (cs[i]'h).lead ≤ v z := by
  intro m
  induction m with
  | zero =>
    intro hm i z hi _ hz
    obtain ⟨q, y, h1, h2, h3, h4⟩ := tok_at hc ht hm
    have g1 := ((goodAt_iff hm h1 h3).1 (hg 0 hm)).1
    have g2 := okTo_iff.1 g1 i (Nat.zero_le i) hi
    rw [hN] at h2 h4
    have hpi := (hc.k i hi _ (List.getElem?_eq_getElem hi)).1
    rw [hz, hN] at hpi
    simp only [inR, Bool.and_eq_true, decide_eq_true_eq] at hpi
    rw [endAt_succ hm h1 (runL_at (by omega))]
    unfold lateD at g2
    rw [List.getElem?_eq_getElem hi] at g2
    simp only [Bool.or_eq_false_iff, decide_eq_false_iff_not] at g2
    rw [hz, Int.toNat_natCast] at g2
    have h5 := (hr.at_ (a := q) (b := z) (by omega) (by omega)).1
    have h6 := (hr.bd hS hv (b := q) (by omega)).1
    have h7 := lsum_cons cs 0 (i - 0) hm
    rw [show i - 0 + 1 = i + 1 - 0 by omega] at h7
    rw [show endAt cs ls (runL N v) 0 = 0 from rfl, Int.max_eq_right h6]
    omega
  | succ m ih =>
    intro hm i z hi hmi hz
    obtain ⟨q, y, h1, h2, h3, h4⟩ := tok_at hc ht hm
    have g1 := ((goodAt_iff hm h1 h3).1 (hg (m + 1) hm)).1
    have g2 := okTo_iff.1 g1 i hmi hi
    rw [hN] at h2 h4
    have hpi := (hc.k i hi _ (List.getElem?_eq_getElem hi)).1
    rw [hz, hN] at hpi
    simp only [inR, Bool.and_eq_true, decide_eq_true_eq] at hpi
    rw [endAt_succ hm h1 (runL_at (by omega))]
    unfold lateD at g2
    rw [List.getElem?_eq_getElem hi] at g2
    simp only [Bool.or_eq_false_iff, decide_eq_false_iff_not] at g2
    rw [hz, Int.toNat_natCast] at g2
    have h5 := (hr.at_ (a := q) (b := z) (by omega) (by omega)).1
    have h7 := lsum_cons cs (m + 1) (i - (m + 1)) hm
    rw [show i - (m + 1) + 1 = i + 1 - (m + 1) by omega] at h7
    have h8 := ih (by omega) i z hi (by omega) hz
    rw [show i - m = i + 1 - (m + 1) by omega] at h8
    omega
/-- The theorem of reading aloud. -/
theorem heard {S : Spd} {R : Road} {cs : List CallR} {ls : List Int} {N : Nat} {v : Nat → Int} (hS : SOK S) (hv : OK R) (hN : sumL R.ps = N) (hc : COK (sumL R.ps) cs) (ht : TOK (sumL R.ps) cs.length ls) (hr : Runs S R N v)
    (hg : ∀ j, j < cs.length → goodAt S R cs ls j = true) {i : Nat} (hi : i < cs.length) :
    ∃ q z : Nat, ls[i]? = some (q : Int) ∧ (cs[i]'hi).place = (z : Int) ∧ q ≤ N ∧ z ≤ N ∧ endAt cs ls (runL N v) (i + 1) + (cs[i]'hi).lead ≤ v z ∧ v z - v q ≤ (cs[i]'hi).ahead := by
  obtain ⟨q, z, h1, h2, h3, h4⟩ := tok_at hc ht hi
  rw [hN] at h2 h4
  have g := (goodAt_iff hi h1 h3).1 (hg i hi)
  have h5 := heard_all hS hv hN hc ht hr hg i hi i z hi (Nat.le_refl _) h3
  rw [Nat.sub_self] at h5
  have h6 : lsum cs (i + 1) 0 = 0 := by simp [lsum]
  have h7 := (hr.at_ (a := q) (b := z) (ok_place hi h3 g.1) (by omega)).2
  exact ⟨q, z, h1, h3, by omega, by omega, by omega, by omega⟩
/-- The share of what a meter can take. -/
def shareAt (sh : List Int) (i : Nat) : Int := match sh[i]? with
  | some s => min 100 (max 0 s)
  | none => 0
/-- The run that takes these shares. -/
def runV (S : Spd) (R : Road) (sh : List Int) : Nat → Int
  | 0 => 0
  | k + 1 => runV S R sh k + (tQ S R.ps (k + 1) - tQ S R.ps k) + ((tSl S R.ps (k + 1) - tSl S R.ps k) - (tQ S R.ps (k + 1) - tQ S R.ps k)) * shareAt sh k / 100
theorem shareAt_bd (sh : List Int) (i : Nat) : 0 ≤ shareAt sh i ∧ shareAt sh i ≤ 100 := by
  unfold shareAt
  split
  · omega
  · omega
theorem mQ_le_mSl {S : Spd} (hS : SOK S) {p : Piece} (hp : pOk p = true) : mQ S p ≤ mSl S p := by
  obtain ⟨a1, a2, a3⟩ := rowS_bd hS p
  obtain ⟨b1, b2⟩ := surS_bd hS hp
  have hm : mQ S p = 10000000 / (((rowS S p).2 * surS S p + 99) / 100) := rfl
  have hs : mSl S p = (10000000 + max 1 ((rowS S p).1 * surS S p / 100) - 1) / max 1 ((rowS S p).1 * surS S p / 100) := rfl
  rw [hm, hs]
  have h1 : (rowS S p).1 * surS S p ≤ (rowS S p).2 * surS S p := Int.mul_le_mul_of_nonneg_right a2 (by omega)
  have h0 : 1 * 1 ≤ (rowS S p).1 * surS S p := Int.mul_le_mul a1 b1 (by omega) (by omega)
  generalize (rowS S p).1 * surS S p = x at *
  generalize (rowS S p).2 * surS S p = y at *
  obtain ⟨l, hl⟩ : ∃ l, l = max 1 (x / 100) := ⟨_, rfl⟩
  obtain ⟨h, hh⟩ : ∃ h, h = (y + 99) / 100 := ⟨_, rfl⟩
  rw [← hl, ← hh]
  have hlh : l ≤ h := by omega
  have hl1 : 1 ≤ l := by omega
  clear hl hh
  have e1 : 10000000 / h ≤ 10000000 / l := by
    refine (Int.le_ediv_iff_mul_le (by omega)).2 ?_
    have h3 : 10000000 / h * l ≤ 10000000 / h * h := Int.mul_le_mul_of_nonneg_left hlh (Int.ediv_nonneg (by omega) (by omega))
    have h4 := Int.ediv_mul_le 10000000 (show h ≠ 0 by omega)
    omega
  have e2 : 10000000 / l ≤ (10000000 + l - 1) / l := Int.ediv_le_ediv (by omega) (by omega)
  omega
theorem runV_runs {S : Spd} {R : Road} (hS : SOK S) (hv : OK R) {N : Nat} (hN : sumL R.ps = N) (sh : List Int) : Runs S R N (runV S R sh) := by
  refine ⟨rfl, fun k hk => ?_⟩
  obtain ⟨p, hp, hx, -⟩ := meter_at hS hv (k := k) (by rw [hN]; omega)
  have h1 := tQ_succ S R.ps hx
  have h2 := tSl_succ S R.ps hx
  have h3 := mQ_le_mSl hS hp
  rw [mQ_one] at h1
  rw [mSl_one] at h2
  obtain ⟨s0, s1⟩ := shareAt_bd sh k
  rw [runV]
  obtain ⟨a, ha⟩ : ∃ a, a = tQ S R.ps (k + 1) - tQ S R.ps k := ⟨_, rfl⟩
  obtain ⟨b, hb⟩ : ∃ b, b = tSl S R.ps (k + 1) - tSl S R.ps k := ⟨_, rfl⟩
  rw [← ha, ← hb]
  have hab : 0 ≤ b - a := by omega
  have m1 : 0 ≤ (b - a) * shareAt sh k := Int.mul_nonneg hab s0
  have m2 : (b - a) * shareAt sh k ≤ (b - a) * 100 := Int.mul_le_mul_of_nonneg_left s1 hab
  omega
end Go.Proofs.YtijcbfhlhgjedaaDoor
