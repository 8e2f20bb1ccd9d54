/- Reading aloud: by a good plan each call ends in time, during each run that the speeds allow: plain. No program in sight. -/
import Derived.Test.YtijcbfhlhgjedaaDoorPCRCallsB
import Derived.Test.YtijcbfhlhgjedaaDoorPFits
namespace Go.Proofs.YtijcbfhlhgjedaaDoor
open Go.RowKit Go.Shelf Go.Sort Go.Proofs

/-- A run that the speeds allow: its times, place by place. -/
structure Runs (S : Spd) (R : Road) (N : Nat) (v : Nat → Int) : Prop where
  z : v 0 = 0
  d : ∀ k, k < N → tQ S R.ps (k + 1) - tQ S R.ps k ≤ v (k + 1) - v k ∧ v (k + 1) - v k ≤ tSl S R.ps (k + 1) - tSl S R.ps k
theorem Runs.le {S : Spd} {R : Road} {N : Nat} {v : Nat → Int} (h : Runs S R N v) {a : Nat} : ∀ d : Nat, a + d ≤ N → tQ S R.ps (a + d) - tQ S R.ps a ≤ v (a + d) - v a ∧ v (a + d) - v a ≤ tSl S R.ps (a + d) - tSl S R.ps a
  | 0, _ => by simp
  | d + 1, hd => by
    have h1 := h.le (a := a) d (by omega)
    have h2 := h.d (a + d) (by omega)
    rw [← Nat.add_assoc]
    omega
theorem Runs.at_ {S : Spd} {R : Road} {N : Nat} {v : Nat → Int} (h : Runs S R N v) {a b : Nat} (hab : a ≤ b) (hb : b ≤ N) : tQ S R.ps b - tQ S R.ps a ≤ v b - v a ∧ v b - v a ≤ tSl S R.ps b - tSl S R.ps a := by
  have := h.le (a := a) (b - a) (by omega)
  rwa [show a + (b - a) = b by omega] at this
theorem Runs.bd {S : Spd} {R : Road} {N : Nat} {v : Nat → Int} (h : Runs S R N v) (hS : SOK S) (hv : OK R) {b : Nat} (hb : b ≤ N) : 0 ≤ v b ∧ v b ≤ 1000070000000 := by
  have h1 := h.at_ (Nat.zero_le b) hb
  have h2 := tSl_bd hS hv b
  have h3 := tQ_bd hS hv b
  rw [h.z, tQ_zero, tSl_zero] at h1
  omega
theorem Runs.up {S : Spd} {R : Road} {N : Nat} {v : Nat → Int} (h : Runs S R N v) (hS : SOK S) (hv : OK R) {a b : Nat} (hab : a ≤ b) (hb : b ≤ N) : v a ≤ v b := by
  have h1 := (h.at_ hab hb).1
  have h2 := tQ_mono hS hv hab
  omega
/-- The share of what a meter can take. -/
def shareAt (sh : List Int) (i : Nat) : Int := match sh[i]? with
  | some s => min 100 (max 0 s)
  | none => 0
/-- The run that takes these shares. -/
def runV (S : Spd) (R : Road) (sh : List Int) : Nat → Int
  | 0 => 0
  | k + 1 => runV S R sh k + (tQ S R.ps (k + 1) - tQ S R.ps k) + ((tSl S R.ps (k + 1) - tSl S R.ps k) - (tQ S R.ps (k + 1) - tQ S R.ps k)) * shareAt sh k / 100
theorem shareAt_bd (sh : List Int) (i : Nat) : 0 ≤ shareAt sh i ∧ shareAt sh i ≤ 100 := by
  unfold shareAt
  split
  · omega
  · omega
theorem mQ_le_mSl {S : Spd} (hS : SOK S) {p : Piece} (hp : pOk p = true) : mQ S p ≤ mSl S p := by
  obtain ⟨a1, a2, a3⟩ := rowS_bd hS p
  obtain ⟨b1, b2⟩ := surS_bd hS hp
  have hm : mQ S p = 10000000 / (((rowS S p).2 * surS S p + 99) / 100) := rfl
  have hs : mSl S p = (10000000 + max 1 ((rowS S p).1 * surS S p / 100) - 1) / max 1 ((rowS S p).1 * surS S p / 100) := rfl
  rw [hm, hs]
  have h1 : (rowS S p).1 * surS S p ≤ (rowS S p).2 * surS S p := Int.mul_le_mul_of_nonneg_right a2 (by omega)
  have h0 : 1 * 1 ≤ (rowS S p).1 * surS S p := Int.mul_le_mul a1 b1 (by omega) (by omega)
  generalize (rowS S p).1 * surS S p = x at *
  generalize (rowS S p).2 * surS S p = y at *
  obtain ⟨l, hl⟩ : ∃ l, l = max 1 (x / 100) := ⟨_, rfl⟩
  obtain ⟨h, hh⟩ : ∃ h, h = (y + 99) / 100 := ⟨_, rfl⟩
  rw [← hl, ← hh]
  have hlh : l ≤ h := by omega
  have hl1 : 1 ≤ l := by omega
  clear hl hh
  have e1 : 10000000 / h ≤ 10000000 / l := by
    refine (Int.le_ediv_iff_mul_le (by omega)).2 ?_
    have h3 : 10000000 / h * l ≤ 10000000 / h * h := Int.mul_le_mul_of_nonneg_left hlh (Int.ediv_nonneg (by omega) (by omega))
    have h4 := Int.ediv_mul_le 10000000 (show h ≠ 0 by omega)
    omega
  have e2 : 10000000 / l ≤ (10000000 + l - 1) / l := Int.ediv_le_ediv (by omega) (by omega)
  omega
theorem runV_runs {S : Spd} {R : Road} (hS : SOK S) (hv : OK R) {N : Nat} (hN : sumL R.ps = N) (sh : List Int) : Runs S R N (runV S R sh) := by
  refine ⟨rfl, fun k hk => ?_⟩
  obtain ⟨p, hp, hx, -⟩ := meter_at hS hv (k := k) (by rw [hN]; omega)
  have h1 := tQ_succ S R.ps hx
  have h2 := tSl_succ S R.ps hx
  have h3 := mQ_le_mSl hS hp
  rw [mQ_one] at h1
  rw [mSl_one] at h2
  obtain ⟨s0, s1⟩ := shareAt_bd sh k
  rw [runV]
  obtain ⟨a, ha⟩ : ∃ a, a = tQ S R.ps (k + 1) - tQ S R.ps k := ⟨_, rfl⟩
  obtain ⟨b, hb⟩ : ∃ b, b = tSl S R.ps (k + 1) - tSl S R.ps k := ⟨_, rfl⟩
  rw [← ha, ← hb]
  have hab : 0 ≤ b - a := by omega
  have m1 : 0 ≤ (b - a) * shareAt sh k := Int.mul_nonneg hab s0
  have m2 : (b - a) * shareAt sh k ≤ (b - a) * 100 := Int.mul_le_mul_of_nonneg_left s1 hab
  omega
end Go.Proofs.YtijcbfhlhgjedaaDoor
