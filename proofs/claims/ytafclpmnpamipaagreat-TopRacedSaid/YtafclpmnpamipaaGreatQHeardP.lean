/- Reading aloud: by a good plan each call ends in time, during each run that the speeds allow: plain. No program in sight. -/
import Derived.Test.YtafclpmnpamipaaGreatQOpenS
import Derived.Test.YtafclpmnpamipaaGreatQFits
namespace Go.Proofs.YtafclpmnpamipaaGreat
open Go.RowKit Go.Shelf Go.Sort Go.Proofs

/-- A run that the speeds allow: its times, place by place. -/
structure Runs (S : Spd) (R : Road) (N : Nat) (v : Nat → Int) : Prop where
  z : v 0 = 0
  d : ∀ k, k < N → tQ S R.ps (k + 1) - tQ S R.ps k ≤ v (k + 1) - v k ∧ v (k + 1) - v k ≤ tSl S R.ps (k + 1) - tSl S R.ps k
theorem Runs.le {S : Spd} {R : Road} {N : Nat} {v : Nat → Int} (h : Runs S R N v) {a : Nat} : ∀ d : Nat, a + d ≤ N → tQ S R.ps (a + d) - tQ S R.ps a ≤ v (a + d) - v a ∧ v (a + d) - v a ≤ tSl S R.ps (a + d) - tSl S R.ps a
  | 0, _ => by simp
  | d + 1, hd => by
    have h1 := h.le (a := a) d (by omega)
    have h2 := h.d (a + d) (by omega)
    rw [← Nat.add_assoc]
    omega
theorem Runs.at_ {S : Spd} {R : Road} {N : Nat} {v : Nat → Int} (h : Runs S R N v) {a b : Nat} (hab : a ≤ b) (hb : b ≤ N) : tQ S R.ps b - tQ S R.ps a ≤ v b - v a ∧ v b - v a ≤ tSl S R.ps b - tSl S R.ps a := by
  have := h.le (a := a) (b - a) (by omega)
  rwa [show a + (b - a) = b by omega] at this
theorem Runs.bd {S : Spd} {R : Road} {N : Nat} {v : Nat → Int} (h : Runs S R N v) (hS : SOK S) (hv : OK R) {b : Nat} (hb : b ≤ N) : 0 ≤ v b ∧ v b ≤ 1000070000000 := by
  have h1 := h.at_ (Nat.zero_le b) hb
  have h2 := tSl_bd hS hv b
  have h3 := tQ_bd hS hv b
  rw [h.z, tQ_zero, tSl_zero] at h1
  omega
theorem Runs.up {S : Spd} {R : Road} {N : Nat} {v : Nat → Int} (h : Runs S R N v) (hS : SOK S) (hv : OK R) {a b : Nat} (hab : a ≤ b) (hb : b ≤ N) : v a ≤ v b := by
  have h1 := (h.at_ hab hb).1
  have h2 := tQ_mono hS hv hab
  omega
/-- The list of a run's times. -/
def runL (N : Nat) (v : Nat → Int) : List Int := (List.range' 0 (N + 1)).map v
theorem runL_len (N : Nat) (v : Nat → Int) : (runL N v).length = N + 1 := by simp [runL]
theorem runL_at {N : Nat} {v : Nat → Int} {k : Nat} (h : k ≤ N) : (runL N v)[k]? = some (v k) := by
  simp [runL, Nat.lt_succ_of_le h]
/-- The share of what a meter can take. -/
def shareAt (sh : List Int) (i : Nat) : Int := match sh[i]? with
  | some s => min 100 (max 0 s)
  | none => 0
/-- The run that takes these shares. -/
def runV (S : Spd) (R : Road) (sh : List Int) : Nat → Int
  | 0 => 0
  | k + 1 => runV S R sh k + (tQ S R.ps (k + 1) - tQ S R.ps k) + ((tSl S R.ps (k + 1) - tSl S R.ps k) - (tQ S R.ps (k + 1) - tQ S R.ps k)) * shareAt sh k / 100
theorem shareAt_bd (sh : List Int) (i : Nat) : 0 ≤ shareAt sh i ∧ shareAt sh i ≤ 100 := by
  unfold shareAt
  split
  · omega
  · omega
theorem mQ_le_mSl {S : Spd} (hS : SOK S) {p : Piece} (hp : pOk p = true) : mQ S p ≤ mSl S p := by
  obtain ⟨a1, a2, a3⟩ := rowS_bd hS p
  obtain ⟨b1, b2⟩ := surS_bd hS hp
  have hm : mQ S p = 10000000 / (((rowS S p).2 * surS S p + 99) / 100) := rfl
  have hs : mSl S p = (10000000 + max 1 ((rowS S p).1 * surS S p / 100) - 1) / max 1 ((rowS S p).1 * surS S p / 100) := rfl
  rw [hm, hs]
  have h1 : (rowS S p).1 * surS S p ≤ (rowS S p).2 * surS S p := Int.mul_le_mul_of_nonneg_right a2 (by omega)
  have h0 : 1 * 1 ≤ (rowS S p).1 * surS S p := Int.mul_le_mul a1 b1 (by omega) (by omega)
  generalize (rowS S p).1 * surS S p = x at *
  generalize (rowS S p).2 * surS S p = y at *
  obtain ⟨l, hl⟩ : ∃ l, l = max 1 (x / 100) := ⟨_, rfl⟩
  obtain ⟨h, hh⟩ : ∃ h, h = (y + 99) / 100 := ⟨_, rfl⟩
  rw [← hl, ← hh]
  have hlh : l ≤ h := by omega
  have hl1 : 1 ≤ l := by omega
  clear hl hh
  have e1 : 10000000 / h ≤ 10000000 / l := by
    refine (Int.le_ediv_iff_mul_le (by omega)).2 ?_
    have h3 : 10000000 / h * l ≤ 10000000 / h * h := Int.mul_le_mul_of_nonneg_left hlh (Int.ediv_nonneg (by omega) (by omega))
    have h4 := Int.ediv_mul_le 10000000 (show h ≠ 0 by omega)
    omega
  have e2 : 10000000 / l ≤ (10000000 + l - 1) / l := Int.ediv_le_ediv (by omega) (by omega)
  omega
theorem runV_runs {S : Spd} {R : Road} (hS : SOK S) (hv : OK R) {N : Nat} (hN : sumL R.ps = N) (sh : List Int) : Runs S R N (runV S R sh) := by
  refine ⟨rfl, fun k hk => ?_⟩
  obtain ⟨p, hp, hx, -⟩ := meter_at hS hv (k := k) (by rw [hN]; omega)
  have h1 := tQ_succ S R.ps hx
  have h2 := tSl_succ S R.ps hx
  have h3 := mQ_le_mSl hS hp
  rw [mQ_one] at h1
  rw [mSl_one] at h2
  obtain ⟨s0, s1⟩ := shareAt_bd sh k
  rw [runV]
  obtain ⟨a, ha⟩ : ∃ a, a = tQ S R.ps (k + 1) - tQ S R.ps k := ⟨_, rfl⟩
  obtain ⟨b, hb⟩ : ∃ b, b = tSl S R.ps (k + 1) - tSl S R.ps k := ⟨_, rfl⟩
  rw [← ha, ← hb]
  have hab : 0 ≤ b - a := by omega
  have m1 : 0 ≤ (b - a) * shareAt sh k := Int.mul_nonneg hab s0
  have m2 : (b - a) * shareAt sh k ≤ (b - a) * 100 := Int.mul_le_mul_of_nonneg_left s1 hab
  omega
end Go.Proofs.YtafclpmnpamipaaGreat

/- A run that is built place by place in a list of zeros. -/
namespace Go.Proofs.YtafclpmnpamipaaGreat
open Go.RowKit Go.Shelf Go.Sort Go.Proofs

def runK (N : Nat) (v : Nat → Int) (k : Nat) : List Int := (List.range' 0 (N + 1)).map fun j => if j ≤ k then v j else 0
theorem runK_len (N : Nat) (v : Nat → Int) (k : Nat) : (runK N v k).length = N + 1 := by simp [runK]
theorem runK_at {N : Nat} {v : Nat → Int} {k j : Nat} (h : j ≤ N) : (runK N v k)[j]? = some (if j ≤ k then v j else 0) := by
  simp [runK, Nat.lt_succ_of_le h]
theorem runK_0 {N : Nat} {v : Nat → Int} (h : v 0 = 0) : runK N v 0 = List.replicate (N + 1) 0 := by
  refine List.ext_getElem? fun j => ?_
  rcases Nat.lt_or_ge N j with hj | hj
  · rw [List.getElem?_eq_none (by rw [runK_len]; omega), List.getElem?_eq_none (by rw [List.length_replicate]; omega)]
  · rw [runK_at hj, show (List.replicate (N + 1) (0 : Int))[j]? = some 0 by rw [List.getElem?_replicate, if_pos (by omega)]]
    by_cases h0 : j ≤ 0
    · rw [if_pos h0, show j = 0 by omega, h]
    · rw [if_neg h0]
theorem runK_set {N : Nat} {v : Nat → Int} {k : Nat} (h : k + 1 ≤ N) : (runK N v k).set (k + 1) (v (k + 1)) = runK N v (k + 1) := by
  refine List.ext_getElem? fun j => ?_
  rcases Nat.lt_or_ge N j with hj | hj
  · rw [List.getElem?_eq_none (by rw [List.length_set, runK_len]; omega), List.getElem?_eq_none (by rw [runK_len]; omega)]
  · rw [runK_at hj, List.getElem?_set, runK_at hj]
    by_cases he : k + 1 = j
    · subst he
      rw [if_pos rfl, if_pos (by rw [runK_len]; omega), if_pos (Nat.le_refl _)]
    · rw [if_neg he]
      by_cases h1 : j ≤ k
      · rw [if_pos h1, if_pos (by omega)]
      · rw [if_neg h1, if_neg (by omega)]
theorem runK_N (N : Nat) (v : Nat → Int) : runK N v N = runL N v := by
  refine List.ext_getElem? fun j => ?_
  rcases Nat.lt_or_ge N j with hj | hj
  · rw [List.getElem?_eq_none (by rw [runK_len]; omega), List.getElem?_eq_none (by rw [runL_len]; omega)]
  · rw [runK_at hj, runL_at hj, if_pos hj]
/-- The block of a list of numbers. -/
def blkI (l : List Int) : Array Value := (l.map fun i => Value.int .i64 i).toArray
theorem blkI_at {l : List Int} {j : Nat} {x : Int} (h : l[j]? = some x) : (blkI l)[j]? = some (.int .i64 x) := by
  unfold blkI
  rw [List.getElem?_toArray, List.getElem?_map, h]
  rfl
theorem blkI_set (l : List Int) (j : Nat) (x : Int) : (blkI l).setIfInBounds j (.int .i64 x) = blkI (l.set j x) := by
  unfold blkI
  rw [List.setIfInBounds_toArray, List.map_set]
theorem infoI4 : (Tryz.prog.info? 3).map (fun i => (i.zero, i.size, i.bytes)) = some (some (.int .i64 0), 1, 8) := by kernel_rfl
theorem made_ints (n : Nat) : madeCells #[.int .i64 0] n = blkI (List.replicate n 0) := by
  unfold madeCells blkI
  apply Array.ext'
  rw [Array.toList_map, Array.toList_range, List.map_replicate]
  refine List.ext_getElem? fun j => ?_
  rw [List.getElem?_map, List.getElem?_replicate]
  rcases Nat.lt_or_ge j n with hj | hj
  · rw [List.getElem?_range hj, if_pos hj]
    simp [Nat.mod_one]
  · rw [List.getElem?_eq_none (by simpa using hj), if_neg (by omega)]
    rfl
theorem make_ints (N : Nat) (hN : N ≤ 100000) (w : World) : (Instr.makeSlice 28 (.int .i64 ((N : Int) + 1)) (.int .i64 ((N : Int) + 1))).run Tryz.prog w =
    .ok (.slice (some ⟨w.heap.size, 0, none⟩) (N + 1) (N + 1)) (w.alloc (.cells (blkI (List.replicate (N + 1) 0)) 3)) := by
  obtain ⟨ie, hie, hiz, his, hib⟩ := info_parts infoI4
  have hr := run_makeSlice (P := Tryz.prog) w 28 3 ie (.int .i64 0) Tryz.underlying28 hie hiz .i64 .i64 ((N : Int) + 1) ((N : Int) + 1) (by omega) (by omega) (by rw [his]; omega) (by rw [hib]; omega) (by omega)
  rw [hr, his, ← made_ints]
  have e1 : ((N : Int) + 1).toNat = N + 1 := by omega
  have e2 : (N + 1) * 1 = N + 1 := by omega
  rw [e1, e2]
  rfl
end Go.Proofs.YtafclpmnpamipaaGreat
