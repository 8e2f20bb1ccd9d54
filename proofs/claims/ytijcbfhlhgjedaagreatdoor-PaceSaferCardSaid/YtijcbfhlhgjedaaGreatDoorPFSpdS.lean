/- On the safer road of two surveys no meter takes less time, if bends, small radii and bad surfaces never make a car faster. No program in sight. -/
import Derived.Test.YtijcbfhlhgjedaaGreatDoorPCBBase
import Derived.Test.YtijcbfhlhgjedaaGreatDoorPCBRoad
import Derived.Test.YtijcbfhlhgjedaaGreatDoorPCBLeaf
import Derived.Test.YtijcbfhlhgjedaaGreatDoorPCBCheck
import Derived.Test.YtijcbfhlhgjedaaGreatDoorPCBValid
import Derived.Test.YtijcbfhlhgjedaaGreatDoorPCBFind
import Derived.Test.YtijcbfhlhgjedaaGreatDoorPCBReg
import Derived.Test.YtijcbfhlhgjedaaGreatDoorPCBGrouped
import Derived.Test.YtijcbfhlhgjedaaGreatDoorPCBPG
import Derived.Test.YtijcbfhlhgjedaaGreatDoorPCBStr
import Derived.Test.YtijcbfhlhgjedaaGreatDoorPCBCmp
import Derived.Test.YtijcbfhlhgjedaaGreatDoorPCBOpen
import Derived.Test.YtijcbfhlhgjedaaGreatDoorPCBReg7
import Derived.Test.YtijcbfhlhgjedaaGreatDoorPCPRow
import Derived.Test.YtijcbfhlhgjedaaGreatDoorPCMtr
import Derived.Test.YtijcbfhlhgjedaaGreatDoorPCReg8
import Derived.Test.YtijcbfhlhgjedaaGreatDoorPCSpCk
import Derived.Test.YtijcbfhlhgjedaaGreatDoorPCPlanM
import Derived.Test.YtijcbfhlhgjedaaGreatDoorPCLast
import Derived.Test.YtijcbfhlhgjedaaGreatDoorPCBeg
import Derived.Test.YtijcbfhlhgjedaaGreatDoorPCRoom
import Derived.Test.YtijcbfhlhgjedaaGreatDoorPCCallsB
import Derived.Test.YtijcbfhlhgjedaaGreatDoorPCPlan
import Derived.Test.YtijcbfhlhgjedaaGreatDoorPCBetw
import Derived.Test.YtijcbfhlhgjedaaGreatDoorPCKn03P
import Derived.Test.YtijcbfhlhgjedaaGreatDoorPCRef3
import Derived.Test.YtijcbfhlhgjedaaGreatDoorPFCareM
namespace Go.Proofs.YtijcbfhlhgjedaaGreatDoor
open Go.RowKit Go.Shelf Go.Sort Go.Proofs

/-- Bends, small radii and bad surfaces never make a car faster. -/
structure Calm (S : Spd) : Prop where
  m : ∀ r ∈ S.rows, r.most ≤ S.most
  r : S.rows.Pairwise fun a b => a.most ≤ b.most
  s : S.surf.Pairwise fun a b => b ≤ a
theorem rowF_up {r1 r2 : Int} (hr : r1 ≤ r2) : ∀ (rs : List SpRow) (o1 o2 : Option SpRow), (rs.Pairwise fun a b => a.most ≤ b.most) → (∀ a, o1 = some a → ∃ b, o2 = some b ∧ a.most ≤ b.most) → (∀ b, o2 = some b → ∀ y ∈ rs, b.most ≤ y.most) →
    ∀ a, rs.foldl (fun o y => if y.rad ≤ r1 then some y else o) o1 = some a → ∃ b, rs.foldl (fun o y => if y.rad ≤ r2 then some y else o) o2 = some b ∧ a.most ≤ b.most
  | [], _, _, _, h, _, a, ha => h a ha
  | y :: rs, o1, o2, hp, h1, h2, a, ha => by
    obtain ⟨p1, p2⟩ := List.pairwise_cons.1 hp
    refine rowF_up hr rs _ _ p2 ?_ ?_ a ha
    · intro a ha
      dsimp only at ha ⊢
      by_cases c1 : y.rad ≤ r1
      · rw [if_pos c1] at ha
        cases ha
        exact ⟨y, if_pos (by omega), Int.le_refl _⟩
      · rw [if_neg c1] at ha
        obtain ⟨b, hb, hab⟩ := h1 a ha
        by_cases c2 : y.rad ≤ r2
        · exact ⟨y, if_pos c2, Int.le_trans hab (h2 b hb y (List.mem_cons_self ..))⟩
        · exact ⟨b, by rw [if_neg c2]; exact hb, hab⟩
    · intro b hb z hz
      dsimp only at hb
      by_cases c2 : y.rad ≤ r2
      · rw [if_pos c2] at hb
        cases hb
        exact p1 z hz
      · rw [if_neg c2] at hb
        exact h2 b hb z (List.mem_cons_of_mem _ hz)
theorem rowF_some {r : Int} : ∀ (rs : List SpRow) (o : Option SpRow), (∃ a, o = some a) ∨ (∃ y ∈ rs, y.rad ≤ r) → ∃ a, rs.foldl (fun o y => if y.rad ≤ r then some y else o) o = some a
  | [], o, h => by
    rcases h with ⟨a, h⟩ | ⟨y, hy, -⟩
    · exact ⟨a, h⟩
    · cases hy
  | y :: rs, o, h => by
    refine rowF_some rs _ ?_
    dsimp only
    by_cases c : y.rad ≤ r
    · exact .inl ⟨y, if_pos c⟩
    · rw [if_neg c]
      rcases h with h | ⟨z, hz, hr⟩
      · exact .inl h
      · rcases List.mem_cons.1 hz with rfl | hz
        · exact absurd hr c
        · exact .inr ⟨z, hz, hr⟩
theorem row_at {S : Spd} (h : SOK S) {r : Int} (hr : 5 ≤ r) : ∃ a, rowF S.rows r = some a := by
  have h1 := h.r1
  refine rowF_some S.rows none (.inr ⟨S.rows[0], List.getElem_mem _, ?_⟩)
  rw [h.r0 _ (List.getElem?_eq_getElem (by omega))]
  exact hr
theorem rowS_car {S : Spd} (h : SOK S) (hc : Calm S) {x z : Piece} (hz : pOk z = true) (hcar : carB x z = true) : (rowS S z).2 ≤ (rowS S x).2 := by
  simp only [carB, Bool.and_eq_true, Bool.or_eq_true, decide_eq_true_eq] at hcar
  have hlow : (rowS S z).2 ≤ S.most := by
    unfold rowS
    split
    · exact Int.le_refl _
    · cases hr : rowF S.rows z.rad with
      | none => exact Int.le_refl _
      | some a => exact hc.m a (rowF_mem hr).1
  by_cases ht : x.turn = 0
  · have e : (rowS S x).2 = S.most := by unfold rowS; rw [if_pos ht]
    rw [e]; exact hlow
  · obtain ⟨e1, e2⟩ := hcar.2.2.resolve_left ht
    have hzt : z.turn ≠ 0 := by rw [e1]; exact ht
    obtain ⟨a, ha⟩ := row_at h (pOk_rad5 hz hzt)
    obtain ⟨b, hb, hab⟩ := rowF_up e2 S.rows none none hc.r (fun a h => nomatch h) (fun a h => nomatch h) a ha
    have hb' : rowF S.rows x.rad = some b := hb
    unfold rowS
    rw [if_neg hzt, if_neg ht, ha, hb']
    exact hab
theorem surS_car {S : Spd} (h : SOK S) (hc : Calm S) {x z : Piece} (hx : pOk x = true) (hz : pOk z = true) (hs : x.sur ≤ z.sur) : surS S z ≤ surS S x := by
  simp only [pOk, inR, Bool.and_eq_true, decide_eq_true_eq] at hx hz
  have h9 := h.s9
  have i1 : (x.sur - 1).toNat < S.surf.length := by omega
  have i2 : (z.sur - 1).toNat < S.surf.length := by omega
  unfold surS
  rw [List.getD, List.getD, List.getElem?_eq_getElem i1, List.getElem?_eq_getElem i2]
  show S.surf[(z.sur - 1).toNat] ≤ S.surf[(x.sur - 1).toNat]
  by_cases e : x.sur = z.sur
  · simp only [e]; exact Int.le_refl _
  · exact List.pairwise_iff_getElem.1 hc.s _ _ i1 i2 (by omega)
theorem div_anti {N d e : Int} (hN : 0 ≤ N) (he : 1 ≤ e) (h : e ≤ d) : N / d ≤ N / e := by
  rw [Int.le_ediv_iff_mul_le (by omega)]
  have h1 : 0 ≤ N / d := Int.ediv_nonneg hN (by omega)
  have h2 : N / d * e ≤ N / d * d := Int.mul_le_mul_of_nonneg_left h h1
  have h3 := Int.ediv_mul_le N (show d ≠ 0 by omega)
  omega
/-- A meter of a piece that is not less bent and not better takes at least as long. -/
theorem mQ_car {S : Spd} (h : SOK S) (hc : Calm S) {x z : Piece} (hx : pOk x = true) (hz : pOk z = true) (hcar : carB x z = true) : mQ S x ≤ mQ S z := by
  have h1 := rowS_car h hc hz hcar
  have h2 : surS S z ≤ surS S x := by
    simp only [carB, Bool.and_eq_true, decide_eq_true_eq] at hcar
    exact surS_car h hc hx hz hcar.2.1
  obtain ⟨a1, a2, a3⟩ := rowS_bd h z
  obtain ⟨b1, b2⟩ := surS_bd h hz
  obtain ⟨a4, a5, a6⟩ := rowS_bd h x
  have h3 : (rowS S z).2 * surS S z ≤ (rowS S x).2 * surS S x := Int.mul_le_mul h1 h2 (by omega) (by omega)
  have h4 : 1 ≤ (rowS S z).2 * surS S z := by have := Int.mul_le_mul (show 1 ≤ (rowS S z).2 by omega) b1 (by omega) (by omega); omega
  unfold mQ
  generalize (rowS S z).2 * surS S z = u at h3 h4
  generalize (rowS S x).2 * surS S x = v at h3
  exact div_anti (by omega) (by omega) (by omega)
/-- Stretch by stretch. -/
theorem tQ_car {S : Spd} {ps qs : List Piece} {n : Nat} (hl : ∀ k, k < n → ∃ x z, (units ps)[k]? = some x ∧ (units qs)[k]? = some z ∧ mQ S x ≤ mQ S z) {j : Nat} : ∀ d : Nat, j + d ≤ n → tQ S ps (j + d) - tQ S ps j ≤ tQ S qs (j + d) - tQ S qs j
  | 0, _ => by simp
  | d + 1, h => by
    obtain ⟨x, z, hx, hz, hm⟩ := hl (j + d) (by omega)
    have ih := tQ_car (S := S) (j := j) hl d (by omega)
    have e1 := tQ_succ S ps hx
    have e2 := tQ_succ S qs hz
    rw [← Nat.add_assoc, e1, e2]
    omega
theorem sres_tQ {S : Spd} {R R2 : Road} (h : SOK S) (hc : Calm S) (hv : OK R) (hv2 : OK R2) (hs : sumL R.ps = sumL R2.ps) (h0 : (sres R R2).2 = 0) {j k : Int} (h2 : j ≤ k) (h3 : k ≤ sumL R.ps) :
    tQ S R.ps k.toNat - tQ S R.ps j.toNat ≤ tQ S (sres R R2).1.ps k.toNat - tQ S (sres R R2).1.ps j.toNat := by
  have hok := sres_ok hv hv2 hs h0
  have hl : ∀ i, i < (sumL R.ps).toNat → ∃ x z, (units R.ps)[i]? = some x ∧ (units (sres R R2).1.ps)[i]? = some z ∧ mQ S x ≤ mQ S z := fun i hi => by
    obtain ⟨x, y, z, a1, a2, a3, a4⟩ := sres_at hv hv2 hs h0 (k := i) (by omega)
    exact ⟨x, z, a1, a3, mQ_car h hc (units_ok hv.pk x (List.mem_of_getElem? a1)) (units_ok hok.1.pk z (List.mem_of_getElem? a3)) (sfr_car a4).1⟩
  have := tQ_car (S := S) (j := j.toNat) hl (k.toNat - j.toNat) (by omega)
  rwa [show j.toNat + (k.toNat - j.toNat) = k.toNat by omega] at this
end Go.Proofs.YtijcbfhlhgjedaaGreatDoor

/- On the safer road of two surveys the slowest meter takes no less time either, if bends, small radii and bad surfaces never make a car faster. No program in sight. -/
namespace Go.Proofs.YtijcbfhlhgjedaaGreatDoor
open Go.RowKit Go.Shelf Go.Sort Go.Proofs

/-- Bends and small radii never make the slowest speed faster. -/
structure CalmL (S : Spd) : Prop where
  m : ∀ r ∈ S.rows, r.least ≤ S.least
  r : S.rows.Pairwise fun a b => a.least ≤ b.least
theorem rowF_upL {r1 r2 : Int} (hr : r1 ≤ r2) : ∀ (rs : List SpRow) (o1 o2 : Option SpRow), (rs.Pairwise fun a b => a.least ≤ b.least) → (∀ a, o1 = some a → ∃ b, o2 = some b ∧ a.least ≤ b.least) → (∀ b, o2 = some b → ∀ y ∈ rs, b.least ≤ y.least) →
    ∀ a, rs.foldl (fun o y => if y.rad ≤ r1 then some y else o) o1 = some a → ∃ b, rs.foldl (fun o y => if y.rad ≤ r2 then some y else o) o2 = some b ∧ a.least ≤ b.least
  | [], _, _, _, h, _, a, ha => h a ha
  | y :: rs, o1, o2, hp, h1, h2, a, ha => by
    obtain ⟨p1, p2⟩ := List.pairwise_cons.1 hp
    refine rowF_upL hr rs _ _ p2 ?_ ?_ a ha
    · intro a ha
      dsimp only at ha ⊢
      by_cases c1 : y.rad ≤ r1
      · rw [if_pos c1] at ha
        cases ha
        exact ⟨y, if_pos (by omega), Int.le_refl _⟩
      · rw [if_neg c1] at ha
        obtain ⟨b, hb, hab⟩ := h1 a ha
        by_cases c2 : y.rad ≤ r2
        · exact ⟨y, if_pos c2, Int.le_trans hab (h2 b hb y (List.mem_cons_self ..))⟩
        · exact ⟨b, by rw [if_neg c2]; exact hb, hab⟩
    · intro b hb z hz
      dsimp only at hb
      by_cases c2 : y.rad ≤ r2
      · rw [if_pos c2] at hb
        cases hb
        exact p1 z hz
      · rw [if_neg c2] at hb
        exact h2 b hb z (List.mem_cons_of_mem _ hz)
theorem rowS_carL {S : Spd} (h : SOK S) (hc : CalmL S) {x z : Piece} (hz : pOk z = true) (hcar : carB x z = true) : (rowS S z).1 ≤ (rowS S x).1 := by
  simp only [carB, Bool.and_eq_true, Bool.or_eq_true, decide_eq_true_eq] at hcar
  have hlow : (rowS S z).1 ≤ S.least := by
    unfold rowS
    split
    · exact Int.le_refl _
    · cases hr : rowF S.rows z.rad with
      | none => exact Int.le_refl _
      | some a => exact hc.m a (rowF_mem hr).1
  by_cases ht : x.turn = 0
  · have e : (rowS S x).1 = S.least := by unfold rowS; rw [if_pos ht]
    rw [e]; exact hlow
  · obtain ⟨e1, e2⟩ := hcar.2.2.resolve_left ht
    have hzt : z.turn ≠ 0 := by rw [e1]; exact ht
    obtain ⟨a, ha⟩ := row_at h (pOk_rad5 hz hzt)
    obtain ⟨b, hb, hab⟩ := rowF_upL e2 S.rows none none hc.r (fun a h => nomatch h) (fun a h => nomatch h) a ha
    have hb' : rowF S.rows x.rad = some b := hb
    unfold rowS
    rw [if_neg hzt, if_neg ht, ha, hb']
    exact hab
theorem slow_anti {d e : Int} (he : 1 ≤ e) (h : e ≤ d) : (10000000 + d - 1) / d ≤ (10000000 + e - 1) / e := by
  have h1 := Int.add_mul_ediv_right 9999999 1 (show d ≠ 0 by omega)
  have h2 := Int.add_mul_ediv_right 9999999 1 (show e ≠ 0 by omega)
  rw [Int.one_mul] at h1 h2
  have h3 := div_anti (show (0 : Int) ≤ 9999999 by decide) he h
  rw [show 10000000 + d - 1 = 9999999 + d by omega, show 10000000 + e - 1 = 9999999 + e by omega]
  omega
theorem mSl_car {S : Spd} (h : SOK S) (hc : Calm S) (hl : CalmL S) {x z : Piece} (hx : pOk x = true) (hz : pOk z = true) (hcar : carB x z = true) : mSl S x ≤ mSl S z := by
  have h1 := rowS_carL h hl hz hcar
  have h2 : surS S z ≤ surS S x := by
    simp only [carB, Bool.and_eq_true, decide_eq_true_eq] at hcar
    exact surS_car h hc hx hz hcar.2.1
  obtain ⟨a1, a2, a3⟩ := rowS_bd h z
  obtain ⟨b1, b2⟩ := surS_bd h hz
  obtain ⟨a4, a5, a6⟩ := rowS_bd h x
  have h3 : (rowS S z).1 * surS S z ≤ (rowS S x).1 * surS S x := Int.mul_le_mul h1 h2 (by omega) (by omega)
  unfold mSl
  generalize (rowS S z).1 * surS S z = u at h3
  generalize (rowS S x).1 * surS S x = v at h3
  exact slow_anti (by omega) (by omega)
/-- Stretch by stretch. -/
theorem tSl_car {S : Spd} {ps qs : List Piece} {n : Nat} (hl : ∀ k, k < n → ∃ x z, (units ps)[k]? = some x ∧ (units qs)[k]? = some z ∧ mSl S x ≤ mSl S z) {j : Nat} : ∀ d : Nat, j + d ≤ n → tSl S ps (j + d) - tSl S ps j ≤ tSl S qs (j + d) - tSl S qs j
  | 0, _ => by simp
  | d + 1, h => by
    obtain ⟨x, z, hx, hz, hm⟩ := hl (j + d) (by omega)
    have ih := tSl_car (S := S) (j := j) hl d (by omega)
    have e1 := tSl_succ S ps hx
    have e2 := tSl_succ S qs hz
    rw [← Nat.add_assoc, e1, e2]
    omega
theorem sres_tSl {S : Spd} {R R2 : Road} (h : SOK S) (hc : Calm S) (hl : CalmL S) (hv : OK R) (hv2 : OK R2) (hs : sumL R.ps = sumL R2.ps) (h0 : (sres R R2).2 = 0) {j k : Int} (h2 : j ≤ k) (h3 : k ≤ sumL R.ps) :
    tSl S R.ps k.toNat - tSl S R.ps j.toNat ≤ tSl S (sres R R2).1.ps k.toNat - tSl S (sres R R2).1.ps j.toNat := by
  have hok := sres_ok hv hv2 hs h0
  have hll : ∀ i, i < (sumL R.ps).toNat → ∃ x z, (units R.ps)[i]? = some x ∧ (units (sres R R2).1.ps)[i]? = some z ∧ mSl S x ≤ mSl S z := fun i hi => by
    obtain ⟨x, y, z, a1, a2, a3, a4⟩ := sres_at hv hv2 hs h0 (k := i) (by omega)
    exact ⟨x, z, a1, a3, mSl_car h hc hl (units_ok hv.pk x (List.mem_of_getElem? a1)) (units_ok hok.1.pk z (List.mem_of_getElem? a3)) (sfr_car a4).1⟩
  have := tSl_car (S := S) (j := j.toNat) hll (k.toNat - j.toNat) (by omega)
  rwa [show j.toNat + (k.toNat - j.toNat) = k.toNat by omega] at this
end Go.Proofs.YtijcbfhlhgjedaaGreatDoor
