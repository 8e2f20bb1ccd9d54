/- slices.swapRangeCmpFunc and rotateCmpFunc at crests and junctions; cmp.Compare and the comparisons of road.Safer. -/
import Derived.Test.YtijcbfhlhgjedaaGreatDoorPCBBase
import Derived.Test.YtijcbfhlhgjedaaGreatDoorPCBRoad
import Derived.Test.YtijcbfhlhgjedaaGreatDoorPCBLeaf
import Derived.Test.YtijcbfhlhgjedaaGreatDoorPCBCheck
import Derived.Test.YtijcbfhlhgjedaaGreatDoorPCBValid
import Derived.Test.YtijcbfhlhgjedaaGreatDoorPCBFind
import Derived.Test.YtijcbfhlhgjedaaGreatDoorPCBReg
import Derived.Test.YtijcbfhlhgjedaaGreatDoorPCBGrouped
import Derived.Test.YtijcbfhlhgjedaaGreatDoorPCBPG
import Derived.Test.YtijcbfhlhgjedaaGreatDoorPCBStr
import Derived.Test.YtijcbfhlhgjedaaGreatDoorPCBCmp
import Derived.Test.YtijcbfhlhgjedaaGreatDoorPCBOpen
import Derived.Test.YtijcbfhlhgjedaaGreatDoorPCBReg7
import Derived.Test.YtijcbfhlhgjedaaGreatDoorPCPRow
import Derived.Test.YtijcbfhlhgjedaaGreatDoorPCMtr
import Derived.Test.YtijcbfhlhgjedaaGreatDoorPCReg8
import Derived.Test.YtijcbfhlhgjedaaGreatDoorPCSpCk
import Derived.Test.YtijcbfhlhgjedaaGreatDoorPCPlanM
import Derived.Test.YtijcbfhlhgjedaaGreatDoorPCLast
import Derived.Test.YtijcbfhlhgjedaaGreatDoorPCBeg
import Derived.Test.YtijcbfhlhgjedaaGreatDoorPCRoom
import Derived.Test.YtijcbfhlhgjedaaGreatDoorPCCallsB
import Derived.Test.YtijcbfhlhgjedaaGreatDoorPCPlan
import Derived.Test.YtijcbfhlhgjedaaGreatDoorPCBetw
import Derived.Test.YtijcbfhlhgjedaaGreatDoorPCKn03P
import Derived.Test.YtijcbfhlhgjedaaGreatDoorPCRef3
import Derived.Test.YtijcbfhlhgjedaaGreatDoorPFRev
import Derived.RegionTactic
import Derived.BigRegion
namespace Go.Proofs.YtijcbfhlhgjedaaGreatDoor
open Go.RowKit Go.Shelf Go.Sort Go.Proofs

def cmpI (a b : Int) : Int := if a < b then -1 else if b < a then 1 else 0
theorem cmpI_lt (a b : Int) : decide (cmpI a b < 0) = decide (a < b) := by
  unfold cmpI
  split
  · rename_i h; simp [h]
  · rename_i h; split <;> simp [h]
theorem cmpI_eq (a b : Int) : (cmpI a b != 0) = decide (a ≠ b) := by
  unfold cmpI
  split
  · rename_i h; have : a ≠ b := by omega
    simp [this]
  · rename_i h; split
    · have : a ≠ b := by omega
      simp [this]
    · have : a = b := by omega
      simp [this]
theorem only_grown {a w w' : World} {g : Nat} (h : a.grownBy w (some g)) (hb : Below w.heap.size w w') : a.grownBy w' (some g) :=
  only_trans h (let k := grownBy_of_below hb; ⟨k.os, k.tape, k.output, k.size, fun i hi _ => k.block i hi (by intro e; cases e)⟩)
set_option maxRecDepth 100000 in
theorem isNaN_any (x : Int) (w : World) : Calls Tryz.prog 73 #[.int .i64 x] w fun e w' => e = .returned (.bool false) ∧ w' = w := by
  go_enter Tryz.func73, Tryz.ntmps73
  go_wp2_with fail
  go_ret
  exact ⟨rfl, rfl⟩
set_option maxRecDepth 100000 in
theorem Compare_int (x y : Int) (w : World) : Calls Tryz.prog 32 #[.int .i64 x, .int .i64 y] w fun e w' => e = .returned (.int .i64 (cmpI x y)) ∧ w' = w := by
  go_enter Tryz.func32, Tryz.ntmps32
  by_cases h1 : x < y
  · have hr : cmpI x y = -1 := by unfold cmpI; rw [if_pos h1]
    rw [hr]
    go_wp2_with (go_at_call 73; refine (isNaN_any _ _).mono ?_; rintro e w' ⟨rfl, rfl⟩)
    all_goals first | (go_ret; exact ⟨rfl, rfl⟩) | (exfalso; omega)
  · by_cases h2 : y < x
    · have hr : cmpI x y = 1 := by unfold cmpI; rw [if_neg h1, if_pos h2]
      rw [hr]
      go_wp2_with (go_at_call 73; refine (isNaN_any _ _).mono ?_; rintro e w' ⟨rfl, rfl⟩)
      all_goals first | (go_ret; exact ⟨rfl, rfl⟩) | (exfalso; omega)
    · have hr : cmpI x y = 0 := by unfold cmpI; rw [if_neg h1, if_neg h2]
      rw [hr]
      go_wp2_with (go_at_call 73; refine (isNaN_any _ _).mono ?_; rintro e w' ⟨rfl, rfl⟩)
      all_goals first | (go_ret; exact ⟨rfl, rfl⟩) | (exfalso; omega)
section
variable {α : Type}
theorem st_zero (P U M V Q : List α) : st P U M V Q 0 = P ++ (U ++ (M ++ (V ++ Q))) := by simp [st]
theorem st_done {P U M V Q : List α} {m : Nat} (hU : U.length = m) (hV : V.length = m) : st P U M V Q m = P ++ (V ++ (M ++ (U ++ Q))) := by
  simp [st, ← hU, hV.trans hU.symm ▸ List.take_length (l := V), hV.trans hU.symm ▸ List.drop_length (l := V)]
theorem st_round {P U M V Q : List α} {m k : Nat} (hU : U.length = m) (hV : V.length = m) (hk : k < m) : ∃ A u B v C, st P U M V Q k = A ++ u :: (B ++ v :: C) ∧ st P U M V Q (k + 1) = A ++ v :: (B ++ u :: C) ∧ A.length = P.length + k ∧ A.length + B.length + 1 = P.length + m + M.length + k := by
  obtain ⟨u, hu, hu'⟩ : ∃ u, U.drop k = u :: U.drop (k + 1) ∧ U.take (k + 1) = U.take k ++ [u] := ⟨_, List.drop_eq_getElem_cons (show k < U.length by omega), List.take_succ_eq_append_getElem (show k < U.length by omega)⟩
  obtain ⟨v, hv, hv'⟩ : ∃ v, V.drop k = v :: V.drop (k + 1) ∧ V.take (k + 1) = V.take k ++ [v] := ⟨_, List.drop_eq_getElem_cons (show k < V.length by omega), List.take_succ_eq_append_getElem (show k < V.length by omega)⟩
  refine ⟨P ++ V.take k, u, U.drop (k + 1) ++ (M ++ U.take k), v, V.drop (k + 1) ++ Q, ?_, ?_, ?_, ?_⟩
  · rw [st, hu, hv]; simp
  · rw [st, hu', hv']; simp
  · simp; omega
  · simp; omega
end

set_option maxRecDepth 100000 in
theorem cmpC_any (x y : Crest) (w : World) : Calls Tryz.prog 31 #[.agg #[.int .i64 x.pos, .int .i64 x.siz], .agg #[.int .i64 y.pos, .int .i64 y.siz]] w fun e w' => e = .returned (.int .i64 (cmpI x.pos y.pos)) ∧ Below w.heap.size w w' := by
  have hb : Below w.heap.size w ((w.alloc (.cells #[.int .i64 x.pos, .int .i64 x.siz] 76)).alloc (.cells #[.int .i64 y.pos, .int .i64 y.siz] 76)) := ((Below.refl _ _).alloc (Nat.le_refl _) _).alloc (by simp) _
  go_enter Tryz.func31, Tryz.ntmps31
  go_wp2_with (go_at_call 32; refine (Compare_int _ _ _).mono ?_; rintro e w' ⟨rfl, rfl⟩)
  go_ret
  exact ⟨rfl, hb⟩
theorem exC {base b n c i j : Nat} {A B C : List Crest} {u v : Crest} {w : World} (h : OW cC 2 76 base w (some ⟨b, 0, none⟩) n c (A ++ u :: (B ++ v :: C))) (hi : A.length = i) (hj : A.length + B.length + 1 = j) :
    OW cC 2 76 base ((((w.setCell ⟨b, i * 2 + 0, none⟩ (.int .i64 v.pos)).setCell ⟨b, i * 2 + 1, none⟩ (.int .i64 v.siz)).setCell ⟨b, j * 2 + 0, none⟩ (.int .i64 u.pos)).setCell ⟨b, j * 2 + 1, none⟩ (.int .i64 u.siz)) (some ⟨b, 0, none⟩) n c (A ++ v :: (B ++ u :: C)) := by
  have gi := getElem?_mid A u (B ++ v :: C) hi
  have gj := get_second A u B v C hj
  have hil : i < (A ++ u :: (B ++ v :: C)).length := (List.getElem?_eq_some_iff.1 gi).1
  have hjl : j < (A ++ u :: (B ++ v :: C)).length := (List.getElem?_eq_some_iff.1 gj).1
  have hres : ((A ++ u :: (B ++ v :: C)).set i v).set j u = A ++ v :: (B ++ u :: C) := by
    exact swp_mid A u B v C hi hj
  rw [← hres]
  have hne : i ≠ j := by omega
  generalize A ++ u :: (B ++ v :: C) = xs at h gi gj hil hjl ⊢
  clear hres hi hj
  have s0 := OW.setF h cC_len i 0 (x := u) (y := { u with pos := v.pos }) (v := .int .i64 v.pos) gi (by omega) rfl
  have e0 : (xs.set i { u with pos := v.pos })[i]? = some { u with pos := v.pos } := by simp [hil]
  have s1 := OW.setF s0 cC_len i 1 (x := { u with pos := v.pos }) (y := { u with pos := v.pos, siz := v.siz }) (v := .int .i64 v.siz) e0 (by omega) rfl
  rw [List.set_set] at s1
  have e1 : (xs.set i { u with pos := v.pos, siz := v.siz })[i]? = some { u with pos := v.pos, siz := v.siz } := by simp [hil]
  have g2 : (xs.set i { u with pos := v.pos, siz := v.siz })[j]? = some v := by rw [List.getElem?_set, if_neg (by omega)]; exact gj
  have t0 := OW.setF s1 cC_len j 0 (x := v) (y := { v with pos := u.pos }) (v := .int .i64 u.pos) g2 (by omega) rfl
  have d0 : ((xs.set i { u with pos := v.pos, siz := v.siz }).set j { v with pos := u.pos })[j]? = some { v with pos := u.pos } := by simp [hjl]
  have t1 := OW.setF t0 cC_len j 1 (x := { v with pos := u.pos }) (y := { v with pos := u.pos, siz := u.siz }) (v := .int .i64 u.siz) d0 (by omega) rfl
  rw [List.set_set] at t1
  have d1 : ((xs.set i { u with pos := v.pos, siz := v.siz }).set j { v with pos := u.pos, siz := u.siz })[j]? = some { v with pos := u.pos, siz := u.siz } := by simp [hjl]
  exact t1
theorem exC' {base b n c i j : Nat} {A B C : List Crest} {u v : Crest} {w : World} (h : OW cC 2 76 base w (some ⟨b, 0, none⟩) n c (A ++ u :: (B ++ v :: C))) (hi : A.length = i) (hj : A.length + B.length + 1 = j) :
    OW cC 2 76 base ((((w.setCell ⟨b, j * 2 + 0, none⟩ (.int .i64 u.pos)).setCell ⟨b, j * 2 + 1, none⟩ (.int .i64 u.siz)).setCell ⟨b, i * 2 + 0, none⟩ (.int .i64 v.pos)).setCell ⟨b, i * 2 + 1, none⟩ (.int .i64 v.siz)) (some ⟨b, 0, none⟩) n c (A ++ v :: (B ++ u :: C)) := by
  have gi := getElem?_mid A u (B ++ v :: C) hi
  have gj := get_second A u B v C hj
  have hil : i < (A ++ u :: (B ++ v :: C)).length := (List.getElem?_eq_some_iff.1 gi).1
  have hjl : j < (A ++ u :: (B ++ v :: C)).length := (List.getElem?_eq_some_iff.1 gj).1
  have hres : ((A ++ u :: (B ++ v :: C)).set j u).set i v = A ++ v :: (B ++ u :: C) := by
    rw [List.set_comm _ _ (by omega : j ≠ i)]
    exact swp_mid A u B v C hi hj
  rw [← hres]
  have hne : i ≠ j := by omega
  generalize A ++ u :: (B ++ v :: C) = xs at h gi gj hil hjl ⊢
  clear hres hi hj
  have s0 := OW.setF h cC_len j 0 (x := v) (y := { v with pos := u.pos }) (v := .int .i64 u.pos) gj (by omega) rfl
  have e0 : (xs.set j { v with pos := u.pos })[j]? = some { v with pos := u.pos } := by simp [hjl]
  have s1 := OW.setF s0 cC_len j 1 (x := { v with pos := u.pos }) (y := { v with pos := u.pos, siz := u.siz }) (v := .int .i64 u.siz) e0 (by omega) rfl
  rw [List.set_set] at s1
  have e1 : (xs.set j { v with pos := u.pos, siz := u.siz })[j]? = some { v with pos := u.pos, siz := u.siz } := by simp [hjl]
  have g2 : (xs.set j { v with pos := u.pos, siz := u.siz })[i]? = some u := by rw [List.getElem?_set, if_neg (by omega)]; exact gi
  have t0 := OW.setF s1 cC_len i 0 (x := u) (y := { u with pos := v.pos }) (v := .int .i64 v.pos) g2 (by omega) rfl
  have d0 : ((xs.set j { v with pos := u.pos, siz := u.siz }).set i { u with pos := v.pos })[i]? = some { u with pos := v.pos } := by simp [hil]
  have t1 := OW.setF t0 cC_len i 1 (x := { u with pos := v.pos }) (y := { u with pos := v.pos, siz := v.siz }) (v := .int .i64 v.siz) d0 (by omega) rfl
  rw [List.set_set] at t1
  have d1 : ((xs.set j { v with pos := u.pos, siz := u.siz }).set i { u with pos := v.pos, siz := v.siz })[i]? = some { u with pos := v.pos, siz := v.siz } := by simp [hil]
  exact t1
set_option maxRecDepth 100000 in
set_option maxHeartbeats 4000000 in
theorem SwRC (base b n c a d m : Nat) (P U M V Q : List Crest) (w : World) (h : OW cC 2 76 base w (some ⟨b, 0, none⟩) n c (P ++ (U ++ (M ++ (V ++ Q))))) (hP : P.length = a) (hU : U.length = m) (hV : V.length = m) (hd : a + m + M.length = d) (hn : n ≤ 100000) :
    Calls Tryz.prog 139 #[.slice (some ⟨b, 0, none⟩) n c, .int .i64 a, .int .i64 d, .int .i64 m, .func (.func 31) #[] #[]] w fun e w' => (∃ v, e = .returned v) ∧ OW cC 2 76 base w' (some ⟨b, 0, none⟩) n c (P ++ (V ++ (M ++ (U ++ Q)))) ∧ w.grownBy w' (some b) := by
  have hmo : Tryz.prog.follows .mixedOrders = true := by kernel_rfl
  rw [← st_zero] at h
  have HH := Lib.hid h
  have HD := Lib.hid (st_done (P := P) (M := M) (Q := Q) hU hV)
  have HR := Lib.hid (fun k (hk : k < m) => st_round (P := P) (M := M) (Q := Q) hU hV hk)
  have HN : n = P.length + m + M.length + m + Q.length := by rw [h.2]; simp [st]; omega
  have hnn : d + m ≤ n := by omega
  rw [hP, hd] at HR
  clear h hU hV HN
  go_enter Tryz.func139, Tryz.ntmps139
  go_wp2_with fail
  go_loopw [10] (fun i wr => ∃ k : Nat, k ≤ m ∧ i = .int .i64 k ∧ OW cC 2 76 base wr (some ⟨b, 0, none⟩) n c (st P U M V Q k) ∧ w.grownBy wr (some b))
    (fun i _ => m - (intOf i).toNat)
  case atStart => exact ⟨0, Nat.zero_le _, rfl, HH.out, World.grownBy.refl w _⟩
  case round =>
    obtain ⟨k, hk, rfl, hO, hg⟩ := hrel
    by_cases hlt : k < m
    · obtain ⟨A, u, B, v, C, e1, e2, e3, e4⟩ := HR.out k hlt
      rw [e1] at hO
      have HE := Lib.hid e2
      have HA := Lib.hid e3
      have HB := Lib.hid e4
      obtain ⟨b', hb', hbl, _, hfz, hrow⟩ := hO.at_ cC_len _ rfl
      cases hb'
      have gi := getElem?_mid A u (B ++ v :: C) e3
      have gj := get_second A u B v C e4
      clear e1 e2 e3 e4
      have x0 := hrow (a + k) u gi 0 _ rfl
      have x1 := hrow (a + k) u gi 1 _ rfl
      have hax : ∀ q, 0 + (a + k) * 2 + q = (a + k) * 2 + q := fun q => by omega
      rw [hax] at x0 x1
      rw [Nat.add_zero] at x0
      clear hax
      have y0 := hrow (d + k) v gj 0 _ rfl
      have y1 := hrow (d + k) v gj 1 _ rfl
      have hay : ∀ q, 0 + (d + k) * 2 + q = (d + k) * 2 + q := fun q => by omega
      rw [hay] at y0 y1
      rw [Nat.add_zero] at y0
      clear hay
      have hwa : IntKind.i64.wrap ((a : Int) + (k : Int)) = ((a + k : Nat) : Int) := by rw [Int.natCast_add]; exact IntWalk.i64_in _ (by omega)
      have hwd : IntKind.i64.wrap ((d : Int) + (k : Int)) = ((d + k : Nat) : Int) := by rw [Int.natCast_add]; exact IntWalk.i64_in _ (by omega)
      have hi1 : (0 : Int) ≤ ((a + k : Nat) : Int) := by omega
      have hi2 : ((a + k : Nat) : Int) < (n : Int) := by omega
      have hi3 : (0 : Int) ≤ ((d + k : Nat) : Int) := by omega
      have hi4 : ((d + k : Nat) : Int) < (n : Int) := by omega
      clear hrow gi gj
      go_wp2_with fail
      go_region
      go_wp2_with fail
      go_roundw
      case rel =>
        exact ⟨k + 1, by omega, by go_num, by rw [HE.out]; exact OW.drew (exC hO HA.out HB.out), only_drew (only_set (only_set (only_set (only_set hg _) _) _) _)⟩
      case measure => simp [intOf]; omega
    · obtain rfl : k = m := by omega
      rw [HD.out] at hO
      go_wp2_with fail
      go_end0
      exact ⟨⟨_, rfl⟩, hO, hg⟩
set_option maxRecDepth 100000 in
theorem cmpJ_any (x y : Junc) (w : World) : Calls Tryz.prog 35 #[.agg #[.int .i64 x.pos, .int .i64 x.arms, .int .i64 x.way], .agg #[.int .i64 y.pos, .int .i64 y.arms, .int .i64 y.way]] w fun e w' => e = .returned (.int .i64 (cmpI x.pos y.pos)) ∧ Below w.heap.size w w' := by
  have hb : Below w.heap.size w ((w.alloc (.cells #[.int .i64 x.pos, .int .i64 x.arms, .int .i64 x.way] 78)).alloc (.cells #[.int .i64 y.pos, .int .i64 y.arms, .int .i64 y.way] 78)) := ((Below.refl _ _).alloc (Nat.le_refl _) _).alloc (by simp) _
  go_enter Tryz.func35, Tryz.ntmps35
  go_wp2_with (go_at_call 32; refine (Compare_int _ _ _).mono ?_; rintro e w' ⟨rfl, rfl⟩)
  go_ret
  exact ⟨rfl, hb⟩
theorem exJ {base b n c i j : Nat} {A B C : List Junc} {u v : Junc} {w : World} (h : OW jC 3 78 base w (some ⟨b, 0, none⟩) n c (A ++ u :: (B ++ v :: C))) (hi : A.length = i) (hj : A.length + B.length + 1 = j) :
    OW jC 3 78 base ((((((w.setCell ⟨b, i * 3 + 0, none⟩ (.int .i64 v.pos)).setCell ⟨b, i * 3 + 1, none⟩ (.int .i64 v.arms)).setCell ⟨b, i * 3 + 2, none⟩ (.int .i64 v.way)).setCell ⟨b, j * 3 + 0, none⟩ (.int .i64 u.pos)).setCell ⟨b, j * 3 + 1, none⟩ (.int .i64 u.arms)).setCell ⟨b, j * 3 + 2, none⟩ (.int .i64 u.way)) (some ⟨b, 0, none⟩) n c (A ++ v :: (B ++ u :: C)) := by
  have gi := getElem?_mid A u (B ++ v :: C) hi
  have gj := get_second A u B v C hj
  have hil : i < (A ++ u :: (B ++ v :: C)).length := (List.getElem?_eq_some_iff.1 gi).1
  have hjl : j < (A ++ u :: (B ++ v :: C)).length := (List.getElem?_eq_some_iff.1 gj).1
  have hres : ((A ++ u :: (B ++ v :: C)).set i v).set j u = A ++ v :: (B ++ u :: C) := by
    exact swp_mid A u B v C hi hj
  rw [← hres]
  have hne : i ≠ j := by omega
  generalize A ++ u :: (B ++ v :: C) = xs at h gi gj hil hjl ⊢
  clear hres hi hj
  have s0 := OW.setF h jC_len i 0 (x := u) (y := { u with pos := v.pos }) (v := .int .i64 v.pos) gi (by omega) rfl
  have e0 : (xs.set i { u with pos := v.pos })[i]? = some { u with pos := v.pos } := by simp [hil]
  have s1 := OW.setF s0 jC_len i 1 (x := { u with pos := v.pos }) (y := { u with pos := v.pos, arms := v.arms }) (v := .int .i64 v.arms) e0 (by omega) rfl
  rw [List.set_set] at s1
  have e1 : (xs.set i { u with pos := v.pos, arms := v.arms })[i]? = some { u with pos := v.pos, arms := v.arms } := by simp [hil]
  have s2 := OW.setF s1 jC_len i 2 (x := { u with pos := v.pos, arms := v.arms }) (y := { u with pos := v.pos, arms := v.arms, way := v.way }) (v := .int .i64 v.way) e1 (by omega) rfl
  rw [List.set_set] at s2
  have e2 : (xs.set i { u with pos := v.pos, arms := v.arms, way := v.way })[i]? = some { u with pos := v.pos, arms := v.arms, way := v.way } := by simp [hil]
  have g2 : (xs.set i { u with pos := v.pos, arms := v.arms, way := v.way })[j]? = some v := by rw [List.getElem?_set, if_neg (by omega)]; exact gj
  have t0 := OW.setF s2 jC_len j 0 (x := v) (y := { v with pos := u.pos }) (v := .int .i64 u.pos) g2 (by omega) rfl
  have d0 : ((xs.set i { u with pos := v.pos, arms := v.arms, way := v.way }).set j { v with pos := u.pos })[j]? = some { v with pos := u.pos } := by simp [hjl]
  have t1 := OW.setF t0 jC_len j 1 (x := { v with pos := u.pos }) (y := { v with pos := u.pos, arms := u.arms }) (v := .int .i64 u.arms) d0 (by omega) rfl
  rw [List.set_set] at t1
  have d1 : ((xs.set i { u with pos := v.pos, arms := v.arms, way := v.way }).set j { v with pos := u.pos, arms := u.arms })[j]? = some { v with pos := u.pos, arms := u.arms } := by simp [hjl]
  have t2 := OW.setF t1 jC_len j 2 (x := { v with pos := u.pos, arms := u.arms }) (y := { v with pos := u.pos, arms := u.arms, way := u.way }) (v := .int .i64 u.way) d1 (by omega) rfl
  rw [List.set_set] at t2
  have d2 : ((xs.set i { u with pos := v.pos, arms := v.arms, way := v.way }).set j { v with pos := u.pos, arms := u.arms, way := u.way })[j]? = some { v with pos := u.pos, arms := u.arms, way := u.way } := by simp [hjl]
  exact t2
theorem exJ' {base b n c i j : Nat} {A B C : List Junc} {u v : Junc} {w : World} (h : OW jC 3 78 base w (some ⟨b, 0, none⟩) n c (A ++ u :: (B ++ v :: C))) (hi : A.length = i) (hj : A.length + B.length + 1 = j) :
    OW jC 3 78 base ((((((w.setCell ⟨b, j * 3 + 0, none⟩ (.int .i64 u.pos)).setCell ⟨b, j * 3 + 1, none⟩ (.int .i64 u.arms)).setCell ⟨b, j * 3 + 2, none⟩ (.int .i64 u.way)).setCell ⟨b, i * 3 + 0, none⟩ (.int .i64 v.pos)).setCell ⟨b, i * 3 + 1, none⟩ (.int .i64 v.arms)).setCell ⟨b, i * 3 + 2, none⟩ (.int .i64 v.way)) (some ⟨b, 0, none⟩) n c (A ++ v :: (B ++ u :: C)) := by
  have gi := getElem?_mid A u (B ++ v :: C) hi
  have gj := get_second A u B v C hj
  have hil : i < (A ++ u :: (B ++ v :: C)).length := (List.getElem?_eq_some_iff.1 gi).1
  have hjl : j < (A ++ u :: (B ++ v :: C)).length := (List.getElem?_eq_some_iff.1 gj).1
  have hres : ((A ++ u :: (B ++ v :: C)).set j u).set i v = A ++ v :: (B ++ u :: C) := by
    rw [List.set_comm _ _ (by omega : j ≠ i)]
    exact swp_mid A u B v C hi hj
  rw [← hres]
  have hne : i ≠ j := by omega
  generalize A ++ u :: (B ++ v :: C) = xs at h gi gj hil hjl ⊢
  clear hres hi hj
  have s0 := OW.setF h jC_len j 0 (x := v) (y := { v with pos := u.pos }) (v := .int .i64 u.pos) gj (by omega) rfl
  have e0 : (xs.set j { v with pos := u.pos })[j]? = some { v with pos := u.pos } := by simp [hjl]
  have s1 := OW.setF s0 jC_len j 1 (x := { v with pos := u.pos }) (y := { v with pos := u.pos, arms := u.arms }) (v := .int .i64 u.arms) e0 (by omega) rfl
  rw [List.set_set] at s1
  have e1 : (xs.set j { v with pos := u.pos, arms := u.arms })[j]? = some { v with pos := u.pos, arms := u.arms } := by simp [hjl]
  have s2 := OW.setF s1 jC_len j 2 (x := { v with pos := u.pos, arms := u.arms }) (y := { v with pos := u.pos, arms := u.arms, way := u.way }) (v := .int .i64 u.way) e1 (by omega) rfl
  rw [List.set_set] at s2
  have e2 : (xs.set j { v with pos := u.pos, arms := u.arms, way := u.way })[j]? = some { v with pos := u.pos, arms := u.arms, way := u.way } := by simp [hjl]
  have g2 : (xs.set j { v with pos := u.pos, arms := u.arms, way := u.way })[i]? = some u := by rw [List.getElem?_set, if_neg (by omega)]; exact gi
  have t0 := OW.setF s2 jC_len i 0 (x := u) (y := { u with pos := v.pos }) (v := .int .i64 v.pos) g2 (by omega) rfl
  have d0 : ((xs.set j { v with pos := u.pos, arms := u.arms, way := u.way }).set i { u with pos := v.pos })[i]? = some { u with pos := v.pos } := by simp [hil]
  have t1 := OW.setF t0 jC_len i 1 (x := { u with pos := v.pos }) (y := { u with pos := v.pos, arms := v.arms }) (v := .int .i64 v.arms) d0 (by omega) rfl
  rw [List.set_set] at t1
  have d1 : ((xs.set j { v with pos := u.pos, arms := u.arms, way := u.way }).set i { u with pos := v.pos, arms := v.arms })[i]? = some { u with pos := v.pos, arms := v.arms } := by simp [hil]
  have t2 := OW.setF t1 jC_len i 2 (x := { u with pos := v.pos, arms := v.arms }) (y := { u with pos := v.pos, arms := v.arms, way := v.way }) (v := .int .i64 v.way) d1 (by omega) rfl
  rw [List.set_set] at t2
  have d2 : ((xs.set j { v with pos := u.pos, arms := u.arms, way := u.way }).set i { u with pos := v.pos, arms := v.arms, way := v.way })[i]? = some { u with pos := v.pos, arms := v.arms, way := v.way } := by simp [hil]
  exact t2
set_option maxRecDepth 100000 in
set_option maxHeartbeats 4000000 in
theorem SwRJ (base b n c a d m : Nat) (P U M V Q : List Junc) (w : World) (h : OW jC 3 78 base w (some ⟨b, 0, none⟩) n c (P ++ (U ++ (M ++ (V ++ Q))))) (hP : P.length = a) (hU : U.length = m) (hV : V.length = m) (hd : a + m + M.length = d) (hn : n ≤ 100000) :
    Calls Tryz.prog 140 #[.slice (some ⟨b, 0, none⟩) n c, .int .i64 a, .int .i64 d, .int .i64 m, .func (.func 35) #[] #[]] w fun e w' => (∃ v, e = .returned v) ∧ OW jC 3 78 base w' (some ⟨b, 0, none⟩) n c (P ++ (V ++ (M ++ (U ++ Q)))) ∧ w.grownBy w' (some b) := by
  have hmo : Tryz.prog.follows .mixedOrders = true := by kernel_rfl
  rw [← st_zero] at h
  have HH := Lib.hid h
  have HD := Lib.hid (st_done (P := P) (M := M) (Q := Q) hU hV)
  have HR := Lib.hid (fun k (hk : k < m) => st_round (P := P) (M := M) (Q := Q) hU hV hk)
  have HN : n = P.length + m + M.length + m + Q.length := by rw [h.2]; simp [st]; omega
  have hnn : d + m ≤ n := by omega
  rw [hP, hd] at HR
  clear h hU hV HN
  go_enter Tryz.func140, Tryz.ntmps140
  go_wp2_with fail
  go_loopw [10] (fun i wr => ∃ k : Nat, k ≤ m ∧ i = .int .i64 k ∧ OW jC 3 78 base wr (some ⟨b, 0, none⟩) n c (st P U M V Q k) ∧ w.grownBy wr (some b))
    (fun i _ => m - (intOf i).toNat)
  case atStart => exact ⟨0, Nat.zero_le _, rfl, HH.out, World.grownBy.refl w _⟩
  case round =>
    obtain ⟨k, hk, rfl, hO, hg⟩ := hrel
    by_cases hlt : k < m
    · obtain ⟨A, u, B, v, C, e1, e2, e3, e4⟩ := HR.out k hlt
      rw [e1] at hO
      have HE := Lib.hid e2
      have HA := Lib.hid e3
      have HB := Lib.hid e4
      obtain ⟨b', hb', hbl, _, hfz, hrow⟩ := hO.at_ jC_len _ rfl
      cases hb'
      have gi := getElem?_mid A u (B ++ v :: C) e3
      have gj := get_second A u B v C e4
      clear e1 e2 e3 e4
      have x0 := hrow (a + k) u gi 0 _ rfl
      have x1 := hrow (a + k) u gi 1 _ rfl
      have x2 := hrow (a + k) u gi 2 _ rfl
      have hax : ∀ q, 0 + (a + k) * 3 + q = (a + k) * 3 + q := fun q => by omega
      rw [hax] at x0 x1 x2
      rw [Nat.add_zero] at x0
      clear hax
      have y0 := hrow (d + k) v gj 0 _ rfl
      have y1 := hrow (d + k) v gj 1 _ rfl
      have y2 := hrow (d + k) v gj 2 _ rfl
      have hay : ∀ q, 0 + (d + k) * 3 + q = (d + k) * 3 + q := fun q => by omega
      rw [hay] at y0 y1 y2
      rw [Nat.add_zero] at y0
      clear hay
      have hwa : IntKind.i64.wrap ((a : Int) + (k : Int)) = ((a + k : Nat) : Int) := by rw [Int.natCast_add]; exact IntWalk.i64_in _ (by omega)
      have hwd : IntKind.i64.wrap ((d : Int) + (k : Int)) = ((d + k : Nat) : Int) := by rw [Int.natCast_add]; exact IntWalk.i64_in _ (by omega)
      have hi1 : (0 : Int) ≤ ((a + k : Nat) : Int) := by omega
      have hi2 : ((a + k : Nat) : Int) < (n : Int) := by omega
      have hi3 : (0 : Int) ≤ ((d + k : Nat) : Int) := by omega
      have hi4 : ((d + k : Nat) : Int) < (n : Int) := by omega
      clear hrow gi gj
      go_wp2_with fail
      go_region
      go_wp2_with fail
      go_roundw
      case rel =>
        exact ⟨k + 1, by omega, by go_num, by rw [HE.out]; exact OW.drew (exJ hO HA.out HB.out), only_drew (only_set (only_set (only_set (only_set (only_set (only_set hg _) _) _) _) _) _)⟩
      case measure => simp [intOf]; omega
    · obtain rfl : k = m := by omega
      rw [HD.out] at hO
      go_wp2_with fail
      go_end0
      exact ⟨⟨_, rfl⟩, hO, hg⟩
end Go.Proofs.YtijcbfhlhgjedaaGreatDoor

/- slices.rotateCmpFunc at crests and junctions. -/
namespace Go.Proofs.YtijcbfhlhgjedaaGreatDoor
open Go.RowKit Go.Shelf Go.Sort Go.Proofs

set_option maxRecDepth 100000 in
set_option maxHeartbeats 4000000 in
theorem RotC (base b n c a m e : Nat) (P U V Q : List Crest) (w : World) (h : OW cC 2 76 base w (some ⟨b, 0, none⟩) n c (P ++ (U ++ (V ++ Q)))) (hP : P.length = a) (hm : a + U.length = m) (he : m + V.length = e) (hU : 0 < U.length) (hV : 0 < V.length) (hn : n ≤ 100000) :
    Calls Tryz.prog 128 #[.slice (some ⟨b, 0, none⟩) n c, .int .i64 a, .int .i64 m, .int .i64 e, .func (.func 31) #[] #[]] w fun ev w' => (∃ v, ev = .returned v) ∧ OW cC 2 76 base w' (some ⟨b, 0, none⟩) n c (P ++ (V ++ (U ++ Q))) ∧ w.grownBy w' (some b) := by
  have HH := Lib.hid h
  have HN : n = P.length + U.length + V.length + Q.length := by rw [h.2]; simp; omega
  have hme : m ≤ n := by omega
  have hen : e ≤ n := by omega
  have hma : IntKind.i64.wrap ((m : Int) - (a : Int)) = ((U.length : Nat) : Int) := by rw [show ((m : Int) - (a : Int)) = ((U.length : Nat) : Int) by omega]; exact IntWalk.i64_in _ (by omega)
  have hem : IntKind.i64.wrap ((e : Int) - (m : Int)) = ((V.length : Nat) : Int) := by rw [show ((e : Int) - (m : Int)) = ((V.length : Nat) : Int) by omega]; exact IntWalk.i64_in _ (by omega)
  have HM : P.length + U.length = m := by omega
  clear h HN
  go_enter Tryz.func128, Tryz.ntmps128
  go_wp2_with fail
  clear hma hem
  go_loopw [10, 11] (fun iv jv wr => ∃ (i j : Nat) (D X Y E : List Crest), iv = .int .i64 i ∧ jv = .int .i64 j ∧ X.length = i ∧ Y.length = j ∧ 0 < i ∧ 0 < j ∧ P.length + D.length + i = m ∧ m + j ≤ n ∧ Hid (D ++ (Y ++ (X ++ E)) = V ++ U) ∧ OW cC 2 76 base wr (some ⟨b, 0, none⟩) n c (P ++ (D ++ (X ++ (Y ++ (E ++ Q))))) ∧ w.grownBy wr (some b))
    (fun iv jv _ => (intOf iv).toNat + (intOf jv).toNat)
  case atStart => exact ⟨U.length, V.length, [], U, V, [], rfl, rfl, rfl, rfl, hU, hV, by simp; exact HM, by omega, by show _ = _; simp, HH.out, World.grownBy.refl w _⟩
  case round =>
    obtain ⟨i, j, D, X, Y, E, rfl, rfl, hX, hY, hi0, hj0, hDm, hjn, HT, hO, hg⟩ := hrel
    have hmi : IntKind.i64.wrap ((m : Int) - (i : Int)) = ((m - i : Nat) : Int) := by rw [show ((m : Int) - (i : Int)) = ((m - i : Nat) : Int) by omega]; exact IntWalk.i64_in _ (by omega)
    rw [← List.append_assoc] at hO
    have hPD : (P ++ D).length = m - i := by simp; omega
    by_cases hne : i = j
    · subst hne
      go_wp2_with fail
      refine (SwRC base b n c (m - i) m i (P ++ D) X [] Y (E ++ Q) _ (by simpa only [List.append_assoc, List.nil_append] using hO) hPD hX hY (by simp; omega) hn).mono ?_
      rintro ev w2 ⟨⟨v, rfl⟩, hO2, hg2⟩
      go_wp2_with fail
      go_end0
      refine ⟨⟨_, rfl⟩, ?_, only_trans hg hg2⟩
      have := HT.out
      have e2 : P ++ (V ++ (U ++ Q)) = (P ++ D) ++ (Y ++ ([] ++ (X ++ (E ++ Q)))) := by
        rw [← List.append_assoc V, ← this]; simp
      rw [e2]
      exact hO2
    · have hne' : ¬ (i : Int) = (j : Int) := by omega
      by_cases hgt : j < i
      · obtain ⟨X1, X2, hX12, hX1, hX2⟩ : ∃ X1 X2, X = X1 ++ X2 ∧ X1.length = j ∧ X2.length = i - j := ⟨X.take j, X.drop j, by simp, by simp; omega, by simp; omega⟩
        subst hX12
        have hij : IntKind.i64.wrap ((i : Int) - (j : Int)) = ((i - j : Nat) : Int) := by rw [show ((i : Int) - (j : Int)) = ((i - j : Nat) : Int) by omega]; exact IntWalk.i64_in _ (by omega)
        go_wp2_with fail
        refine (SwRC base b n c (m - i) m j (P ++ D) X1 X2 Y (E ++ Q) _ (by simpa only [List.append_assoc] using hO) hPD hX1 hY (by omega) hn).mono ?_
        rintro ev w2 ⟨⟨v, rfl⟩, hO2, hg2⟩
        go_wp2_with fail
        go_roundw
        case rel =>
          refine ⟨i - j, j, D ++ Y, X2, X1, E, rfl, rfl, hX2, hX1, by omega, hj0, by simp; omega, by omega, ?_, ?_, only_trans hg hg2⟩
          · show _ = _
            rw [← HT.out]; simp
          · have e2 : P ++ (D ++ Y ++ (X2 ++ (X1 ++ (E ++ Q)))) = (P ++ D) ++ (Y ++ (X2 ++ (X1 ++ (E ++ Q)))) := by simp
            rw [e2]; exact hO2
        case measure => simp [intOf]; omega
      · obtain ⟨Y1, Y2, hY12, hY1, hY2⟩ : ∃ Y1 Y2, Y = Y1 ++ Y2 ∧ Y1.length = j - i ∧ Y2.length = i := ⟨Y.take (j - i), Y.drop (j - i), by simp, by simp; omega, by simp; omega⟩
        subst hY12
        have hji : IntKind.i64.wrap ((j : Int) - (i : Int)) = ((j - i : Nat) : Int) := by rw [show ((j : Int) - (i : Int)) = ((j - i : Nat) : Int) by omega]; exact IntWalk.i64_in _ (by omega)
        obtain ⟨z, hz⟩ : ∃ z : Nat, z = m + j - i := ⟨_, rfl⟩
        have hmj : IntKind.i64.wrap ((m : Int) + (j : Int)) = (z : Int) + (i : Int) := by rw [show ((m : Int) + (j : Int)) = (z : Int) + (i : Int) by omega]; exact IntWalk.i64_in _ (by omega)
        have hmji : IntKind.i64.wrap (z : Int) = (z : Int) := IntWalk.i64_in _ (by omega)
        have HZ := Lib.hid hz
        clear hz
        go_wp2_with fail
        refine (SwRC base b n c (m - i) z i (P ++ D) X Y1 Y2 (E ++ Q) _ (by simpa only [List.append_assoc] using hO) hPD hX hY2 (by have := HZ.out; omega) hn).mono ?_
        rintro ev w2 ⟨⟨v, rfl⟩, hO2, hg2⟩
        go_wp2_with fail
        go_roundw
        case rel =>
          refine ⟨i, j - i, D, Y2, Y1, X ++ E, rfl, rfl, hY2, hY1, hi0, by omega, hDm, by omega, ?_, ?_, only_trans hg hg2⟩
          · show _ = _
            rw [← HT.out]; simp
          · have e2 : P ++ (D ++ (Y2 ++ (Y1 ++ (X ++ E ++ Q)))) = (P ++ D) ++ (Y2 ++ (Y1 ++ (X ++ (E ++ Q)))) := by simp
            rw [e2]; exact hO2
        case measure => simp [intOf]; omega
set_option maxRecDepth 100000 in
set_option maxHeartbeats 4000000 in
theorem RotJ (base b n c a m e : Nat) (P U V Q : List Junc) (w : World) (h : OW jC 3 78 base w (some ⟨b, 0, none⟩) n c (P ++ (U ++ (V ++ Q)))) (hP : P.length = a) (hm : a + U.length = m) (he : m + V.length = e) (hU : 0 < U.length) (hV : 0 < V.length) (hn : n ≤ 100000) :
    Calls Tryz.prog 129 #[.slice (some ⟨b, 0, none⟩) n c, .int .i64 a, .int .i64 m, .int .i64 e, .func (.func 35) #[] #[]] w fun ev w' => (∃ v, ev = .returned v) ∧ OW jC 3 78 base w' (some ⟨b, 0, none⟩) n c (P ++ (V ++ (U ++ Q))) ∧ w.grownBy w' (some b) := by
  have HH := Lib.hid h
  have HN : n = P.length + U.length + V.length + Q.length := by rw [h.2]; simp; omega
  have hme : m ≤ n := by omega
  have hen : e ≤ n := by omega
  have hma : IntKind.i64.wrap ((m : Int) - (a : Int)) = ((U.length : Nat) : Int) := by rw [show ((m : Int) - (a : Int)) = ((U.length : Nat) : Int) by omega]; exact IntWalk.i64_in _ (by omega)
  have hem : IntKind.i64.wrap ((e : Int) - (m : Int)) = ((V.length : Nat) : Int) := by rw [show ((e : Int) - (m : Int)) = ((V.length : Nat) : Int) by omega]; exact IntWalk.i64_in _ (by omega)
  have HM : P.length + U.length = m := by omega
  clear h HN
  go_enter Tryz.func129, Tryz.ntmps129
  go_wp2_with fail
  clear hma hem
  go_loopw [10, 11] (fun iv jv wr => ∃ (i j : Nat) (D X Y E : List Junc), iv = .int .i64 i ∧ jv = .int .i64 j ∧ X.length = i ∧ Y.length = j ∧ 0 < i ∧ 0 < j ∧ P.length + D.length + i = m ∧ m + j ≤ n ∧ Hid (D ++ (Y ++ (X ++ E)) = V ++ U) ∧ OW jC 3 78 base wr (some ⟨b, 0, none⟩) n c (P ++ (D ++ (X ++ (Y ++ (E ++ Q))))) ∧ w.grownBy wr (some b))
    (fun iv jv _ => (intOf iv).toNat + (intOf jv).toNat)
  case atStart => exact ⟨U.length, V.length, [], U, V, [], rfl, rfl, rfl, rfl, hU, hV, by simp; exact HM, by omega, by show _ = _; simp, HH.out, World.grownBy.refl w _⟩
  case round =>
    obtain ⟨i, j, D, X, Y, E, rfl, rfl, hX, hY, hi0, hj0, hDm, hjn, HT, hO, hg⟩ := hrel
    have hmi : IntKind.i64.wrap ((m : Int) - (i : Int)) = ((m - i : Nat) : Int) := by rw [show ((m : Int) - (i : Int)) = ((m - i : Nat) : Int) by omega]; exact IntWalk.i64_in _ (by omega)
    rw [← List.append_assoc] at hO
    have hPD : (P ++ D).length = m - i := by simp; omega
    by_cases hne : i = j
    · subst hne
      go_wp2_with fail
      refine (SwRJ base b n c (m - i) m i (P ++ D) X [] Y (E ++ Q) _ (by simpa only [List.append_assoc, List.nil_append] using hO) hPD hX hY (by simp; omega) hn).mono ?_
      rintro ev w2 ⟨⟨v, rfl⟩, hO2, hg2⟩
      go_wp2_with fail
      go_end0
      refine ⟨⟨_, rfl⟩, ?_, only_trans hg hg2⟩
      have := HT.out
      have e2 : P ++ (V ++ (U ++ Q)) = (P ++ D) ++ (Y ++ ([] ++ (X ++ (E ++ Q)))) := by
        rw [← List.append_assoc V, ← this]; simp
      rw [e2]
      exact hO2
    · have hne' : ¬ (i : Int) = (j : Int) := by omega
      by_cases hgt : j < i
      · obtain ⟨X1, X2, hX12, hX1, hX2⟩ : ∃ X1 X2, X = X1 ++ X2 ∧ X1.length = j ∧ X2.length = i - j := ⟨X.take j, X.drop j, by simp, by simp; omega, by simp; omega⟩
        subst hX12
        have hij : IntKind.i64.wrap ((i : Int) - (j : Int)) = ((i - j : Nat) : Int) := by rw [show ((i : Int) - (j : Int)) = ((i - j : Nat) : Int) by omega]; exact IntWalk.i64_in _ (by omega)
        go_wp2_with fail
        refine (SwRJ base b n c (m - i) m j (P ++ D) X1 X2 Y (E ++ Q) _ (by simpa only [List.append_assoc] using hO) hPD hX1 hY (by omega) hn).mono ?_
        rintro ev w2 ⟨⟨v, rfl⟩, hO2, hg2⟩
        go_wp2_with fail
        go_roundw
        case rel =>
          refine ⟨i - j, j, D ++ Y, X2, X1, E, rfl, rfl, hX2, hX1, by omega, hj0, by simp; omega, by omega, ?_, ?_, only_trans hg hg2⟩
          · show _ = _
            rw [← HT.out]; simp
          · have e2 : P ++ (D ++ Y ++ (X2 ++ (X1 ++ (E ++ Q)))) = (P ++ D) ++ (Y ++ (X2 ++ (X1 ++ (E ++ Q)))) := by simp
            rw [e2]; exact hO2
        case measure => simp [intOf]; omega
      · obtain ⟨Y1, Y2, hY12, hY1, hY2⟩ : ∃ Y1 Y2, Y = Y1 ++ Y2 ∧ Y1.length = j - i ∧ Y2.length = i := ⟨Y.take (j - i), Y.drop (j - i), by simp, by simp; omega, by simp; omega⟩
        subst hY12
        have hji : IntKind.i64.wrap ((j : Int) - (i : Int)) = ((j - i : Nat) : Int) := by rw [show ((j : Int) - (i : Int)) = ((j - i : Nat) : Int) by omega]; exact IntWalk.i64_in _ (by omega)
        obtain ⟨z, hz⟩ : ∃ z : Nat, z = m + j - i := ⟨_, rfl⟩
        have hmj : IntKind.i64.wrap ((m : Int) + (j : Int)) = (z : Int) + (i : Int) := by rw [show ((m : Int) + (j : Int)) = (z : Int) + (i : Int) by omega]; exact IntWalk.i64_in _ (by omega)
        have hmji : IntKind.i64.wrap (z : Int) = (z : Int) := IntWalk.i64_in _ (by omega)
        have HZ := Lib.hid hz
        clear hz
        go_wp2_with fail
        refine (SwRJ base b n c (m - i) z i (P ++ D) X Y1 Y2 (E ++ Q) _ (by simpa only [List.append_assoc] using hO) hPD hX hY2 (by have := HZ.out; omega) hn).mono ?_
        rintro ev w2 ⟨⟨v, rfl⟩, hO2, hg2⟩
        go_wp2_with fail
        go_roundw
        case rel =>
          refine ⟨i, j - i, D, Y2, Y1, X ++ E, rfl, rfl, hY2, hY1, hi0, by omega, hDm, by omega, ?_, ?_, only_trans hg hg2⟩
          · show _ = _
            rw [← HT.out]; simp
          · have e2 : P ++ (D ++ (Y2 ++ (Y1 ++ (X ++ E ++ Q)))) = (P ++ D) ++ (Y2 ++ (Y1 ++ (X ++ (E ++ Q)))) := by simp
            rw [e2]; exact hO2
        case measure => simp [intOf]; omega
end Go.Proofs.YtijcbfhlhgjedaaGreatDoor

/- slices.insertionSortCmpFunc at crests and junctions. -/
namespace Go.Proofs.YtijcbfhlhgjedaaGreatDoor
open Go.RowKit Go.Shelf Go.Sort Go.Proofs

theorem snoc_or {α : Type} (l : List α) : l = [] ∨ ∃ l' x, l = l' ++ [x] := by
  induction l using snoc_ind with
  | h0 => exact .inl rfl
  | h1 l x _ => exact .inr ⟨l, x, rfl⟩
theorem ins_step {α : Type} (key : α → Int) {C : List α} {k : Nat} (hk : k + 1 < C.length) : ∃ x, C.drop (k + 1) = x :: C.drop (k + 2) ∧ ssort key (C.take (k + 2)) = insR key (ssort key (C.take (k + 1))) x := by
  refine ⟨C[k + 1], List.drop_eq_getElem_cons hk, ?_⟩
  rw [List.take_succ_eq_append_getElem hk, ssort_snoc]
theorem ins_one {α : Type} (key : α → Int) (C : List α) : ssort key (C.take 1) = C.take 1 := by cases C <;> rfl
theorem insR_here {α : Type} (key : α → Int) {x y : α} {S1 S2 : List α} (hS : Srt key (S1 ++ [y] ++ S2)) (hy : key y ≤ key x) (h2 : ∀ z ∈ S2, key x < key z) : insR key (S1 ++ [y] ++ S2) x = S1 ++ [y] ++ x :: S2 := by
  refine insR_split key (fun z hz => ?_) h2
  have h := (List.pairwise_append.1 hS).1
  rcases List.mem_append.1 hz with hz | hz
  · have := (List.pairwise_append.1 h).2.2 z hz y (List.mem_cons_self ..)
    omega
  · rw [List.mem_singleton] at hz
    subst hz
    exact hy
set_option maxRecDepth 100000 in
set_option maxHeartbeats 8000000 in
theorem InsC (base b n c a e : Nat) (P C Q : List Crest) (w : World) (h : OW cC 2 76 base w (some ⟨b, 0, none⟩) n c (P ++ (C ++ Q))) (hP : P.length = a) (he : a + C.length = e) (hn : n ≤ 100000) :
    Calls Tryz.prog 108 #[.slice (some ⟨b, 0, none⟩) n c, .int .i64 a, .int .i64 e, .func (.func 31) #[] #[]] w fun ev w' => (∃ v, ev = .returned v) ∧ OW cC 2 76 base w' (some ⟨b, 0, none⟩) n c (P ++ (ssort (fun x : Crest => x.pos) C ++ Q)) ∧ w.grownBy w' (some b) := by
  have hmo : Tryz.prog.follows .mixedOrders = true := by kernel_rfl
  have HH := Lib.hid h
  have HN : n = P.length + C.length + Q.length := by rw [h.2]; simp; omega
  have hen : e ≤ n := by omega
  have HP := Lib.hid hP
  have HE := Lib.hid he
  obtain ⟨i0, hi0⟩ : ∃ i0, i0 = a + 1 := ⟨_, rfl⟩
  have hwa : IntKind.i64.wrap ((a : Int) + 1) = (i0 : Int) := by rw [show (a : Int) + 1 = (i0 : Int) by omega]; exact IntWalk.i64_in _ (by omega)
  have HI0 := Lib.hid hi0
  clear h HN hP he hi0
  go_enter Tryz.func108, Tryz.ntmps108
  go_wp2_with fail
  clear hwa
  go_loopw [8] (fun iv wr => ∃ k i : Nat, iv = .int .i64 i ∧ Hid (i = a + 1 + k) ∧ k ≤ C.length ∧ OW cC 2 76 base wr (some ⟨b, 0, none⟩) n c (P ++ (ssort (fun x : Crest => x.pos) (C.take (k + 1)) ++ (C.drop (k + 1) ++ Q))) ∧ w.grownBy wr (some b))
    (fun iv _ => e - (intOf iv).toNat)
  case atStart => exact ⟨0, i0, rfl, HI0.out, Nat.zero_le _, by rw [ins_one, ← List.append_assoc (C.take 1), List.take_append_drop]; exact HH.out, World.grownBy.refl w _⟩
  case round =>
    obtain ⟨k, i, rfl, HI, hkC, hO, hg⟩ := hrel
    by_cases hlt : i < e
    · have hk1 : k + 1 < C.length := by have := HI.out; have := HE.out; omega
      obtain ⟨x, hx, hss⟩ := ins_step (fun x : Crest => x.pos) hk1
      have HSR := Lib.hid (ssort_srt (fun x : Crest => x.pos) (C.take (k + 1)))
      have HSL := Lib.hid (ssort_len (fun x : Crest => x.pos) (C.take (k + 1)))
      have HC1 := Lib.hid hk1
      have HSS := Lib.hid hss
      rw [hx] at hO
      generalize ssort (fun x : Crest => x.pos) (C.take (k + 1)) = S at hO hss HSR HSL HSS
      obtain ⟨D, hD⟩ : ∃ D, D = C.drop (k + 2) ++ Q := ⟨_, rfl⟩
      have HD := Lib.hid hD
      rw [List.cons_append, ← hD] at hO
      have HOS := Lib.hid hO
      have HG := Lib.hid hg
      have hSl : S.length = k + 1 := by rw [HSL.out, List.length_take]; omega
      have HSl := Lib.hid hSl
      obtain ⟨i1, hi1⟩ : ∃ i1, i1 = i + 1 := ⟨_, rfl⟩
      have hwi : IntKind.i64.wrap ((i : Int) + 1) = (i1 : Int) := by rw [show (i : Int) + 1 = (i1 : Int) by omega]; exact IntWalk.i64_in _ (by omega)
      have HI1 := Lib.hid hi1
      clear hx hss hO hg hD hSl hi1 hk1
      go_wp2_with fail
      go_loopw [9] (fun jv wq => ∃ (J : Nat) (S1 S2 : List Crest), jv = .int .i64 J ∧ Hid (J = a + S1.length) ∧ Hid (S = S1 ++ S2) ∧ Hid (∀ y ∈ S2, x.pos < y.pos) ∧ OW cC 2 76 base wq (some ⟨b, 0, none⟩) n c (P ++ (S1 ++ x :: (S2 ++ D))) ∧ w.grownBy wq (some b))
        (fun jv _ => (intOf jv).toNat)
      case atStart => exact ⟨i, S, [], rfl, by have := HI.out; have := HSl.out; show _ = _; omega, by show _ = _; simp, Lib.hid (fun y (hy : y ∈ ([] : List Crest)) => by cases hy), HOS.out, HG.out⟩
      case round =>
        obtain ⟨J, S1, S2, rfl, HJ, HS12, HS2, hO2, hg2⟩ := hrel
        rcases snoc_or S1 with rfl | ⟨S1, y, rfl⟩
        · obtain rfl : J = a := HJ.out
          go_wp2_with fail
          go_quiet (fail)
          go_wp2_with fail
          go_roundw
          case rel =>
            refine ⟨k + 1, i1, rfl, by have := HI.out; have := HI1.out; show _ = _; omega, by have := HC1.out; omega, ?_, only_drewN hg2 nq⟩
            have := HSS.out
            rw [show k + 1 + 1 = k + 2 from rfl, this]
            have e2 : insR (fun x : Crest => x.pos) S x = x :: S2 := by
              have := HS12.out; simp only [List.nil_append] at this
              rw [this]; exact insR_split (fun x : Crest => x.pos) (S1 := []) (fun z hz => by cases hz) HS2.out
            exact by rw [e2]; have := OW.drewN hO2 nq; rw [HD.out] at this; simpa only [List.nil_append, List.cons_append, List.append_assoc] using this
          case measure => have := HI1.out; simp [intOf]; omega
        · obtain ⟨J1, hJ1⟩ : ∃ J1, J1 = a + S1.length := ⟨_, rfl⟩
          have hJJ : J = J1 + 1 := by have := HJ.out; simp at this; omega
          have e1 : P ++ (S1 ++ [y] ++ x :: (S2 ++ D)) = (P ++ S1) ++ y :: ([] ++ x :: (S2 ++ D)) := by simp
          rw [e1] at hO2
          have hA : (P ++ S1).length = J1 := by have := HP.out; simp; omega
          have hB : (P ++ S1).length + ([] : List Crest).length + 1 = J := by simp; have := HP.out; omega
          obtain ⟨b', hb', hbl, _, hfz, hrow⟩ := hO2.at_ cC_len _ rfl
          cases hb'
          have gi := getElem?_mid (P ++ S1) y ([] ++ x :: (S2 ++ D)) hA
          have gj := get_second (P ++ S1) y [] x (S2 ++ D) hB
          have hJn : J < n := by
            have := (List.getElem?_eq_some_iff.1 gj).1
            rw [hO2.2]; exact this
          have x0' := hrow (J) x gj 0 _ rfl
          have x1' := hrow (J) x gj 1 _ rfl
          have hax : ∀ q, 0 + (J) * 2 + q = (J) * 2 + q := fun q => by omega
          rw [hax] at x0' x1'
          rw [Nat.add_zero] at x0'
          have x0 := fun d os => cell_regrown x0' d os
          have x1 := fun d os => cell_regrown x1' d os
          clear hax
          have y0' := hrow (J1) y gi 0 _ rfl
          have y1' := hrow (J1) y gi 1 _ rfl
          have hay : ∀ q, 0 + (J1) * 2 + q = (J1) * 2 + q := fun q => by omega
          rw [hay] at y0' y1'
          rw [Nat.add_zero] at y0'
          have y0 := fun d os => cell_regrown y0' d os
          have y1 := fun d os => cell_regrown y1' d os
          clear hay
          have hw1 : IntKind.i64.wrap ((J : Int) - 1) = (J1 : Int) := by rw [show (J : Int) - 1 = (J1 : Int) by omega]; exact IntWalk.i64_in _ (by omega)
          have hi1 : (0 : Int) ≤ (J : Int) := by omega
          have hi2 : (J : Int) < (n : Int) := by omega
          have hi3 : (0 : Int) ≤ (J1 : Int) := by omega
          have hi4 : (J1 : Int) < (n : Int) := by omega
          have hja : a < J := by omega
          have hjj : J1 < J := by omega
          have HA := Lib.hid hA
          have HB := Lib.hid hB
          have HJJ := Lib.hid hJJ
          have HJ1 := Lib.hid hJ1
          clear gi gj hA hB e1 hJJ hJ1
          go_wp2_with fail
          refine wp_region_ch 16 [14] hmo (by kernel_rfl) ?_
          simp only [List.take_succ_cons, List.take_zero, List.drop_succ_cons, List.drop_zero]
          repeat (refine wpC_q (by decide) (by decide) (fun K hK => ?_); go_simp; refine hK _ ?_; clear hK K)
          refine wpC_cg (ι := Unit) 31 #[.agg #[.int .i64 x.pos, .int .i64 x.siz], .agg #[.int .i64 y.pos, .int .i64 y.siz]] (fun _ => .int .i64 (cmpI x.pos y.pos)) (fun _ _ => True) (by decide) (by decide) (by go_simp) (fun w => by go_simp) stable_true (fun _ => stable_true) (fun W hW _ => ?_) (fun ix1 hs1 => ?_)
          · refine (cmpC_any x y W).mono ?_
            rintro ev w' ⟨rfl, hbl⟩
            exact ⟨(), rfl, trivial, hbl⟩
          repeat (refine wpC_q (by decide) (by decide) (fun K hK => ?_); go_simp; refine hK _ ?_; clear hK K)
          refine wpC_nil ?_
          intro w3 hbc _
          clear hs1
          have hO3 := hO2.call hbc
          have hg3 := only_grown hg2 hbc
          clear hrow hO2 hg2 x0 x0' x1 x1' y0 y0' y1 y1'
          by_cases hxy : x.pos < y.pos
          · have d1 : decide (cmpI x.pos y.pos < 0) = true := by rw [cmpI_lt]; simpa using hxy
            have HXY := Lib.hid hxy
            clear hxy
            obtain ⟨b', hb', hbl, _, hfz, hrow⟩ := hO3.at_ cC_len _ rfl
            cases hb'
            have gi := getElem?_mid (P ++ S1) y ([] ++ x :: (S2 ++ D)) HA.out
            have gj := get_second (P ++ S1) y [] x (S2 ++ D) HB.out
            have x0 := hrow (J) x gj 0 _ rfl
            have x1 := hrow (J) x gj 1 _ rfl
            have hax : ∀ q, 0 + (J) * 2 + q = (J) * 2 + q := fun q => by omega
            rw [hax] at x0 x1
            rw [Nat.add_zero] at x0
            clear hax
            have y0 := hrow (J1) y gi 0 _ rfl
            have y1 := hrow (J1) y gi 1 _ rfl
            have hay : ∀ q, 0 + (J1) * 2 + q = (J1) * 2 + q := fun q => by omega
            rw [hay] at y0 y1
            rw [Nat.add_zero] at y0
            clear hay
            clear hrow gi gj
            go_wp2_with fail
            go_region
            go_wp2_with fail
            go_roundw
            case rel =>
              refine ⟨J1, S1, y :: S2, rfl, HJ1.out, by show _ = _; rw [HS12.out]; simp, ?_, ?_, only_drew (only_set (only_set (only_set (only_set hg3 _) _) _) _)⟩
              · show ∀ z ∈ _, _
                intro z hz
                rcases List.mem_cons.1 hz with rfl | hz
                · exact HXY.out
                · exact HS2.out z hz
              · have := OW.drew (exC' hO3 HA.out HB.out)
                simpa only [List.nil_append, List.cons_append, List.append_assoc, Nat.add_zero] using this
            case measure => have := HJJ.out; simp [intOf]; omega
          · have d1 : decide (cmpI x.pos y.pos < 0) = false := by rw [cmpI_lt]; simpa using hxy
            have HXY := Lib.hid (show y.pos ≤ x.pos by omega)
            clear hxy
            go_wp2_with fail
            go_roundw
            case rel =>
              refine ⟨k + 1, i1, rfl, by have := HI.out; have := HI1.out; show _ = _; omega, by have := HC1.out; omega, ?_, hg3⟩
              have := HSS.out
              rw [show k + 1 + 1 = k + 2 from rfl, this]
              have e2 : insR (fun x : Crest => x.pos) S x = S1 ++ [y] ++ x :: S2 := by
                have h1 := HSR.out
                rw [HS12.out] at h1 ⊢
                exact insR_here (fun x : Crest => x.pos) h1 HXY.out HS2.out
              exact by rw [e2]; have := hO3; rw [HD.out] at this; simpa only [List.nil_append, List.cons_append, List.append_assoc] using this
            case measure => have := HI1.out; simp [intOf]; omega
    · have hCk : C.length ≤ k + 1 := by have := HI.out; have := HE.out; omega
      rw [List.take_of_length_le hCk, List.drop_of_length_le hCk, List.nil_append] at hO
      go_wp2_with fail
      go_end0
      exact ⟨⟨_, rfl⟩, hO, hg⟩
set_option maxRecDepth 100000 in
set_option maxHeartbeats 8000000 in
theorem InsJ (base b n c a e : Nat) (P C Q : List Junc) (w : World) (h : OW jC 3 78 base w (some ⟨b, 0, none⟩) n c (P ++ (C ++ Q))) (hP : P.length = a) (he : a + C.length = e) (hn : n ≤ 100000) :
    Calls Tryz.prog 110 #[.slice (some ⟨b, 0, none⟩) n c, .int .i64 a, .int .i64 e, .func (.func 35) #[] #[]] w fun ev w' => (∃ v, ev = .returned v) ∧ OW jC 3 78 base w' (some ⟨b, 0, none⟩) n c (P ++ (ssort (fun x : Junc => x.pos) C ++ Q)) ∧ w.grownBy w' (some b) := by
  have hmo : Tryz.prog.follows .mixedOrders = true := by kernel_rfl
  have HH := Lib.hid h
  have HN : n = P.length + C.length + Q.length := by rw [h.2]; simp; omega
  have hen : e ≤ n := by omega
  have HP := Lib.hid hP
  have HE := Lib.hid he
  obtain ⟨i0, hi0⟩ : ∃ i0, i0 = a + 1 := ⟨_, rfl⟩
  have hwa : IntKind.i64.wrap ((a : Int) + 1) = (i0 : Int) := by rw [show (a : Int) + 1 = (i0 : Int) by omega]; exact IntWalk.i64_in _ (by omega)
  have HI0 := Lib.hid hi0
  clear h HN hP he hi0
  go_enter Tryz.func110, Tryz.ntmps110
  go_wp2_with fail
  clear hwa
  go_loopw [8] (fun iv wr => ∃ k i : Nat, iv = .int .i64 i ∧ Hid (i = a + 1 + k) ∧ k ≤ C.length ∧ OW jC 3 78 base wr (some ⟨b, 0, none⟩) n c (P ++ (ssort (fun x : Junc => x.pos) (C.take (k + 1)) ++ (C.drop (k + 1) ++ Q))) ∧ w.grownBy wr (some b))
    (fun iv _ => e - (intOf iv).toNat)
  case atStart => exact ⟨0, i0, rfl, HI0.out, Nat.zero_le _, by rw [ins_one, ← List.append_assoc (C.take 1), List.take_append_drop]; exact HH.out, World.grownBy.refl w _⟩
  case round =>
    obtain ⟨k, i, rfl, HI, hkC, hO, hg⟩ := hrel
    by_cases hlt : i < e
    · have hk1 : k + 1 < C.length := by have := HI.out; have := HE.out; omega
      obtain ⟨x, hx, hss⟩ := ins_step (fun x : Junc => x.pos) hk1
      have HSR := Lib.hid (ssort_srt (fun x : Junc => x.pos) (C.take (k + 1)))
      have HSL := Lib.hid (ssort_len (fun x : Junc => x.pos) (C.take (k + 1)))
      have HC1 := Lib.hid hk1
      have HSS := Lib.hid hss
      rw [hx] at hO
      generalize ssort (fun x : Junc => x.pos) (C.take (k + 1)) = S at hO hss HSR HSL HSS
      obtain ⟨D, hD⟩ : ∃ D, D = C.drop (k + 2) ++ Q := ⟨_, rfl⟩
      have HD := Lib.hid hD
      rw [List.cons_append, ← hD] at hO
      have HOS := Lib.hid hO
      have HG := Lib.hid hg
      have hSl : S.length = k + 1 := by rw [HSL.out, List.length_take]; omega
      have HSl := Lib.hid hSl
      obtain ⟨i1, hi1⟩ : ∃ i1, i1 = i + 1 := ⟨_, rfl⟩
      have hwi : IntKind.i64.wrap ((i : Int) + 1) = (i1 : Int) := by rw [show (i : Int) + 1 = (i1 : Int) by omega]; exact IntWalk.i64_in _ (by omega)
      have HI1 := Lib.hid hi1
      clear hx hss hO hg hD hSl hi1 hk1
      go_wp2_with fail
      go_loopw [9] (fun jv wq => ∃ (J : Nat) (S1 S2 : List Junc), jv = .int .i64 J ∧ Hid (J = a + S1.length) ∧ Hid (S = S1 ++ S2) ∧ Hid (∀ y ∈ S2, x.pos < y.pos) ∧ OW jC 3 78 base wq (some ⟨b, 0, none⟩) n c (P ++ (S1 ++ x :: (S2 ++ D))) ∧ w.grownBy wq (some b))
        (fun jv _ => (intOf jv).toNat)
      case atStart => exact ⟨i, S, [], rfl, by have := HI.out; have := HSl.out; show _ = _; omega, by show _ = _; simp, Lib.hid (fun y (hy : y ∈ ([] : List Junc)) => by cases hy), HOS.out, HG.out⟩
      case round =>
        obtain ⟨J, S1, S2, rfl, HJ, HS12, HS2, hO2, hg2⟩ := hrel
        rcases snoc_or S1 with rfl | ⟨S1, y, rfl⟩
        · obtain rfl : J = a := HJ.out
          go_wp2_with fail
          go_quiet (fail)
          go_wp2_with fail
          go_roundw
          case rel =>
            refine ⟨k + 1, i1, rfl, by have := HI.out; have := HI1.out; show _ = _; omega, by have := HC1.out; omega, ?_, only_drewN hg2 nq⟩
            have := HSS.out
            rw [show k + 1 + 1 = k + 2 from rfl, this]
            have e2 : insR (fun x : Junc => x.pos) S x = x :: S2 := by
              have := HS12.out; simp only [List.nil_append] at this
              rw [this]; exact insR_split (fun x : Junc => x.pos) (S1 := []) (fun z hz => by cases hz) HS2.out
            exact by rw [e2]; have := OW.drewN hO2 nq; rw [HD.out] at this; simpa only [List.nil_append, List.cons_append, List.append_assoc] using this
          case measure => have := HI1.out; simp [intOf]; omega
        · obtain ⟨J1, hJ1⟩ : ∃ J1, J1 = a + S1.length := ⟨_, rfl⟩
          have hJJ : J = J1 + 1 := by have := HJ.out; simp at this; omega
          have e1 : P ++ (S1 ++ [y] ++ x :: (S2 ++ D)) = (P ++ S1) ++ y :: ([] ++ x :: (S2 ++ D)) := by simp
          rw [e1] at hO2
          have hA : (P ++ S1).length = J1 := by have := HP.out; simp; omega
          have hB : (P ++ S1).length + ([] : List Junc).length + 1 = J := by simp; have := HP.out; omega
          obtain ⟨b', hb', hbl, _, hfz, hrow⟩ := hO2.at_ jC_len _ rfl
          cases hb'
          have gi := getElem?_mid (P ++ S1) y ([] ++ x :: (S2 ++ D)) hA
          have gj := get_second (P ++ S1) y [] x (S2 ++ D) hB
          have hJn : J < n := by
            have := (List.getElem?_eq_some_iff.1 gj).1
            rw [hO2.2]; exact this
          have x0' := hrow (J) x gj 0 _ rfl
          have x1' := hrow (J) x gj 1 _ rfl
          have x2' := hrow (J) x gj 2 _ rfl
          have hax : ∀ q, 0 + (J) * 3 + q = (J) * 3 + q := fun q => by omega
          rw [hax] at x0' x1' x2'
          rw [Nat.add_zero] at x0'
          have x0 := fun d os => cell_regrown x0' d os
          have x1 := fun d os => cell_regrown x1' d os
          have x2 := fun d os => cell_regrown x2' d os
          clear hax
          have y0' := hrow (J1) y gi 0 _ rfl
          have y1' := hrow (J1) y gi 1 _ rfl
          have y2' := hrow (J1) y gi 2 _ rfl
          have hay : ∀ q, 0 + (J1) * 3 + q = (J1) * 3 + q := fun q => by omega
          rw [hay] at y0' y1' y2'
          rw [Nat.add_zero] at y0'
          have y0 := fun d os => cell_regrown y0' d os
          have y1 := fun d os => cell_regrown y1' d os
          have y2 := fun d os => cell_regrown y2' d os
          clear hay
          have hw1 : IntKind.i64.wrap ((J : Int) - 1) = (J1 : Int) := by rw [show (J : Int) - 1 = (J1 : Int) by omega]; exact IntWalk.i64_in _ (by omega)
          have hi1 : (0 : Int) ≤ (J : Int) := by omega
          have hi2 : (J : Int) < (n : Int) := by omega
          have hi3 : (0 : Int) ≤ (J1 : Int) := by omega
          have hi4 : (J1 : Int) < (n : Int) := by omega
          have hja : a < J := by omega
          have hjj : J1 < J := by omega
          have HA := Lib.hid hA
          have HB := Lib.hid hB
          have HJJ := Lib.hid hJJ
          have HJ1 := Lib.hid hJ1
          clear gi gj hA hB e1 hJJ hJ1
          go_wp2_with fail
          refine wp_region_ch 16 [14] hmo (by kernel_rfl) ?_
          simp only [List.take_succ_cons, List.take_zero, List.drop_succ_cons, List.drop_zero]
          repeat (refine wpC_q (by decide) (by decide) (fun K hK => ?_); go_simp; refine hK _ ?_; clear hK K)
          refine wpC_cg (ι := Unit) 35 #[.agg #[.int .i64 x.pos, .int .i64 x.arms, .int .i64 x.way], .agg #[.int .i64 y.pos, .int .i64 y.arms, .int .i64 y.way]] (fun _ => .int .i64 (cmpI x.pos y.pos)) (fun _ _ => True) (by decide) (by decide) (by go_simp) (fun w => by go_simp) stable_true (fun _ => stable_true) (fun W hW _ => ?_) (fun ix1 hs1 => ?_)
          · refine (cmpJ_any x y W).mono ?_
            rintro ev w' ⟨rfl, hbl⟩
            exact ⟨(), rfl, trivial, hbl⟩
          repeat (refine wpC_q (by decide) (by decide) (fun K hK => ?_); go_simp; refine hK _ ?_; clear hK K)
          refine wpC_nil ?_
          intro w3 hbc _
          clear hs1
          have hO3 := hO2.call hbc
          have hg3 := only_grown hg2 hbc
          clear hrow hO2 hg2 x0 x0' x1 x1' x2 x2' y0 y0' y1 y1' y2 y2'
          by_cases hxy : x.pos < y.pos
          · have d1 : decide (cmpI x.pos y.pos < 0) = true := by rw [cmpI_lt]; simpa using hxy
            have HXY := Lib.hid hxy
            clear hxy
            obtain ⟨b', hb', hbl, _, hfz, hrow⟩ := hO3.at_ jC_len _ rfl
            cases hb'
            have gi := getElem?_mid (P ++ S1) y ([] ++ x :: (S2 ++ D)) HA.out
            have gj := get_second (P ++ S1) y [] x (S2 ++ D) HB.out
            have x0 := hrow (J) x gj 0 _ rfl
            have x1 := hrow (J) x gj 1 _ rfl
            have x2 := hrow (J) x gj 2 _ rfl
            have hax : ∀ q, 0 + (J) * 3 + q = (J) * 3 + q := fun q => by omega
            rw [hax] at x0 x1 x2
            rw [Nat.add_zero] at x0
            clear hax
            have y0 := hrow (J1) y gi 0 _ rfl
            have y1 := hrow (J1) y gi 1 _ rfl
            have y2 := hrow (J1) y gi 2 _ rfl
            have hay : ∀ q, 0 + (J1) * 3 + q = (J1) * 3 + q := fun q => by omega
            rw [hay] at y0 y1 y2
            rw [Nat.add_zero] at y0
            clear hay
            clear hrow gi gj
            go_wp2_with fail
            go_region
            go_wp2_with fail
            go_roundw
            case rel =>
              refine ⟨J1, S1, y :: S2, rfl, HJ1.out, by show _ = _; rw [HS12.out]; simp, ?_, ?_, only_drew (only_set (only_set (only_set (only_set (only_set (only_set hg3 _) _) _) _) _) _)⟩
              · show ∀ z ∈ _, _
                intro z hz
                rcases List.mem_cons.1 hz with rfl | hz
                · exact HXY.out
                · exact HS2.out z hz
              · have := OW.drew (exJ' hO3 HA.out HB.out)
                simpa only [List.nil_append, List.cons_append, List.append_assoc, Nat.add_zero] using this
            case measure => have := HJJ.out; simp [intOf]; omega
          · have d1 : decide (cmpI x.pos y.pos < 0) = false := by rw [cmpI_lt]; simpa using hxy
            have HXY := Lib.hid (show y.pos ≤ x.pos by omega)
            clear hxy
            go_wp2_with fail
            go_roundw
            case rel =>
              refine ⟨k + 1, i1, rfl, by have := HI.out; have := HI1.out; show _ = _; omega, by have := HC1.out; omega, ?_, hg3⟩
              have := HSS.out
              rw [show k + 1 + 1 = k + 2 from rfl, this]
              have e2 : insR (fun x : Junc => x.pos) S x = S1 ++ [y] ++ x :: S2 := by
                have h1 := HSR.out
                rw [HS12.out] at h1 ⊢
                exact insR_here (fun x : Junc => x.pos) h1 HXY.out HS2.out
              exact by rw [e2]; have := hO3; rw [HD.out] at this; simpa only [List.nil_append, List.cons_append, List.append_assoc] using this
            case measure => have := HI1.out; simp [intOf]; omega
    · have hCk : C.length ≤ k + 1 := by have := HI.out; have := HE.out; omega
      rw [List.take_of_length_le hCk, List.drop_of_length_le hCk, List.nil_append] at hO
      go_wp2_with fail
      go_end0
      exact ⟨⟨_, rfl⟩, hO, hg⟩
end Go.Proofs.YtijcbfhlhgjedaaGreatDoor
