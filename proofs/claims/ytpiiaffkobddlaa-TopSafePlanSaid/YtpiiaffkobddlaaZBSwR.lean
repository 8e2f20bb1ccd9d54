/- slices.swapRangeCmpFunc and rotateCmpFunc at crests and junctions; cmp.Compare and the comparisons of road.Safer. -/
import Derived.Test.YtpiiaffkobddlaaZBSortM
import Derived.RegionTactic
import Derived.BigRegion
namespace Go.Proofs.Ytpiiaffkobddlaa
open Go.RowKit Go.Shelf Go.Sort Go.Proofs

def cmpI (a b : Int) : Int := if a < b then -1 else if b < a then 1 else 0
theorem cmpI_lt (a b : Int) : decide (cmpI a b < 0) = decide (a < b) := by
  unfold cmpI
  split
  · rename_i h; simp [h]
  · rename_i h; split <;> simp [h]
theorem cmpI_eq (a b : Int) : (cmpI a b != 0) = decide (a ≠ b) := by
  unfold cmpI
  split
  · rename_i h; have : a ≠ b := by omega
    simp [this]
  · rename_i h; split
    · have : a ≠ b := by omega
      simp [this]
    · have : a = b := by omega
      simp [this]
theorem only_grown {a w w' : World} {g : Nat} (h : a.grownBy w (some g)) (hb : Below w.heap.size w w') : a.grownBy w' (some g) :=
  only_trans h (let k := grownBy_of_below hb; ⟨k.os, k.tape, k.output, k.size, fun i hi _ => k.block i hi (by intro e; cases e)⟩)
set_option maxRecDepth 100000 in
theorem isNaN_any (x : Int) (w : World) : Calls Try.prog 52 #[.int .i64 x] w fun e w' => e = .returned (.bool false) ∧ w' = w := by
  go_enter Try.func52, Try.ntmps52
  go_wp2_with fail
  go_ret
  exact ⟨rfl, rfl⟩
set_option maxRecDepth 100000 in
theorem Compare_int (x y : Int) (w : World) : Calls Try.prog 24 #[.int .i64 x, .int .i64 y] w fun e w' => e = .returned (.int .i64 (cmpI x y)) ∧ w' = w := by
  go_enter Try.func24, Try.ntmps24
  by_cases h1 : x < y
  · have hr : cmpI x y = -1 := by unfold cmpI; rw [if_pos h1]
    rw [hr]
    go_wp2_with (go_at_call 52; refine (isNaN_any _ _).mono ?_; rintro e w' ⟨rfl, rfl⟩)
    all_goals first | (go_ret; exact ⟨rfl, rfl⟩) | (exfalso; omega)
  · by_cases h2 : y < x
    · have hr : cmpI x y = 1 := by unfold cmpI; rw [if_neg h1, if_pos h2]
      rw [hr]
      go_wp2_with (go_at_call 52; refine (isNaN_any _ _).mono ?_; rintro e w' ⟨rfl, rfl⟩)
      all_goals first | (go_ret; exact ⟨rfl, rfl⟩) | (exfalso; omega)
    · have hr : cmpI x y = 0 := by unfold cmpI; rw [if_neg h1, if_neg h2]
      rw [hr]
      go_wp2_with (go_at_call 52; refine (isNaN_any _ _).mono ?_; rintro e w' ⟨rfl, rfl⟩)
      all_goals first | (go_ret; exact ⟨rfl, rfl⟩) | (exfalso; omega)
section
variable {α : Type}
/-- The k-th round of an exchange of two stretches. -/
def st (P U M V Q : List α) (k : Nat) : List α := P ++ (V.take k ++ (U.drop k ++ (M ++ (U.take k ++ (V.drop k ++ Q)))))
theorem st_zero (P U M V Q : List α) : st P U M V Q 0 = P ++ (U ++ (M ++ (V ++ Q))) := by simp [st]
theorem st_done {P U M V Q : List α} {m : Nat} (hU : U.length = m) (hV : V.length = m) : st P U M V Q m = P ++ (V ++ (M ++ (U ++ Q))) := by
  simp [st, ← hU, hV.trans hU.symm ▸ List.take_length (l := V), hV.trans hU.symm ▸ List.drop_length (l := V)]
theorem st_round {P U M V Q : List α} {m k : Nat} (hU : U.length = m) (hV : V.length = m) (hk : k < m) : ∃ A u B v C, st P U M V Q k = A ++ u :: (B ++ v :: C) ∧ st P U M V Q (k + 1) = A ++ v :: (B ++ u :: C) ∧ A.length = P.length + k ∧ A.length + B.length + 1 = P.length + m + M.length + k := by
  obtain ⟨u, hu, hu'⟩ : ∃ u, U.drop k = u :: U.drop (k + 1) ∧ U.take (k + 1) = U.take k ++ [u] := ⟨_, List.drop_eq_getElem_cons (show k < U.length by omega), List.take_succ_eq_append_getElem (show k < U.length by omega)⟩
  obtain ⟨v, hv, hv'⟩ : ∃ v, V.drop k = v :: V.drop (k + 1) ∧ V.take (k + 1) = V.take k ++ [v] := ⟨_, List.drop_eq_getElem_cons (show k < V.length by omega), List.take_succ_eq_append_getElem (show k < V.length by omega)⟩
  refine ⟨P ++ V.take k, u, U.drop (k + 1) ++ (M ++ U.take k), v, V.drop (k + 1) ++ Q, ?_, ?_, ?_, ?_⟩
  · rw [st, hu, hv]; simp
  · rw [st, hu', hv']; simp
  · simp; omega
  · simp; omega
end

set_option maxRecDepth 100000 in
theorem cmpC_any (x y : Crest) (w : World) : Calls Try.prog 23 #[.agg #[.int .i64 x.pos, .int .i64 x.siz], .agg #[.int .i64 y.pos, .int .i64 y.siz]] w fun e w' => e = .returned (.int .i64 (cmpI x.pos y.pos)) ∧ Below w.heap.size w w' := by
  have hb : Below w.heap.size w ((w.alloc (.cells #[.int .i64 x.pos, .int .i64 x.siz] 80)).alloc (.cells #[.int .i64 y.pos, .int .i64 y.siz] 80)) := ((Below.refl _ _).alloc (Nat.le_refl _) _).alloc (by simp) _
  go_enter Try.func23, Try.ntmps23
  go_wp2_with (go_at_call 24; refine (Compare_int _ _ _).mono ?_; rintro e w' ⟨rfl, rfl⟩)
  go_ret
  exact ⟨rfl, hb⟩
theorem exC {base b n c i j : Nat} {A B C : List Crest} {u v : Crest} {w : World} (h : OW cC 2 80 base w (some ⟨b, 0, none⟩) n c (A ++ u :: (B ++ v :: C))) (hi : A.length = i) (hj : A.length + B.length + 1 = j) :
    OW cC 2 80 base ((((w.setCell ⟨b, i * 2 + 0, none⟩ (.int .i64 v.pos)).setCell ⟨b, i * 2 + 1, none⟩ (.int .i64 v.siz)).setCell ⟨b, j * 2 + 0, none⟩ (.int .i64 u.pos)).setCell ⟨b, j * 2 + 1, none⟩ (.int .i64 u.siz)) (some ⟨b, 0, none⟩) n c (A ++ v :: (B ++ u :: C)) := by
  have gi := getElem?_mid A u (B ++ v :: C) hi
  have gj := get_second A u B v C hj
  have hil : i < (A ++ u :: (B ++ v :: C)).length := (List.getElem?_eq_some_iff.1 gi).1
  have hjl : j < (A ++ u :: (B ++ v :: C)).length := (List.getElem?_eq_some_iff.1 gj).1
  have hres : ((A ++ u :: (B ++ v :: C)).set i v).set j u = A ++ v :: (B ++ u :: C) := by
    exact swp_mid A u B v C hi hj
  rw [← hres]
  have hne : i ≠ j := by omega
  generalize A ++ u :: (B ++ v :: C) = xs at h gi gj hil hjl ⊢
  clear hres hi hj
  have s0 := OW.setF h cC_len i 0 (x := u) (y := { u with pos := v.pos }) (v := .int .i64 v.pos) gi (by omega) rfl
  have e0 : (xs.set i { u with pos := v.pos })[i]? = some { u with pos := v.pos } := by simp [hil]
  have s1 := OW.setF s0 cC_len i 1 (x := { u with pos := v.pos }) (y := { u with pos := v.pos, siz := v.siz }) (v := .int .i64 v.siz) e0 (by omega) rfl
  rw [List.set_set] at s1
  have e1 : (xs.set i { u with pos := v.pos, siz := v.siz })[i]? = some { u with pos := v.pos, siz := v.siz } := by simp [hil]
  have g2 : (xs.set i { u with pos := v.pos, siz := v.siz })[j]? = some v := by rw [List.getElem?_set, if_neg (by omega)]; exact gj
  have t0 := OW.setF s1 cC_len j 0 (x := v) (y := { v with pos := u.pos }) (v := .int .i64 u.pos) g2 (by omega) rfl
  have d0 : ((xs.set i { u with pos := v.pos, siz := v.siz }).set j { v with pos := u.pos })[j]? = some { v with pos := u.pos } := by simp [hjl]
  have t1 := OW.setF t0 cC_len j 1 (x := { v with pos := u.pos }) (y := { v with pos := u.pos, siz := u.siz }) (v := .int .i64 u.siz) d0 (by omega) rfl
  rw [List.set_set] at t1
  have d1 : ((xs.set i { u with pos := v.pos, siz := v.siz }).set j { v with pos := u.pos, siz := u.siz })[j]? = some { v with pos := u.pos, siz := u.siz } := by simp [hjl]
  exact t1
theorem exC' {base b n c i j : Nat} {A B C : List Crest} {u v : Crest} {w : World} (h : OW cC 2 80 base w (some ⟨b, 0, none⟩) n c (A ++ u :: (B ++ v :: C))) (hi : A.length = i) (hj : A.length + B.length + 1 = j) :
    OW cC 2 80 base ((((w.setCell ⟨b, j * 2 + 0, none⟩ (.int .i64 u.pos)).setCell ⟨b, j * 2 + 1, none⟩ (.int .i64 u.siz)).setCell ⟨b, i * 2 + 0, none⟩ (.int .i64 v.pos)).setCell ⟨b, i * 2 + 1, none⟩ (.int .i64 v.siz)) (some ⟨b, 0, none⟩) n c (A ++ v :: (B ++ u :: C)) := by
  have gi := getElem?_mid A u (B ++ v :: C) hi
  have gj := get_second A u B v C hj
  have hil : i < (A ++ u :: (B ++ v :: C)).length := (List.getElem?_eq_some_iff.1 gi).1
  have hjl : j < (A ++ u :: (B ++ v :: C)).length := (List.getElem?_eq_some_iff.1 gj).1
  have hres : ((A ++ u :: (B ++ v :: C)).set j u).set i v = A ++ v :: (B ++ u :: C) := by
    rw [List.set_comm _ _ (by omega : j ≠ i)]
    exact swp_mid A u B v C hi hj
  rw [← hres]
  have hne : i ≠ j := by omega
  generalize A ++ u :: (B ++ v :: C) = xs at h gi gj hil hjl ⊢
  clear hres hi hj
  have s0 := OW.setF h cC_len j 0 (x := v) (y := { v with pos := u.pos }) (v := .int .i64 u.pos) gj (by omega) rfl
  have e0 : (xs.set j { v with pos := u.pos })[j]? = some { v with pos := u.pos } := by simp [hjl]
  have s1 := OW.setF s0 cC_len j 1 (x := { v with pos := u.pos }) (y := { v with pos := u.pos, siz := u.siz }) (v := .int .i64 u.siz) e0 (by omega) rfl
  rw [List.set_set] at s1
  have e1 : (xs.set j { v with pos := u.pos, siz := u.siz })[j]? = some { v with pos := u.pos, siz := u.siz } := by simp [hjl]
  have g2 : (xs.set j { v with pos := u.pos, siz := u.siz })[i]? = some u := by rw [List.getElem?_set, if_neg (by omega)]; exact gi
  have t0 := OW.setF s1 cC_len i 0 (x := u) (y := { u with pos := v.pos }) (v := .int .i64 v.pos) g2 (by omega) rfl
  have d0 : ((xs.set j { v with pos := u.pos, siz := u.siz }).set i { u with pos := v.pos })[i]? = some { u with pos := v.pos } := by simp [hil]
  have t1 := OW.setF t0 cC_len i 1 (x := { u with pos := v.pos }) (y := { u with pos := v.pos, siz := v.siz }) (v := .int .i64 v.siz) d0 (by omega) rfl
  rw [List.set_set] at t1
  have d1 : ((xs.set j { v with pos := u.pos, siz := u.siz }).set i { u with pos := v.pos, siz := v.siz })[i]? = some { u with pos := v.pos, siz := v.siz } := by simp [hil]
  exact t1
set_option maxRecDepth 100000 in
set_option maxHeartbeats 4000000 in
theorem SwRC (base b n c a d m : Nat) (P U M V Q : List Crest) (w : World) (h : OW cC 2 80 base w (some ⟨b, 0, none⟩) n c (P ++ (U ++ (M ++ (V ++ Q))))) (hP : P.length = a) (hU : U.length = m) (hV : V.length = m) (hd : a + m + M.length = d) (hn : n ≤ 100000) :
    Calls Try.prog 84 #[.slice (some ⟨b, 0, none⟩) n c, .int .i64 a, .int .i64 d, .int .i64 m, .func (.func 23) #[] #[]] w fun e w' => (∃ v, e = .returned v) ∧ OW cC 2 80 base w' (some ⟨b, 0, none⟩) n c (P ++ (V ++ (M ++ (U ++ Q)))) ∧ w.grownBy w' (some b) := by
  have hmo : Try.prog.follows .mixedOrders = true := by kernel_rfl
  rw [← st_zero] at h
  have HH := Lib.hid h
  have HD := Lib.hid (st_done (P := P) (M := M) (Q := Q) hU hV)
  have HR := Lib.hid (fun k (hk : k < m) => st_round (P := P) (M := M) (Q := Q) hU hV hk)
  have HN : n = P.length + m + M.length + m + Q.length := by rw [h.2]; simp [st]; omega
  have hnn : d + m ≤ n := by omega
  rw [hP, hd] at HR
  clear h hU hV HN
  go_enter Try.func84, Try.ntmps84
  go_wp2_with fail
  go_loopw [10] (fun i wr => ∃ k : Nat, k ≤ m ∧ i = .int .i64 k ∧ OW cC 2 80 base wr (some ⟨b, 0, none⟩) n c (st P U M V Q k) ∧ w.grownBy wr (some b))
    (fun i _ => m - (intOf i).toNat)
  case atStart => exact ⟨0, Nat.zero_le _, rfl, HH.out, World.grownBy.refl w _⟩
  case round =>
    obtain ⟨k, hk, rfl, hO, hg⟩ := hrel
    by_cases hlt : k < m
    · obtain ⟨A, u, B, v, C, e1, e2, e3, e4⟩ := HR.out k hlt
      rw [e1] at hO
      have HE := Lib.hid e2
      have HA := Lib.hid e3
      have HB := Lib.hid e4
      obtain ⟨b', hb', hbl, _, hfz, hrow⟩ := hO.at_ cC_len _ rfl
      cases hb'
      have gi := getElem?_mid A u (B ++ v :: C) e3
      have gj := get_second A u B v C e4
      clear e1 e2 e3 e4
      have x0 := hrow (a + k) u gi 0 _ rfl
      have x1 := hrow (a + k) u gi 1 _ rfl
      have hax : ∀ q, 0 + (a + k) * 2 + q = (a + k) * 2 + q := fun q => by omega
      rw [hax] at x0 x1
      rw [Nat.add_zero] at x0
      clear hax
      have y0 := hrow (d + k) v gj 0 _ rfl
      have y1 := hrow (d + k) v gj 1 _ rfl
      have hay : ∀ q, 0 + (d + k) * 2 + q = (d + k) * 2 + q := fun q => by omega
      rw [hay] at y0 y1
      rw [Nat.add_zero] at y0
      clear hay
      have hwa : IntKind.i64.wrap ((a : Int) + (k : Int)) = ((a + k : Nat) : Int) := by rw [Int.natCast_add]; exact IntWalk.i64_in _ (by omega)
      have hwd : IntKind.i64.wrap ((d : Int) + (k : Int)) = ((d + k : Nat) : Int) := by rw [Int.natCast_add]; exact IntWalk.i64_in _ (by omega)
      have hi1 : (0 : Int) ≤ ((a + k : Nat) : Int) := by omega
      have hi2 : ((a + k : Nat) : Int) < (n : Int) := by omega
      have hi3 : (0 : Int) ≤ ((d + k : Nat) : Int) := by omega
      have hi4 : ((d + k : Nat) : Int) < (n : Int) := by omega
      clear hrow gi gj
      go_wp2_with fail
      go_region
      go_wp2_with fail
      go_roundw
      case rel =>
        exact ⟨k + 1, by omega, by go_num, by rw [HE.out]; exact OW.drew (exC hO HA.out HB.out), only_drew (only_set (only_set (only_set (only_set hg _) _) _) _)⟩
      case measure => simp [intOf]; omega
    · obtain rfl : k = m := by omega
      rw [HD.out] at hO
      go_wp2_with fail
      go_end0
      exact ⟨⟨_, rfl⟩, hO, hg⟩
set_option maxRecDepth 100000 in
theorem cmpJ_any (x y : Junc) (w : World) : Calls Try.prog 27 #[.agg #[.int .i64 x.pos, .int .i64 x.arms, .int .i64 x.way], .agg #[.int .i64 y.pos, .int .i64 y.arms, .int .i64 y.way]] w fun e w' => e = .returned (.int .i64 (cmpI x.pos y.pos)) ∧ Below w.heap.size w w' := by
  have hb : Below w.heap.size w ((w.alloc (.cells #[.int .i64 x.pos, .int .i64 x.arms, .int .i64 x.way] 87)).alloc (.cells #[.int .i64 y.pos, .int .i64 y.arms, .int .i64 y.way] 87)) := ((Below.refl _ _).alloc (Nat.le_refl _) _).alloc (by simp) _
  go_enter Try.func27, Try.ntmps27
  go_wp2_with (go_at_call 24; refine (Compare_int _ _ _).mono ?_; rintro e w' ⟨rfl, rfl⟩)
  go_ret
  exact ⟨rfl, hb⟩
theorem exJ {base b n c i j : Nat} {A B C : List Junc} {u v : Junc} {w : World} (h : OW jC 3 87 base w (some ⟨b, 0, none⟩) n c (A ++ u :: (B ++ v :: C))) (hi : A.length = i) (hj : A.length + B.length + 1 = j) :
    OW jC 3 87 base ((((((w.setCell ⟨b, i * 3 + 0, none⟩ (.int .i64 v.pos)).setCell ⟨b, i * 3 + 1, none⟩ (.int .i64 v.arms)).setCell ⟨b, i * 3 + 2, none⟩ (.int .i64 v.way)).setCell ⟨b, j * 3 + 0, none⟩ (.int .i64 u.pos)).setCell ⟨b, j * 3 + 1, none⟩ (.int .i64 u.arms)).setCell ⟨b, j * 3 + 2, none⟩ (.int .i64 u.way)) (some ⟨b, 0, none⟩) n c (A ++ v :: (B ++ u :: C)) := by
  have gi := getElem?_mid A u (B ++ v :: C) hi
  have gj := get_second A u B v C hj
  have hil : i < (A ++ u :: (B ++ v :: C)).length := (List.getElem?_eq_some_iff.1 gi).1
  have hjl : j < (A ++ u :: (B ++ v :: C)).length := (List.getElem?_eq_some_iff.1 gj).1
  have hres : ((A ++ u :: (B ++ v :: C)).set i v).set j u = A ++ v :: (B ++ u :: C) := by
    exact swp_mid A u B v C hi hj
  rw [← hres]
  have hne : i ≠ j := by omega
  generalize A ++ u :: (B ++ v :: C) = xs at h gi gj hil hjl ⊢
  clear hres hi hj
  have s0 := OW.setF h jC_len i 0 (x := u) (y := { u with pos := v.pos }) (v := .int .i64 v.pos) gi (by omega) rfl
  have e0 : (xs.set i { u with pos := v.pos })[i]? = some { u with pos := v.pos } := by simp [hil]
  have s1 := OW.setF s0 jC_len i 1 (x := { u with pos := v.pos }) (y := { u with pos := v.pos, arms := v.arms }) (v := .int .i64 v.arms) e0 (by omega) rfl
  rw [List.set_set] at s1
  have e1 : (xs.set i { u with pos := v.pos, arms := v.arms })[i]? = some { u with pos := v.pos, arms := v.arms } := by simp [hil]
  have s2 := OW.setF s1 jC_len i 2 (x := { u with pos := v.pos, arms := v.arms }) (y := { u with pos := v.pos, arms := v.arms, way := v.way }) (v := .int .i64 v.way) e1 (by omega) rfl
  rw [List.set_set] at s2
  have e2 : (xs.set i { u with pos := v.pos, arms := v.arms, way := v.way })[i]? = some { u with pos := v.pos, arms := v.arms, way := v.way } := by simp [hil]
  have g2 : (xs.set i { u with pos := v.pos, arms := v.arms, way := v.way })[j]? = some v := by rw [List.getElem?_set, if_neg (by omega)]; exact gj
  have t0 := OW.setF s2 jC_len j 0 (x := v) (y := { v with pos := u.pos }) (v := .int .i64 u.pos) g2 (by omega) rfl
  have d0 : ((xs.set i { u with pos := v.pos, arms := v.arms, way := v.way }).set j { v with pos := u.pos })[j]? = some { v with pos := u.pos } := by simp [hjl]
  have t1 := OW.setF t0 jC_len j 1 (x := { v with pos := u.pos }) (y := { v with pos := u.pos, arms := u.arms }) (v := .int .i64 u.arms) d0 (by omega) rfl
  rw [List.set_set] at t1
  have d1 : ((xs.set i { u with pos := v.pos, arms := v.arms, way := v.way }).set j { v with pos := u.pos, arms := u.arms })[j]? = some { v with pos := u.pos, arms := u.arms } := by simp [hjl]
  have t2 := OW.setF t1 jC_len j 2 (x := { v with pos := u.pos, arms := u.arms }) (y := { v with pos := u.pos, arms := u.arms, way := u.way }) (v := .int .i64 u.way) d1 (by omega) rfl
  rw [List.set_set] at t2
  have d2 : ((xs.set i { u with pos := v.pos, arms := v.arms, way := v.way }).set j { v with pos := u.pos, arms := u.arms, way := u.way })[j]? = some { v with pos := u.pos, arms := u.arms, way := u.way } := by simp [hjl]
  exact t2
theorem exJ' {base b n c i j : Nat} {A B C : List Junc} {u v : Junc} {w : World} (h : OW jC 3 87 base w (some ⟨b, 0, none⟩) n c (A ++ u :: (B ++ v :: C))) (hi : A.length = i) (hj : A.length + B.length + 1 = j) :
    OW jC 3 87 base ((((((w.setCell ⟨b, j * 3 + 0, none⟩ (.int .i64 u.pos)).setCell ⟨b, j * 3 + 1, none⟩ (.int .i64 u.arms)).setCell ⟨b, j * 3 + 2, none⟩ (.int .i64 u.way)).setCell ⟨b, i * 3 + 0, none⟩ (.int .i64 v.pos)).setCell ⟨b, i * 3 + 1, none⟩ (.int .i64 v.arms)).setCell ⟨b, i * 3 + 2, none⟩ (.int .i64 v.way)) (some ⟨b, 0, none⟩) n c (A ++ v :: (B ++ u :: C)) := by
  have gi := getElem?_mid A u (B ++ v :: C) hi
  have gj := get_second A u B v C hj
  have hil : i < (A ++ u :: (B ++ v :: C)).length := (List.getElem?_eq_some_iff.1 gi).1
  have hjl : j < (A ++ u :: (B ++ v :: C)).length := (List.getElem?_eq_some_iff.1 gj).1
  have hres : ((A ++ u :: (B ++ v :: C)).set j u).set i v = A ++ v :: (B ++ u :: C) := by
    rw [List.set_comm _ _ (by omega : j ≠ i)]
    exact swp_mid A u B v C hi hj
  rw [← hres]
  have hne : i ≠ j := by omega
  generalize A ++ u :: (B ++ v :: C) = xs at h gi gj hil hjl ⊢
  clear hres hi hj
  have s0 := OW.setF h jC_len j 0 (x := v) (y := { v with pos := u.pos }) (v := .int .i64 u.pos) gj (by omega) rfl
  have e0 : (xs.set j { v with pos := u.pos })[j]? = some { v with pos := u.pos } := by simp [hjl]
  have s1 := OW.setF s0 jC_len j 1 (x := { v with pos := u.pos }) (y := { v with pos := u.pos, arms := u.arms }) (v := .int .i64 u.arms) e0 (by omega) rfl
  rw [List.set_set] at s1
  have e1 : (xs.set j { v with pos := u.pos, arms := u.arms })[j]? = some { v with pos := u.pos, arms := u.arms } := by simp [hjl]
  have s2 := OW.setF s1 jC_len j 2 (x := { v with pos := u.pos, arms := u.arms }) (y := { v with pos := u.pos, arms := u.arms, way := u.way }) (v := .int .i64 u.way) e1 (by omega) rfl
  rw [List.set_set] at s2
  have e2 : (xs.set j { v with pos := u.pos, arms := u.arms, way := u.way })[j]? = some { v with pos := u.pos, arms := u.arms, way := u.way } := by simp [hjl]
  have g2 : (xs.set j { v with pos := u.pos, arms := u.arms, way := u.way })[i]? = some u := by rw [List.getElem?_set, if_neg (by omega)]; exact gi
  have t0 := OW.setF s2 jC_len i 0 (x := u) (y := { u with pos := v.pos }) (v := .int .i64 v.pos) g2 (by omega) rfl
  have d0 : ((xs.set j { v with pos := u.pos, arms := u.arms, way := u.way }).set i { u with pos := v.pos })[i]? = some { u with pos := v.pos } := by simp [hil]
  have t1 := OW.setF t0 jC_len i 1 (x := { u with pos := v.pos }) (y := { u with pos := v.pos, arms := v.arms }) (v := .int .i64 v.arms) d0 (by omega) rfl
  rw [List.set_set] at t1
  have d1 : ((xs.set j { v with pos := u.pos, arms := u.arms, way := u.way }).set i { u with pos := v.pos, arms := v.arms })[i]? = some { u with pos := v.pos, arms := v.arms } := by simp [hil]
  have t2 := OW.setF t1 jC_len i 2 (x := { u with pos := v.pos, arms := v.arms }) (y := { u with pos := v.pos, arms := v.arms, way := v.way }) (v := .int .i64 v.way) d1 (by omega) rfl
  rw [List.set_set] at t2
  have d2 : ((xs.set j { v with pos := u.pos, arms := u.arms, way := u.way }).set i { u with pos := v.pos, arms := v.arms, way := v.way })[i]? = some { u with pos := v.pos, arms := v.arms, way := v.way } := by simp [hil]
  exact t2
set_option maxRecDepth 100000 in
set_option maxHeartbeats 4000000 in
theorem SwRJ (base b n c a d m : Nat) (P U M V Q : List Junc) (w : World) (h : OW jC 3 87 base w (some ⟨b, 0, none⟩) n c (P ++ (U ++ (M ++ (V ++ Q))))) (hP : P.length = a) (hU : U.length = m) (hV : V.length = m) (hd : a + m + M.length = d) (hn : n ≤ 100000) :
    Calls Try.prog 85 #[.slice (some ⟨b, 0, none⟩) n c, .int .i64 a, .int .i64 d, .int .i64 m, .func (.func 27) #[] #[]] w fun e w' => (∃ v, e = .returned v) ∧ OW jC 3 87 base w' (some ⟨b, 0, none⟩) n c (P ++ (V ++ (M ++ (U ++ Q)))) ∧ w.grownBy w' (some b) := by
  have hmo : Try.prog.follows .mixedOrders = true := by kernel_rfl
  rw [← st_zero] at h
  have HH := Lib.hid h
  have HD := Lib.hid (st_done (P := P) (M := M) (Q := Q) hU hV)
  have HR := Lib.hid (fun k (hk : k < m) => st_round (P := P) (M := M) (Q := Q) hU hV hk)
  have HN : n = P.length + m + M.length + m + Q.length := by rw [h.2]; simp [st]; omega
  have hnn : d + m ≤ n := by omega
  rw [hP, hd] at HR
  clear h hU hV HN
  go_enter Try.func85, Try.ntmps85
  go_wp2_with fail
  go_loopw [10] (fun i wr => ∃ k : Nat, k ≤ m ∧ i = .int .i64 k ∧ OW jC 3 87 base wr (some ⟨b, 0, none⟩) n c (st P U M V Q k) ∧ w.grownBy wr (some b))
    (fun i _ => m - (intOf i).toNat)
  case atStart => exact ⟨0, Nat.zero_le _, rfl, HH.out, World.grownBy.refl w _⟩
  case round =>
    obtain ⟨k, hk, rfl, hO, hg⟩ := hrel
    by_cases hlt : k < m
    · obtain ⟨A, u, B, v, C, e1, e2, e3, e4⟩ := HR.out k hlt
      rw [e1] at hO
      have HE := Lib.hid e2
      have HA := Lib.hid e3
      have HB := Lib.hid e4
      obtain ⟨b', hb', hbl, _, hfz, hrow⟩ := hO.at_ jC_len _ rfl
      cases hb'
      have gi := getElem?_mid A u (B ++ v :: C) e3
      have gj := get_second A u B v C e4
      clear e1 e2 e3 e4
      have x0 := hrow (a + k) u gi 0 _ rfl
      have x1 := hrow (a + k) u gi 1 _ rfl
      have x2 := hrow (a + k) u gi 2 _ rfl
      have hax : ∀ q, 0 + (a + k) * 3 + q = (a + k) * 3 + q := fun q => by omega
      rw [hax] at x0 x1 x2
      rw [Nat.add_zero] at x0
      clear hax
      have y0 := hrow (d + k) v gj 0 _ rfl
      have y1 := hrow (d + k) v gj 1 _ rfl
      have y2 := hrow (d + k) v gj 2 _ rfl
      have hay : ∀ q, 0 + (d + k) * 3 + q = (d + k) * 3 + q := fun q => by omega
      rw [hay] at y0 y1 y2
      rw [Nat.add_zero] at y0
      clear hay
      have hwa : IntKind.i64.wrap ((a : Int) + (k : Int)) = ((a + k : Nat) : Int) := by rw [Int.natCast_add]; exact IntWalk.i64_in _ (by omega)
      have hwd : IntKind.i64.wrap ((d : Int) + (k : Int)) = ((d + k : Nat) : Int) := by rw [Int.natCast_add]; exact IntWalk.i64_in _ (by omega)
      have hi1 : (0 : Int) ≤ ((a + k : Nat) : Int) := by omega
      have hi2 : ((a + k : Nat) : Int) < (n : Int) := by omega
      have hi3 : (0 : Int) ≤ ((d + k : Nat) : Int) := by omega
      have hi4 : ((d + k : Nat) : Int) < (n : Int) := by omega
      clear hrow gi gj
      go_wp2_with fail
      go_region
      go_wp2_with fail
      go_roundw
      case rel =>
        exact ⟨k + 1, by omega, by go_num, by rw [HE.out]; exact OW.drew (exJ hO HA.out HB.out), only_drew (only_set (only_set (only_set (only_set (only_set (only_set hg _) _) _) _) _) _)⟩
      case measure => simp [intOf]; omega
    · obtain rfl : k = m := by omega
      rw [HD.out] at hO
      go_wp2_with fail
      go_end0
      exact ⟨⟨_, rfl⟩, hO, hg⟩
end Go.Proofs.Ytpiiaffkobddlaa
