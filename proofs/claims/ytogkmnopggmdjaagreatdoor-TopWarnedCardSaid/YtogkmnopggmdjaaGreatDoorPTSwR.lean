/- slices.swapRangeCmpFunc and rotateCmpFunc at things; cmp.Compare and the comparisons of road.Safer. -/
import Derived.Test.YtogkmnopggmdjaaGreatDoorPTSortM
import Derived.RegionTactic
import Derived.BigRegion
namespace Go.Proofs.YtogkmnopggmdjaaGreatDoor
open Go.RowKit Go.Shelf Go.Sort Go.Proofs

section
variable {α : Type}
/-- The k-th round of an exchange of two stretches. -/
def st (P U M V Q : List α) (k : Nat) : List α := P ++ (V.take k ++ (U.drop k ++ (M ++ (U.take k ++ (V.drop k ++ Q)))))
theorem st_zero (P U M V Q : List α) : st P U M V Q 0 = P ++ (U ++ (M ++ (V ++ Q))) := by simp [st]
theorem st_done {P U M V Q : List α} {m : Nat} (hU : U.length = m) (hV : V.length = m) : st P U M V Q m = P ++ (V ++ (M ++ (U ++ Q))) := by
  simp [st, ← hU, hV.trans hU.symm ▸ List.take_length (l := V), hV.trans hU.symm ▸ List.drop_length (l := V)]
theorem st_round {P U M V Q : List α} {m k : Nat} (hU : U.length = m) (hV : V.length = m) (hk : k < m) : ∃ A u B v C, st P U M V Q k = A ++ u :: (B ++ v :: C) ∧ st P U M V Q (k + 1) = A ++ v :: (B ++ u :: C) ∧ A.length = P.length + k ∧ A.length + B.length + 1 = P.length + m + M.length + k := by
  obtain ⟨u, hu, hu'⟩ : ∃ u, U.drop k = u :: U.drop (k + 1) ∧ U.take (k + 1) = U.take k ++ [u] := ⟨_, List.drop_eq_getElem_cons (show k < U.length by omega), List.take_succ_eq_append_getElem (show k < U.length by omega)⟩
  obtain ⟨v, hv, hv'⟩ : ∃ v, V.drop k = v :: V.drop (k + 1) ∧ V.take (k + 1) = V.take k ++ [v] := ⟨_, List.drop_eq_getElem_cons (show k < V.length by omega), List.take_succ_eq_append_getElem (show k < V.length by omega)⟩
  refine ⟨P ++ V.take k, u, U.drop (k + 1) ++ (M ++ U.take k), v, V.drop (k + 1) ++ Q, ?_, ?_, ?_, ?_⟩
  · rw [st, hu, hv]; simp
  · rw [st, hu', hv']; simp
  · simp; omega
  · simp; omega
end

theorem exT {base b n c i j : Nat} {A B C : List ThR} {u v : ThR} {w : World} (h : OW thC 13 94 base w (some ⟨b, 0, none⟩) n c (A ++ u :: (B ++ v :: C))) (hi : A.length = i) (hj : A.length + B.length + 1 = j) :
    OW thC 13 94 base ((((((((((((((((((((((((((w.setCell ⟨b, i * 13 + 0, none⟩ (.int .i64 v.at_)).setCell ⟨b, i * 13 + 1, none⟩ (.int .i64 v.en)).setCell ⟨b, i * 13 + 2, none⟩ (.int .i64 ((v.od : Nat) : Int))).setCell ⟨b, i * 13 + 3, none⟩ (.int .i64 v.nk)).setCell ⟨b, i * 13 + 4, none⟩ (.int .i64 v.ntu)).setCell ⟨b, i * 13 + 5, none⟩ (.int .i64 v.ngr)).setCell ⟨b, i * 13 + 6, none⟩ (.int .i64 v.nlo)).setCell ⟨b, i * 13 + 7, none⟩ (.int .i64 v.nch)).setCell ⟨b, i * 13 + 8, none⟩ (.int .i64 v.nto)).setCell ⟨b, i * 13 + 9, none⟩ (.int .i64 v.nme)).setCell ⟨b, i * 13 + 10, none⟩ (.int .i64 v.nsi)).setCell ⟨b, i * 13 + 11, none⟩ (.int .i64 v.nwa)).setCell ⟨b, i * 13 + 12, none⟩ (.int .i64 v.nar)).setCell ⟨b, j * 13 + 0, none⟩ (.int .i64 u.at_)).setCell ⟨b, j * 13 + 1, none⟩ (.int .i64 u.en)).setCell ⟨b, j * 13 + 2, none⟩ (.int .i64 ((u.od : Nat) : Int))).setCell ⟨b, j * 13 + 3, none⟩ (.int .i64 u.nk)).setCell ⟨b, j * 13 + 4, none⟩ (.int .i64 u.ntu)).setCell ⟨b, j * 13 + 5, none⟩ (.int .i64 u.ngr)).setCell ⟨b, j * 13 + 6, none⟩ (.int .i64 u.nlo)).setCell ⟨b, j * 13 + 7, none⟩ (.int .i64 u.nch)).setCell ⟨b, j * 13 + 8, none⟩ (.int .i64 u.nto)).setCell ⟨b, j * 13 + 9, none⟩ (.int .i64 u.nme)).setCell ⟨b, j * 13 + 10, none⟩ (.int .i64 u.nsi)).setCell ⟨b, j * 13 + 11, none⟩ (.int .i64 u.nwa)).setCell ⟨b, j * 13 + 12, none⟩ (.int .i64 u.nar)) (some ⟨b, 0, none⟩) n c (A ++ v :: (B ++ u :: C)) := by
  have gi := getElem?_mid A u (B ++ v :: C) hi
  have gj := get_second A u B v C hj
  have hil : i < (A ++ u :: (B ++ v :: C)).length := (List.getElem?_eq_some_iff.1 gi).1
  have hjl : j < (A ++ u :: (B ++ v :: C)).length := (List.getElem?_eq_some_iff.1 gj).1
  have hres : ((A ++ u :: (B ++ v :: C)).set i v).set j u = A ++ v :: (B ++ u :: C) := by
    exact swp_mid A u B v C hi hj
  rw [← hres]
  have hne : i ≠ j := by omega
  generalize A ++ u :: (B ++ v :: C) = xs at h gi gj hil hjl ⊢
  clear hres hi hj
  have s0 := OW.setF h thC_len i 0 (x := u) (y := { u with at_ := v.at_ }) (v := .int .i64 v.at_) gi (by omega) rfl
  have e0 : (xs.set i { u with at_ := v.at_ })[i]? = some { u with at_ := v.at_ } := by simp [hil]
  have s1 := OW.setF s0 thC_len i 1 (x := { u with at_ := v.at_ }) (y := { u with at_ := v.at_, en := v.en }) (v := .int .i64 v.en) e0 (by omega) rfl
  rw [List.set_set] at s1
  have e1 : (xs.set i { u with at_ := v.at_, en := v.en })[i]? = some { u with at_ := v.at_, en := v.en } := by simp [hil]
  have s2 := OW.setF s1 thC_len i 2 (x := { u with at_ := v.at_, en := v.en }) (y := { u with at_ := v.at_, en := v.en, od := v.od }) (v := .int .i64 ((v.od : Nat) : Int)) e1 (by omega) rfl
  rw [List.set_set] at s2
  have e2 : (xs.set i { u with at_ := v.at_, en := v.en, od := v.od })[i]? = some { u with at_ := v.at_, en := v.en, od := v.od } := by simp [hil]
  have s3 := OW.setF s2 thC_len i 3 (x := { u with at_ := v.at_, en := v.en, od := v.od }) (y := { u with at_ := v.at_, en := v.en, od := v.od, nk := v.nk }) (v := .int .i64 v.nk) e2 (by omega) rfl
  rw [List.set_set] at s3
  have e3 : (xs.set i { u with at_ := v.at_, en := v.en, od := v.od, nk := v.nk })[i]? = some { u with at_ := v.at_, en := v.en, od := v.od, nk := v.nk } := by simp [hil]
  have s4 := OW.setF s3 thC_len i 4 (x := { u with at_ := v.at_, en := v.en, od := v.od, nk := v.nk }) (y := { u with at_ := v.at_, en := v.en, od := v.od, nk := v.nk, ntu := v.ntu }) (v := .int .i64 v.ntu) e3 (by omega) rfl
  rw [List.set_set] at s4
  have e4 : (xs.set i { u with at_ := v.at_, en := v.en, od := v.od, nk := v.nk, ntu := v.ntu })[i]? = some { u with at_ := v.at_, en := v.en, od := v.od, nk := v.nk, ntu := v.ntu } := by simp [hil]
  have s5 := OW.setF s4 thC_len i 5 (x := { u with at_ := v.at_, en := v.en, od := v.od, nk := v.nk, ntu := v.ntu }) (y := { u with at_ := v.at_, en := v.en, od := v.od, nk := v.nk, ntu := v.ntu, ngr := v.ngr }) (v := .int .i64 v.ngr) e4 (by omega) rfl
  rw [List.set_set] at s5
  have e5 : (xs.set i { u with at_ := v.at_, en := v.en, od := v.od, nk := v.nk, ntu := v.ntu, ngr := v.ngr })[i]? = some { u with at_ := v.at_, en := v.en, od := v.od, nk := v.nk, ntu := v.ntu, ngr := v.ngr } := by simp [hil]
  have s6 := OW.setF s5 thC_len i 6 (x := { u with at_ := v.at_, en := v.en, od := v.od, nk := v.nk, ntu := v.ntu, ngr := v.ngr }) (y := { u with at_ := v.at_, en := v.en, od := v.od, nk := v.nk, ntu := v.ntu, ngr := v.ngr, nlo := v.nlo }) (v := .int .i64 v.nlo) e5 (by omega) rfl
  rw [List.set_set] at s6
  have e6 : (xs.set i { u with at_ := v.at_, en := v.en, od := v.od, nk := v.nk, ntu := v.ntu, ngr := v.ngr, nlo := v.nlo })[i]? = some { u with at_ := v.at_, en := v.en, od := v.od, nk := v.nk, ntu := v.ntu, ngr := v.ngr, nlo := v.nlo } := by simp [hil]
  have s7 := OW.setF s6 thC_len i 7 (x := { u with at_ := v.at_, en := v.en, od := v.od, nk := v.nk, ntu := v.ntu, ngr := v.ngr, nlo := v.nlo }) (y := { u with at_ := v.at_, en := v.en, od := v.od, nk := v.nk, ntu := v.ntu, ngr := v.ngr, nlo := v.nlo, nch := v.nch }) (v := .int .i64 v.nch) e6 (by omega) rfl
  rw [List.set_set] at s7
  have e7 : (xs.set i { u with at_ := v.at_, en := v.en, od := v.od, nk := v.nk, ntu := v.ntu, ngr := v.ngr, nlo := v.nlo, nch := v.nch })[i]? = some { u with at_ := v.at_, en := v.en, od := v.od, nk := v.nk, ntu := v.ntu, ngr := v.ngr, nlo := v.nlo, nch := v.nch } := by simp [hil]
  have s8 := OW.setF s7 thC_len i 8 (x := { u with at_ := v.at_, en := v.en, od := v.od, nk := v.nk, ntu := v.ntu, ngr := v.ngr, nlo := v.nlo, nch := v.nch }) (y := { u with at_ := v.at_, en := v.en, od := v.od, nk := v.nk, ntu := v.ntu, ngr := v.ngr, nlo := v.nlo, nch := v.nch, nto := v.nto }) (v := .int .i64 v.nto) e7 (by omega) rfl
  rw [List.set_set] at s8
  have e8 : (xs.set i { u with at_ := v.at_, en := v.en, od := v.od, nk := v.nk, ntu := v.ntu, ngr := v.ngr, nlo := v.nlo, nch := v.nch, nto := v.nto })[i]? = some { u with at_ := v.at_, en := v.en, od := v.od, nk := v.nk, ntu := v.ntu, ngr := v.ngr, nlo := v.nlo, nch := v.nch, nto := v.nto } := by simp [hil]
  have s9 := OW.setF s8 thC_len i 9 (x := { u with at_ := v.at_, en := v.en, od := v.od, nk := v.nk, ntu := v.ntu, ngr := v.ngr, nlo := v.nlo, nch := v.nch, nto := v.nto }) (y := { u with at_ := v.at_, en := v.en, od := v.od, nk := v.nk, ntu := v.ntu, ngr := v.ngr, nlo := v.nlo, nch := v.nch, nto := v.nto, nme := v.nme }) (v := .int .i64 v.nme) e8 (by omega) rfl
  rw [List.set_set] at s9
  have e9 : (xs.set i { u with at_ := v.at_, en := v.en, od := v.od, nk := v.nk, ntu := v.ntu, ngr := v.ngr, nlo := v.nlo, nch := v.nch, nto := v.nto, nme := v.nme })[i]? = some { u with at_ := v.at_, en := v.en, od := v.od, nk := v.nk, ntu := v.ntu, ngr := v.ngr, nlo := v.nlo, nch := v.nch, nto := v.nto, nme := v.nme } := by simp [hil]
  have s10 := OW.setF s9 thC_len i 10 (x := { u with at_ := v.at_, en := v.en, od := v.od, nk := v.nk, ntu := v.ntu, ngr := v.ngr, nlo := v.nlo, nch := v.nch, nto := v.nto, nme := v.nme }) (y := { u with at_ := v.at_, en := v.en, od := v.od, nk := v.nk, ntu := v.ntu, ngr := v.ngr, nlo := v.nlo, nch := v.nch, nto := v.nto, nme := v.nme, nsi := v.nsi }) (v := .int .i64 v.nsi) e9 (by omega) rfl
  rw [List.set_set] at s10
  have e10 : (xs.set i { u with at_ := v.at_, en := v.en, od := v.od, nk := v.nk, ntu := v.ntu, ngr := v.ngr, nlo := v.nlo, nch := v.nch, nto := v.nto, nme := v.nme, nsi := v.nsi })[i]? = some { u with at_ := v.at_, en := v.en, od := v.od, nk := v.nk, ntu := v.ntu, ngr := v.ngr, nlo := v.nlo, nch := v.nch, nto := v.nto, nme := v.nme, nsi := v.nsi } := by simp [hil]
  have s11 := OW.setF s10 thC_len i 11 (x := { u with at_ := v.at_, en := v.en, od := v.od, nk := v.nk, ntu := v.ntu, ngr := v.ngr, nlo := v.nlo, nch := v.nch, nto := v.nto, nme := v.nme, nsi := v.nsi }) (y := { u with at_ := v.at_, en := v.en, od := v.od, nk := v.nk, ntu := v.ntu, ngr := v.ngr, nlo := v.nlo, nch := v.nch, nto := v.nto, nme := v.nme, nsi := v.nsi, nwa := v.nwa }) (v := .int .i64 v.nwa) e10 (by omega) rfl
  rw [List.set_set] at s11
  have e11 : (xs.set i { u with at_ := v.at_, en := v.en, od := v.od, nk := v.nk, ntu := v.ntu, ngr := v.ngr, nlo := v.nlo, nch := v.nch, nto := v.nto, nme := v.nme, nsi := v.nsi, nwa := v.nwa })[i]? = some { u with at_ := v.at_, en := v.en, od := v.od, nk := v.nk, ntu := v.ntu, ngr := v.ngr, nlo := v.nlo, nch := v.nch, nto := v.nto, nme := v.nme, nsi := v.nsi, nwa := v.nwa } := by simp [hil]
  have s12 := OW.setF s11 thC_len i 12 (x := { u with at_ := v.at_, en := v.en, od := v.od, nk := v.nk, ntu := v.ntu, ngr := v.ngr, nlo := v.nlo, nch := v.nch, nto := v.nto, nme := v.nme, nsi := v.nsi, nwa := v.nwa }) (y := { u with at_ := v.at_, en := v.en, od := v.od, nk := v.nk, ntu := v.ntu, ngr := v.ngr, nlo := v.nlo, nch := v.nch, nto := v.nto, nme := v.nme, nsi := v.nsi, nwa := v.nwa, nar := v.nar }) (v := .int .i64 v.nar) e11 (by omega) rfl
  rw [List.set_set] at s12
  have e12 : (xs.set i { u with at_ := v.at_, en := v.en, od := v.od, nk := v.nk, ntu := v.ntu, ngr := v.ngr, nlo := v.nlo, nch := v.nch, nto := v.nto, nme := v.nme, nsi := v.nsi, nwa := v.nwa, nar := v.nar })[i]? = some { u with at_ := v.at_, en := v.en, od := v.od, nk := v.nk, ntu := v.ntu, ngr := v.ngr, nlo := v.nlo, nch := v.nch, nto := v.nto, nme := v.nme, nsi := v.nsi, nwa := v.nwa, nar := v.nar } := by simp [hil]
  have g2 : (xs.set i { u with at_ := v.at_, en := v.en, od := v.od, nk := v.nk, ntu := v.ntu, ngr := v.ngr, nlo := v.nlo, nch := v.nch, nto := v.nto, nme := v.nme, nsi := v.nsi, nwa := v.nwa, nar := v.nar })[j]? = some v := by rw [List.getElem?_set, if_neg (by omega)]; exact gj
  have t0 := OW.setF s12 thC_len j 0 (x := v) (y := { v with at_ := u.at_ }) (v := .int .i64 u.at_) g2 (by omega) rfl
  have d0 : ((xs.set i { u with at_ := v.at_, en := v.en, od := v.od, nk := v.nk, ntu := v.ntu, ngr := v.ngr, nlo := v.nlo, nch := v.nch, nto := v.nto, nme := v.nme, nsi := v.nsi, nwa := v.nwa, nar := v.nar }).set j { v with at_ := u.at_ })[j]? = some { v with at_ := u.at_ } := by simp [hjl]
  have t1 := OW.setF t0 thC_len j 1 (x := { v with at_ := u.at_ }) (y := { v with at_ := u.at_, en := u.en }) (v := .int .i64 u.en) d0 (by omega) rfl
  rw [List.set_set] at t1
  have d1 : ((xs.set i { u with at_ := v.at_, en := v.en, od := v.od, nk := v.nk, ntu := v.ntu, ngr := v.ngr, nlo := v.nlo, nch := v.nch, nto := v.nto, nme := v.nme, nsi := v.nsi, nwa := v.nwa, nar := v.nar }).set j { v with at_ := u.at_, en := u.en })[j]? = some { v with at_ := u.at_, en := u.en } := by simp [hjl]
  have t2 := OW.setF t1 thC_len j 2 (x := { v with at_ := u.at_, en := u.en }) (y := { v with at_ := u.at_, en := u.en, od := u.od }) (v := .int .i64 ((u.od : Nat) : Int)) d1 (by omega) rfl
  rw [List.set_set] at t2
  have d2 : ((xs.set i { u with at_ := v.at_, en := v.en, od := v.od, nk := v.nk, ntu := v.ntu, ngr := v.ngr, nlo := v.nlo, nch := v.nch, nto := v.nto, nme := v.nme, nsi := v.nsi, nwa := v.nwa, nar := v.nar }).set j { v with at_ := u.at_, en := u.en, od := u.od })[j]? = some { v with at_ := u.at_, en := u.en, od := u.od } := by simp [hjl]
  have t3 := OW.setF t2 thC_len j 3 (x := { v with at_ := u.at_, en := u.en, od := u.od }) (y := { v with at_ := u.at_, en := u.en, od := u.od, nk := u.nk }) (v := .int .i64 u.nk) d2 (by omega) rfl
  rw [List.set_set] at t3
  have d3 : ((xs.set i { u with at_ := v.at_, en := v.en, od := v.od, nk := v.nk, ntu := v.ntu, ngr := v.ngr, nlo := v.nlo, nch := v.nch, nto := v.nto, nme := v.nme, nsi := v.nsi, nwa := v.nwa, nar := v.nar }).set j { v with at_ := u.at_, en := u.en, od := u.od, nk := u.nk })[j]? = some { v with at_ := u.at_, en := u.en, od := u.od, nk := u.nk } := by simp [hjl]
  have t4 := OW.setF t3 thC_len j 4 (x := { v with at_ := u.at_, en := u.en, od := u.od, nk := u.nk }) (y := { v with at_ := u.at_, en := u.en, od := u.od, nk := u.nk, ntu := u.ntu }) (v := .int .i64 u.ntu) d3 (by omega) rfl
  rw [List.set_set] at t4
  have d4 : ((xs.set i { u with at_ := v.at_, en := v.en, od := v.od, nk := v.nk, ntu := v.ntu, ngr := v.ngr, nlo := v.nlo, nch := v.nch, nto := v.nto, nme := v.nme, nsi := v.nsi, nwa := v.nwa, nar := v.nar }).set j { v with at_ := u.at_, en := u.en, od := u.od, nk := u.nk, ntu := u.ntu })[j]? = some { v with at_ := u.at_, en := u.en, od := u.od, nk := u.nk, ntu := u.ntu } := by simp [hjl]
  have t5 := OW.setF t4 thC_len j 5 (x := { v with at_ := u.at_, en := u.en, od := u.od, nk := u.nk, ntu := u.ntu }) (y := { v with at_ := u.at_, en := u.en, od := u.od, nk := u.nk, ntu := u.ntu, ngr := u.ngr }) (v := .int .i64 u.ngr) d4 (by omega) rfl
  rw [List.set_set] at t5
  have d5 : ((xs.set i { u with at_ := v.at_, en := v.en, od := v.od, nk := v.nk, ntu := v.ntu, ngr := v.ngr, nlo := v.nlo, nch := v.nch, nto := v.nto, nme := v.nme, nsi := v.nsi, nwa := v.nwa, nar := v.nar }).set j { v with at_ := u.at_, en := u.en, od := u.od, nk := u.nk, ntu := u.ntu, ngr := u.ngr })[j]? = some { v with at_ := u.at_, en := u.en, od := u.od, nk := u.nk, ntu := u.ntu, ngr := u.ngr } := by simp [hjl]
  have t6 := OW.setF t5 thC_len j 6 (x := { v with at_ := u.at_, en := u.en, od := u.od, nk := u.nk, ntu := u.ntu, ngr := u.ngr }) (y := { v with at_ := u.at_, en := u.en, od := u.od, nk := u.nk, ntu := u.ntu, ngr := u.ngr, nlo := u.nlo }) (v := .int .i64 u.nlo) d5 (by omega) rfl
  rw [List.set_set] at t6
  have d6 : ((xs.set i { u with at_ := v.at_, en := v.en, od := v.od, nk := v.nk, ntu := v.ntu, ngr := v.ngr, nlo := v.nlo, nch := v.nch, nto := v.nto, nme := v.nme, nsi := v.nsi, nwa := v.nwa, nar := v.nar }).set j { v with at_ := u.at_, en := u.en, od := u.od, nk := u.nk, ntu := u.ntu, ngr := u.ngr, nlo := u.nlo })[j]? = some { v with at_ := u.at_, en := u.en, od := u.od, nk := u.nk, ntu := u.ntu, ngr := u.ngr, nlo := u.nlo } := by simp [hjl]
  have t7 := OW.setF t6 thC_len j 7 (x := { v with at_ := u.at_, en := u.en, od := u.od, nk := u.nk, ntu := u.ntu, ngr := u.ngr, nlo := u.nlo }) (y := { v with at_ := u.at_, en := u.en, od := u.od, nk := u.nk, ntu := u.ntu, ngr := u.ngr, nlo := u.nlo, nch := u.nch }) (v := .int .i64 u.nch) d6 (by omega) rfl
  rw [List.set_set] at t7
  have d7 : ((xs.set i { u with at_ := v.at_, en := v.en, od := v.od, nk := v.nk, ntu := v.ntu, ngr := v.ngr, nlo := v.nlo, nch := v.nch, nto := v.nto, nme := v.nme, nsi := v.nsi, nwa := v.nwa, nar := v.nar }).set j { v with at_ := u.at_, en := u.en, od := u.od, nk := u.nk, ntu := u.ntu, ngr := u.ngr, nlo := u.nlo, nch := u.nch })[j]? = some { v with at_ := u.at_, en := u.en, od := u.od, nk := u.nk, ntu := u.ntu, ngr := u.ngr, nlo := u.nlo, nch := u.nch } := by simp [hjl]
  have t8 := OW.setF t7 thC_len j 8 (x := { v with at_ := u.at_, en := u.en, od := u.od, nk := u.nk, ntu := u.ntu, ngr := u.ngr, nlo := u.nlo, nch := u.nch }) (y := { v with at_ := u.at_, en := u.en, od := u.od, nk := u.nk, ntu := u.ntu, ngr := u.ngr, nlo := u.nlo, nch := u.nch, nto := u.nto }) (v := .int .i64 u.nto) d7 (by omega) rfl
  rw [List.set_set] at t8
  have d8 : ((xs.set i { u with at_ := v.at_, en := v.en, od := v.od, nk := v.nk, ntu := v.ntu, ngr := v.ngr, nlo := v.nlo, nch := v.nch, nto := v.nto, nme := v.nme, nsi := v.nsi, nwa := v.nwa, nar := v.nar }).set j { v with at_ := u.at_, en := u.en, od := u.od, nk := u.nk, ntu := u.ntu, ngr := u.ngr, nlo := u.nlo, nch := u.nch, nto := u.nto })[j]? = some { v with at_ := u.at_, en := u.en, od := u.od, nk := u.nk, ntu := u.ntu, ngr := u.ngr, nlo := u.nlo, nch := u.nch, nto := u.nto } := by simp [hjl]
  have t9 := OW.setF t8 thC_len j 9 (x := { v with at_ := u.at_, en := u.en, od := u.od, nk := u.nk, ntu := u.ntu, ngr := u.ngr, nlo := u.nlo, nch := u.nch, nto := u.nto }) (y := { v with at_ := u.at_, en := u.en, od := u.od, nk := u.nk, ntu := u.ntu, ngr := u.ngr, nlo := u.nlo, nch := u.nch, nto := u.nto, nme := u.nme }) (v := .int .i64 u.nme) d8 (by omega) rfl
  rw [List.set_set] at t9
  have d9 : ((xs.set i { u with at_ := v.at_, en := v.en, od := v.od, nk := v.nk, ntu := v.ntu, ngr := v.ngr, nlo := v.nlo, nch := v.nch, nto := v.nto, nme := v.nme, nsi := v.nsi, nwa := v.nwa, nar := v.nar }).set j { v with at_ := u.at_, en := u.en, od := u.od, nk := u.nk, ntu := u.ntu, ngr := u.ngr, nlo := u.nlo, nch := u.nch, nto := u.nto, nme := u.nme })[j]? = some { v with at_ := u.at_, en := u.en, od := u.od, nk := u.nk, ntu := u.ntu, ngr := u.ngr, nlo := u.nlo, nch := u.nch, nto := u.nto, nme := u.nme } := by simp [hjl]
  have t10 := OW.setF t9 thC_len j 10 (x := { v with at_ := u.at_, en := u.en, od := u.od, nk := u.nk, ntu := u.ntu, ngr := u.ngr, nlo := u.nlo, nch := u.nch, nto := u.nto, nme := u.nme }) (y := { v with at_ := u.at_, en := u.en, od := u.od, nk := u.nk, ntu := u.ntu, ngr := u.ngr, nlo := u.nlo, nch := u.nch, nto := u.nto, nme := u.nme, nsi := u.nsi }) (v := .int .i64 u.nsi) d9 (by omega) rfl
  rw [List.set_set] at t10
  have d10 : ((xs.set i { u with at_ := v.at_, en := v.en, od := v.od, nk := v.nk, ntu := v.ntu, ngr := v.ngr, nlo := v.nlo, nch := v.nch, nto := v.nto, nme := v.nme, nsi := v.nsi, nwa := v.nwa, nar := v.nar }).set j { v with at_ := u.at_, en := u.en, od := u.od, nk := u.nk, ntu := u.ntu, ngr := u.ngr, nlo := u.nlo, nch := u.nch, nto := u.nto, nme := u.nme, nsi := u.nsi })[j]? = some { v with at_ := u.at_, en := u.en, od := u.od, nk := u.nk, ntu := u.ntu, ngr := u.ngr, nlo := u.nlo, nch := u.nch, nto := u.nto, nme := u.nme, nsi := u.nsi } := by simp [hjl]
  have t11 := OW.setF t10 thC_len j 11 (x := { v with at_ := u.at_, en := u.en, od := u.od, nk := u.nk, ntu := u.ntu, ngr := u.ngr, nlo := u.nlo, nch := u.nch, nto := u.nto, nme := u.nme, nsi := u.nsi }) (y := { v with at_ := u.at_, en := u.en, od := u.od, nk := u.nk, ntu := u.ntu, ngr := u.ngr, nlo := u.nlo, nch := u.nch, nto := u.nto, nme := u.nme, nsi := u.nsi, nwa := u.nwa }) (v := .int .i64 u.nwa) d10 (by omega) rfl
  rw [List.set_set] at t11
  have d11 : ((xs.set i { u with at_ := v.at_, en := v.en, od := v.od, nk := v.nk, ntu := v.ntu, ngr := v.ngr, nlo := v.nlo, nch := v.nch, nto := v.nto, nme := v.nme, nsi := v.nsi, nwa := v.nwa, nar := v.nar }).set j { v with at_ := u.at_, en := u.en, od := u.od, nk := u.nk, ntu := u.ntu, ngr := u.ngr, nlo := u.nlo, nch := u.nch, nto := u.nto, nme := u.nme, nsi := u.nsi, nwa := u.nwa })[j]? = some { v with at_ := u.at_, en := u.en, od := u.od, nk := u.nk, ntu := u.ntu, ngr := u.ngr, nlo := u.nlo, nch := u.nch, nto := u.nto, nme := u.nme, nsi := u.nsi, nwa := u.nwa } := by simp [hjl]
  have t12 := OW.setF t11 thC_len j 12 (x := { v with at_ := u.at_, en := u.en, od := u.od, nk := u.nk, ntu := u.ntu, ngr := u.ngr, nlo := u.nlo, nch := u.nch, nto := u.nto, nme := u.nme, nsi := u.nsi, nwa := u.nwa }) (y := { v with at_ := u.at_, en := u.en, od := u.od, nk := u.nk, ntu := u.ntu, ngr := u.ngr, nlo := u.nlo, nch := u.nch, nto := u.nto, nme := u.nme, nsi := u.nsi, nwa := u.nwa, nar := u.nar }) (v := .int .i64 u.nar) d11 (by omega) rfl
  rw [List.set_set] at t12
  have d12 : ((xs.set i { u with at_ := v.at_, en := v.en, od := v.od, nk := v.nk, ntu := v.ntu, ngr := v.ngr, nlo := v.nlo, nch := v.nch, nto := v.nto, nme := v.nme, nsi := v.nsi, nwa := v.nwa, nar := v.nar }).set j { v with at_ := u.at_, en := u.en, od := u.od, nk := u.nk, ntu := u.ntu, ngr := u.ngr, nlo := u.nlo, nch := u.nch, nto := u.nto, nme := u.nme, nsi := u.nsi, nwa := u.nwa, nar := u.nar })[j]? = some { v with at_ := u.at_, en := u.en, od := u.od, nk := u.nk, ntu := u.ntu, ngr := u.ngr, nlo := u.nlo, nch := u.nch, nto := u.nto, nme := u.nme, nsi := u.nsi, nwa := u.nwa, nar := u.nar } := by simp [hjl]
  exact t12
theorem exT' {base b n c i j : Nat} {A B C : List ThR} {u v : ThR} {w : World} (h : OW thC 13 94 base w (some ⟨b, 0, none⟩) n c (A ++ u :: (B ++ v :: C))) (hi : A.length = i) (hj : A.length + B.length + 1 = j) :
    OW thC 13 94 base ((((((((((((((((((((((((((w.setCell ⟨b, j * 13 + 0, none⟩ (.int .i64 u.at_)).setCell ⟨b, j * 13 + 1, none⟩ (.int .i64 u.en)).setCell ⟨b, j * 13 + 2, none⟩ (.int .i64 ((u.od : Nat) : Int))).setCell ⟨b, j * 13 + 3, none⟩ (.int .i64 u.nk)).setCell ⟨b, j * 13 + 4, none⟩ (.int .i64 u.ntu)).setCell ⟨b, j * 13 + 5, none⟩ (.int .i64 u.ngr)).setCell ⟨b, j * 13 + 6, none⟩ (.int .i64 u.nlo)).setCell ⟨b, j * 13 + 7, none⟩ (.int .i64 u.nch)).setCell ⟨b, j * 13 + 8, none⟩ (.int .i64 u.nto)).setCell ⟨b, j * 13 + 9, none⟩ (.int .i64 u.nme)).setCell ⟨b, j * 13 + 10, none⟩ (.int .i64 u.nsi)).setCell ⟨b, j * 13 + 11, none⟩ (.int .i64 u.nwa)).setCell ⟨b, j * 13 + 12, none⟩ (.int .i64 u.nar)).setCell ⟨b, i * 13 + 0, none⟩ (.int .i64 v.at_)).setCell ⟨b, i * 13 + 1, none⟩ (.int .i64 v.en)).setCell ⟨b, i * 13 + 2, none⟩ (.int .i64 ((v.od : Nat) : Int))).setCell ⟨b, i * 13 + 3, none⟩ (.int .i64 v.nk)).setCell ⟨b, i * 13 + 4, none⟩ (.int .i64 v.ntu)).setCell ⟨b, i * 13 + 5, none⟩ (.int .i64 v.ngr)).setCell ⟨b, i * 13 + 6, none⟩ (.int .i64 v.nlo)).setCell ⟨b, i * 13 + 7, none⟩ (.int .i64 v.nch)).setCell ⟨b, i * 13 + 8, none⟩ (.int .i64 v.nto)).setCell ⟨b, i * 13 + 9, none⟩ (.int .i64 v.nme)).setCell ⟨b, i * 13 + 10, none⟩ (.int .i64 v.nsi)).setCell ⟨b, i * 13 + 11, none⟩ (.int .i64 v.nwa)).setCell ⟨b, i * 13 + 12, none⟩ (.int .i64 v.nar)) (some ⟨b, 0, none⟩) n c (A ++ v :: (B ++ u :: C)) := by
  have gi := getElem?_mid A u (B ++ v :: C) hi
  have gj := get_second A u B v C hj
  have hil : i < (A ++ u :: (B ++ v :: C)).length := (List.getElem?_eq_some_iff.1 gi).1
  have hjl : j < (A ++ u :: (B ++ v :: C)).length := (List.getElem?_eq_some_iff.1 gj).1
  have hres : ((A ++ u :: (B ++ v :: C)).set j u).set i v = A ++ v :: (B ++ u :: C) := by
    rw [List.set_comm _ _ (by omega : j ≠ i)]
    exact swp_mid A u B v C hi hj
  rw [← hres]
  have hne : i ≠ j := by omega
  generalize A ++ u :: (B ++ v :: C) = xs at h gi gj hil hjl ⊢
  clear hres hi hj
  have s0 := OW.setF h thC_len j 0 (x := v) (y := { v with at_ := u.at_ }) (v := .int .i64 u.at_) gj (by omega) rfl
  have e0 : (xs.set j { v with at_ := u.at_ })[j]? = some { v with at_ := u.at_ } := by simp [hjl]
  have s1 := OW.setF s0 thC_len j 1 (x := { v with at_ := u.at_ }) (y := { v with at_ := u.at_, en := u.en }) (v := .int .i64 u.en) e0 (by omega) rfl
  rw [List.set_set] at s1
  have e1 : (xs.set j { v with at_ := u.at_, en := u.en })[j]? = some { v with at_ := u.at_, en := u.en } := by simp [hjl]
  have s2 := OW.setF s1 thC_len j 2 (x := { v with at_ := u.at_, en := u.en }) (y := { v with at_ := u.at_, en := u.en, od := u.od }) (v := .int .i64 ((u.od : Nat) : Int)) e1 (by omega) rfl
  rw [List.set_set] at s2
  have e2 : (xs.set j { v with at_ := u.at_, en := u.en, od := u.od })[j]? = some { v with at_ := u.at_, en := u.en, od := u.od } := by simp [hjl]
  have s3 := OW.setF s2 thC_len j 3 (x := { v with at_ := u.at_, en := u.en, od := u.od }) (y := { v with at_ := u.at_, en := u.en, od := u.od, nk := u.nk }) (v := .int .i64 u.nk) e2 (by omega) rfl
  rw [List.set_set] at s3
  have e3 : (xs.set j { v with at_ := u.at_, en := u.en, od := u.od, nk := u.nk })[j]? = some { v with at_ := u.at_, en := u.en, od := u.od, nk := u.nk } := by simp [hjl]
  have s4 := OW.setF s3 thC_len j 4 (x := { v with at_ := u.at_, en := u.en, od := u.od, nk := u.nk }) (y := { v with at_ := u.at_, en := u.en, od := u.od, nk := u.nk, ntu := u.ntu }) (v := .int .i64 u.ntu) e3 (by omega) rfl
  rw [List.set_set] at s4
  have e4 : (xs.set j { v with at_ := u.at_, en := u.en, od := u.od, nk := u.nk, ntu := u.ntu })[j]? = some { v with at_ := u.at_, en := u.en, od := u.od, nk := u.nk, ntu := u.ntu } := by simp [hjl]
  have s5 := OW.setF s4 thC_len j 5 (x := { v with at_ := u.at_, en := u.en, od := u.od, nk := u.nk, ntu := u.ntu }) (y := { v with at_ := u.at_, en := u.en, od := u.od, nk := u.nk, ntu := u.ntu, ngr := u.ngr }) (v := .int .i64 u.ngr) e4 (by omega) rfl
  rw [List.set_set] at s5
  have e5 : (xs.set j { v with at_ := u.at_, en := u.en, od := u.od, nk := u.nk, ntu := u.ntu, ngr := u.ngr })[j]? = some { v with at_ := u.at_, en := u.en, od := u.od, nk := u.nk, ntu := u.ntu, ngr := u.ngr } := by simp [hjl]
  have s6 := OW.setF s5 thC_len j 6 (x := { v with at_ := u.at_, en := u.en, od := u.od, nk := u.nk, ntu := u.ntu, ngr := u.ngr }) (y := { v with at_ := u.at_, en := u.en, od := u.od, nk := u.nk, ntu := u.ntu, ngr := u.ngr, nlo := u.nlo }) (v := .int .i64 u.nlo) e5 (by omega) rfl
  rw [List.set_set] at s6
  have e6 : (xs.set j { v with at_ := u.at_, en := u.en, od := u.od, nk := u.nk, ntu := u.ntu, ngr := u.ngr, nlo := u.nlo })[j]? = some { v with at_ := u.at_, en := u.en, od := u.od, nk := u.nk, ntu := u.ntu, ngr := u.ngr, nlo := u.nlo } := by simp [hjl]
  have s7 := OW.setF s6 thC_len j 7 (x := { v with at_ := u.at_, en := u.en, od := u.od, nk := u.nk, ntu := u.ntu, ngr := u.ngr, nlo := u.nlo }) (y := { v with at_ := u.at_, en := u.en, od := u.od, nk := u.nk, ntu := u.ntu, ngr := u.ngr, nlo := u.nlo, nch := u.nch }) (v := .int .i64 u.nch) e6 (by omega) rfl
  rw [List.set_set] at s7
  have e7 : (xs.set j { v with at_ := u.at_, en := u.en, od := u.od, nk := u.nk, ntu := u.ntu, ngr := u.ngr, nlo := u.nlo, nch := u.nch })[j]? = some { v with at_ := u.at_, en := u.en, od := u.od, nk := u.nk, ntu := u.ntu, ngr := u.ngr, nlo := u.nlo, nch := u.nch } := by simp [hjl]
  have s8 := OW.setF s7 thC_len j 8 (x := { v with at_ := u.at_, en := u.en, od := u.od, nk := u.nk, ntu := u.ntu, ngr := u.ngr, nlo := u.nlo, nch := u.nch }) (y := { v with at_ := u.at_, en := u.en, od := u.od, nk := u.nk, ntu := u.ntu, ngr := u.ngr, nlo := u.nlo, nch := u.nch, nto := u.nto }) (v := .int .i64 u.nto) e7 (by omega) rfl
  rw [List.set_set] at s8
  have e8 : (xs.set j { v with at_ := u.at_, en := u.en, od := u.od, nk := u.nk, ntu := u.ntu, ngr := u.ngr, nlo := u.nlo, nch := u.nch, nto := u.nto })[j]? = some { v with at_ := u.at_, en := u.en, od := u.od, nk := u.nk, ntu := u.ntu, ngr := u.ngr, nlo := u.nlo, nch := u.nch, nto := u.nto } := by simp [hjl]
  have s9 := OW.setF s8 thC_len j 9 (x := { v with at_ := u.at_, en := u.en, od := u.od, nk := u.nk, ntu := u.ntu, ngr := u.ngr, nlo := u.nlo, nch := u.nch, nto := u.nto }) (y := { v with at_ := u.at_, en := u.en, od := u.od, nk := u.nk, ntu := u.ntu, ngr := u.ngr, nlo := u.nlo, nch := u.nch, nto := u.nto, nme := u.nme }) (v := .int .i64 u.nme) e8 (by omega) rfl
  rw [List.set_set] at s9
  have e9 : (xs.set j { v with at_ := u.at_, en := u.en, od := u.od, nk := u.nk, ntu := u.ntu, ngr := u.ngr, nlo := u.nlo, nch := u.nch, nto := u.nto, nme := u.nme })[j]? = some { v with at_ := u.at_, en := u.en, od := u.od, nk := u.nk, ntu := u.ntu, ngr := u.ngr, nlo := u.nlo, nch := u.nch, nto := u.nto, nme := u.nme } := by simp [hjl]
  have s10 := OW.setF s9 thC_len j 10 (x := { v with at_ := u.at_, en := u.en, od := u.od, nk := u.nk, ntu := u.ntu, ngr := u.ngr, nlo := u.nlo, nch := u.nch, nto := u.nto, nme := u.nme }) (y := { v with at_ := u.at_, en := u.en, od := u.od, nk := u.nk, ntu := u.ntu, ngr := u.ngr, nlo := u.nlo, nch := u.nch, nto := u.nto, nme := u.nme, nsi := u.nsi }) (v := .int .i64 u.nsi) e9 (by omega) rfl
  rw [List.set_set] at s10
  have e10 : (xs.set j { v with at_ := u.at_, en := u.en, od := u.od, nk := u.nk, ntu := u.ntu, ngr := u.ngr, nlo := u.nlo, nch := u.nch, nto := u.nto, nme := u.nme, nsi := u.nsi })[j]? = some { v with at_ := u.at_, en := u.en, od := u.od, nk := u.nk, ntu := u.ntu, ngr := u.ngr, nlo := u.nlo, nch := u.nch, nto := u.nto, nme := u.nme, nsi := u.nsi } := by simp [hjl]
  have s11 := OW.setF s10 thC_len j 11 (x := { v with at_ := u.at_, en := u.en, od := u.od, nk := u.nk, ntu := u.ntu, ngr := u.ngr, nlo := u.nlo, nch := u.nch, nto := u.nto, nme := u.nme, nsi := u.nsi }) (y := { v with at_ := u.at_, en := u.en, od := u.od, nk := u.nk, ntu := u.ntu, ngr := u.ngr, nlo := u.nlo, nch := u.nch, nto := u.nto, nme := u.nme, nsi := u.nsi, nwa := u.nwa }) (v := .int .i64 u.nwa) e10 (by omega) rfl
  rw [List.set_set] at s11
  have e11 : (xs.set j { v with at_ := u.at_, en := u.en, od := u.od, nk := u.nk, ntu := u.ntu, ngr := u.ngr, nlo := u.nlo, nch := u.nch, nto := u.nto, nme := u.nme, nsi := u.nsi, nwa := u.nwa })[j]? = some { v with at_ := u.at_, en := u.en, od := u.od, nk := u.nk, ntu := u.ntu, ngr := u.ngr, nlo := u.nlo, nch := u.nch, nto := u.nto, nme := u.nme, nsi := u.nsi, nwa := u.nwa } := by simp [hjl]
  have s12 := OW.setF s11 thC_len j 12 (x := { v with at_ := u.at_, en := u.en, od := u.od, nk := u.nk, ntu := u.ntu, ngr := u.ngr, nlo := u.nlo, nch := u.nch, nto := u.nto, nme := u.nme, nsi := u.nsi, nwa := u.nwa }) (y := { v with at_ := u.at_, en := u.en, od := u.od, nk := u.nk, ntu := u.ntu, ngr := u.ngr, nlo := u.nlo, nch := u.nch, nto := u.nto, nme := u.nme, nsi := u.nsi, nwa := u.nwa, nar := u.nar }) (v := .int .i64 u.nar) e11 (by omega) rfl
  rw [List.set_set] at s12
  have e12 : (xs.set j { v with at_ := u.at_, en := u.en, od := u.od, nk := u.nk, ntu := u.ntu, ngr := u.ngr, nlo := u.nlo, nch := u.nch, nto := u.nto, nme := u.nme, nsi := u.nsi, nwa := u.nwa, nar := u.nar })[j]? = some { v with at_ := u.at_, en := u.en, od := u.od, nk := u.nk, ntu := u.ntu, ngr := u.ngr, nlo := u.nlo, nch := u.nch, nto := u.nto, nme := u.nme, nsi := u.nsi, nwa := u.nwa, nar := u.nar } := by simp [hjl]
  have g2 : (xs.set j { v with at_ := u.at_, en := u.en, od := u.od, nk := u.nk, ntu := u.ntu, ngr := u.ngr, nlo := u.nlo, nch := u.nch, nto := u.nto, nme := u.nme, nsi := u.nsi, nwa := u.nwa, nar := u.nar })[i]? = some u := by rw [List.getElem?_set, if_neg (by omega)]; exact gi
  have t0 := OW.setF s12 thC_len i 0 (x := u) (y := { u with at_ := v.at_ }) (v := .int .i64 v.at_) g2 (by omega) rfl
  have d0 : ((xs.set j { v with at_ := u.at_, en := u.en, od := u.od, nk := u.nk, ntu := u.ntu, ngr := u.ngr, nlo := u.nlo, nch := u.nch, nto := u.nto, nme := u.nme, nsi := u.nsi, nwa := u.nwa, nar := u.nar }).set i { u with at_ := v.at_ })[i]? = some { u with at_ := v.at_ } := by simp [hil]
  have t1 := OW.setF t0 thC_len i 1 (x := { u with at_ := v.at_ }) (y := { u with at_ := v.at_, en := v.en }) (v := .int .i64 v.en) d0 (by omega) rfl
  rw [List.set_set] at t1
  have d1 : ((xs.set j { v with at_ := u.at_, en := u.en, od := u.od, nk := u.nk, ntu := u.ntu, ngr := u.ngr, nlo := u.nlo, nch := u.nch, nto := u.nto, nme := u.nme, nsi := u.nsi, nwa := u.nwa, nar := u.nar }).set i { u with at_ := v.at_, en := v.en })[i]? = some { u with at_ := v.at_, en := v.en } := by simp [hil]
  have t2 := OW.setF t1 thC_len i 2 (x := { u with at_ := v.at_, en := v.en }) (y := { u with at_ := v.at_, en := v.en, od := v.od }) (v := .int .i64 ((v.od : Nat) : Int)) d1 (by omega) rfl
  rw [List.set_set] at t2
  have d2 : ((xs.set j { v with at_ := u.at_, en := u.en, od := u.od, nk := u.nk, ntu := u.ntu, ngr := u.ngr, nlo := u.nlo, nch := u.nch, nto := u.nto, nme := u.nme, nsi := u.nsi, nwa := u.nwa, nar := u.nar }).set i { u with at_ := v.at_, en := v.en, od := v.od })[i]? = some { u with at_ := v.at_, en := v.en, od := v.od } := by simp [hil]
  have t3 := OW.setF t2 thC_len i 3 (x := { u with at_ := v.at_, en := v.en, od := v.od }) (y := { u with at_ := v.at_, en := v.en, od := v.od, nk := v.nk }) (v := .int .i64 v.nk) d2 (by omega) rfl
  rw [List.set_set] at t3
  have d3 : ((xs.set j { v with at_ := u.at_, en := u.en, od := u.od, nk := u.nk, ntu := u.ntu, ngr := u.ngr, nlo := u.nlo, nch := u.nch, nto := u.nto, nme := u.nme, nsi := u.nsi, nwa := u.nwa, nar := u.nar }).set i { u with at_ := v.at_, en := v.en, od := v.od, nk := v.nk })[i]? = some { u with at_ := v.at_, en := v.en, od := v.od, nk := v.nk } := by simp [hil]
  have t4 := OW.setF t3 thC_len i 4 (x := { u with at_ := v.at_, en := v.en, od := v.od, nk := v.nk }) (y := { u with at_ := v.at_, en := v.en, od := v.od, nk := v.nk, ntu := v.ntu }) (v := .int .i64 v.ntu) d3 (by omega) rfl
  rw [List.set_set] at t4
  have d4 : ((xs.set j { v with at_ := u.at_, en := u.en, od := u.od, nk := u.nk, ntu := u.ntu, ngr := u.ngr, nlo := u.nlo, nch := u.nch, nto := u.nto, nme := u.nme, nsi := u.nsi, nwa := u.nwa, nar := u.nar }).set i { u with at_ := v.at_, en := v.en, od := v.od, nk := v.nk, ntu := v.ntu })[i]? = some { u with at_ := v.at_, en := v.en, od := v.od, nk := v.nk, ntu := v.ntu } := by simp [hil]
  have t5 := OW.setF t4 thC_len i 5 (x := { u with at_ := v.at_, en := v.en, od := v.od, nk := v.nk, ntu := v.ntu }) (y := { u with at_ := v.at_, en := v.en, od := v.od, nk := v.nk, ntu := v.ntu, ngr := v.ngr }) (v := .int .i64 v.ngr) d4 (by omega) rfl
  rw [List.set_set] at t5
  have d5 : ((xs.set j { v with at_ := u.at_, en := u.en, od := u.od, nk := u.nk, ntu := u.ntu, ngr := u.ngr, nlo := u.nlo, nch := u.nch, nto := u.nto, nme := u.nme, nsi := u.nsi, nwa := u.nwa, nar := u.nar }).set i { u with at_ := v.at_, en := v.en, od := v.od, nk := v.nk, ntu := v.ntu, ngr := v.ngr })[i]? = some { u with at_ := v.at_, en := v.en, od := v.od, nk := v.nk, ntu := v.ntu, ngr := v.ngr } := by simp [hil]
  have t6 := OW.setF t5 thC_len i 6 (x := { u with at_ := v.at_, en := v.en, od := v.od, nk := v.nk, ntu := v.ntu, ngr := v.ngr }) (y := { u with at_ := v.at_, en := v.en, od := v.od, nk := v.nk, ntu := v.ntu, ngr := v.ngr, nlo := v.nlo }) (v := .int .i64 v.nlo) d5 (by omega) rfl
  rw [List.set_set] at t6
  have d6 : ((xs.set j { v with at_ := u.at_, en := u.en, od := u.od, nk := u.nk, ntu := u.ntu, ngr := u.ngr, nlo := u.nlo, nch := u.nch, nto := u.nto, nme := u.nme, nsi := u.nsi, nwa := u.nwa, nar := u.nar }).set i { u with at_ := v.at_, en := v.en, od := v.od, nk := v.nk, ntu := v.ntu, ngr := v.ngr, nlo := v.nlo })[i]? = some { u with at_ := v.at_, en := v.en, od := v.od, nk := v.nk, ntu := v.ntu, ngr := v.ngr, nlo := v.nlo } := by simp [hil]
  have t7 := OW.setF t6 thC_len i 7 (x := { u with at_ := v.at_, en := v.en, od := v.od, nk := v.nk, ntu := v.ntu, ngr := v.ngr, nlo := v.nlo }) (y := { u with at_ := v.at_, en := v.en, od := v.od, nk := v.nk, ntu := v.ntu, ngr := v.ngr, nlo := v.nlo, nch := v.nch }) (v := .int .i64 v.nch) d6 (by omega) rfl
  rw [List.set_set] at t7
  have d7 : ((xs.set j { v with at_ := u.at_, en := u.en, od := u.od, nk := u.nk, ntu := u.ntu, ngr := u.ngr, nlo := u.nlo, nch := u.nch, nto := u.nto, nme := u.nme, nsi := u.nsi, nwa := u.nwa, nar := u.nar }).set i { u with at_ := v.at_, en := v.en, od := v.od, nk := v.nk, ntu := v.ntu, ngr := v.ngr, nlo := v.nlo, nch := v.nch })[i]? = some { u with at_ := v.at_, en := v.en, od := v.od, nk := v.nk, ntu := v.ntu, ngr := v.ngr, nlo := v.nlo, nch := v.nch } := by simp [hil]
  have t8 := OW.setF t7 thC_len i 8 (x := { u with at_ := v.at_, en := v.en, od := v.od, nk := v.nk, ntu := v.ntu, ngr := v.ngr, nlo := v.nlo, nch := v.nch }) (y := { u with at_ := v.at_, en := v.en, od := v.od, nk := v.nk, ntu := v.ntu, ngr := v.ngr, nlo := v.nlo, nch := v.nch, nto := v.nto }) (v := .int .i64 v.nto) d7 (by omega) rfl
  rw [List.set_set] at t8
  have d8 : ((xs.set j { v with at_ := u.at_, en := u.en, od := u.od, nk := u.nk, ntu := u.ntu, ngr := u.ngr, nlo := u.nlo, nch := u.nch, nto := u.nto, nme := u.nme, nsi := u.nsi, nwa := u.nwa, nar := u.nar }).set i { u with at_ := v.at_, en := v.en, od := v.od, nk := v.nk, ntu := v.ntu, ngr := v.ngr, nlo := v.nlo, nch := v.nch, nto := v.nto })[i]? = some { u with at_ := v.at_, en := v.en, od := v.od, nk := v.nk, ntu := v.ntu, ngr := v.ngr, nlo := v.nlo, nch := v.nch, nto := v.nto } := by simp [hil]
  have t9 := OW.setF t8 thC_len i 9 (x := { u with at_ := v.at_, en := v.en, od := v.od, nk := v.nk, ntu := v.ntu, ngr := v.ngr, nlo := v.nlo, nch := v.nch, nto := v.nto }) (y := { u with at_ := v.at_, en := v.en, od := v.od, nk := v.nk, ntu := v.ntu, ngr := v.ngr, nlo := v.nlo, nch := v.nch, nto := v.nto, nme := v.nme }) (v := .int .i64 v.nme) d8 (by omega) rfl
  rw [List.set_set] at t9
  have d9 : ((xs.set j { v with at_ := u.at_, en := u.en, od := u.od, nk := u.nk, ntu := u.ntu, ngr := u.ngr, nlo := u.nlo, nch := u.nch, nto := u.nto, nme := u.nme, nsi := u.nsi, nwa := u.nwa, nar := u.nar }).set i { u with at_ := v.at_, en := v.en, od := v.od, nk := v.nk, ntu := v.ntu, ngr := v.ngr, nlo := v.nlo, nch := v.nch, nto := v.nto, nme := v.nme })[i]? = some { u with at_ := v.at_, en := v.en, od := v.od, nk := v.nk, ntu := v.ntu, ngr := v.ngr, nlo := v.nlo, nch := v.nch, nto := v.nto, nme := v.nme } := by simp [hil]
  have t10 := OW.setF t9 thC_len i 10 (x := { u with at_ := v.at_, en := v.en, od := v.od, nk := v.nk, ntu := v.ntu, ngr := v.ngr, nlo := v.nlo, nch := v.nch, nto := v.nto, nme := v.nme }) (y := { u with at_ := v.at_, en := v.en, od := v.od, nk := v.nk, ntu := v.ntu, ngr := v.ngr, nlo := v.nlo, nch := v.nch, nto := v.nto, nme := v.nme, nsi := v.nsi }) (v := .int .i64 v.nsi) d9 (by omega) rfl
  rw [List.set_set] at t10
  have d10 : ((xs.set j { v with at_ := u.at_, en := u.en, od := u.od, nk := u.nk, ntu := u.ntu, ngr := u.ngr, nlo := u.nlo, nch := u.nch, nto := u.nto, nme := u.nme, nsi := u.nsi, nwa := u.nwa, nar := u.nar }).set i { u with at_ := v.at_, en := v.en, od := v.od, nk := v.nk, ntu := v.ntu, ngr := v.ngr, nlo := v.nlo, nch := v.nch, nto := v.nto, nme := v.nme, nsi := v.nsi })[i]? = some { u with at_ := v.at_, en := v.en, od := v.od, nk := v.nk, ntu := v.ntu, ngr := v.ngr, nlo := v.nlo, nch := v.nch, nto := v.nto, nme := v.nme, nsi := v.nsi } := by simp [hil]
  have t11 := OW.setF t10 thC_len i 11 (x := { u with at_ := v.at_, en := v.en, od := v.od, nk := v.nk, ntu := v.ntu, ngr := v.ngr, nlo := v.nlo, nch := v.nch, nto := v.nto, nme := v.nme, nsi := v.nsi }) (y := { u with at_ := v.at_, en := v.en, od := v.od, nk := v.nk, ntu := v.ntu, ngr := v.ngr, nlo := v.nlo, nch := v.nch, nto := v.nto, nme := v.nme, nsi := v.nsi, nwa := v.nwa }) (v := .int .i64 v.nwa) d10 (by omega) rfl
  rw [List.set_set] at t11
  have d11 : ((xs.set j { v with at_ := u.at_, en := u.en, od := u.od, nk := u.nk, ntu := u.ntu, ngr := u.ngr, nlo := u.nlo, nch := u.nch, nto := u.nto, nme := u.nme, nsi := u.nsi, nwa := u.nwa, nar := u.nar }).set i { u with at_ := v.at_, en := v.en, od := v.od, nk := v.nk, ntu := v.ntu, ngr := v.ngr, nlo := v.nlo, nch := v.nch, nto := v.nto, nme := v.nme, nsi := v.nsi, nwa := v.nwa })[i]? = some { u with at_ := v.at_, en := v.en, od := v.od, nk := v.nk, ntu := v.ntu, ngr := v.ngr, nlo := v.nlo, nch := v.nch, nto := v.nto, nme := v.nme, nsi := v.nsi, nwa := v.nwa } := by simp [hil]
  have t12 := OW.setF t11 thC_len i 12 (x := { u with at_ := v.at_, en := v.en, od := v.od, nk := v.nk, ntu := v.ntu, ngr := v.ngr, nlo := v.nlo, nch := v.nch, nto := v.nto, nme := v.nme, nsi := v.nsi, nwa := v.nwa }) (y := { u with at_ := v.at_, en := v.en, od := v.od, nk := v.nk, ntu := v.ntu, ngr := v.ngr, nlo := v.nlo, nch := v.nch, nto := v.nto, nme := v.nme, nsi := v.nsi, nwa := v.nwa, nar := v.nar }) (v := .int .i64 v.nar) d11 (by omega) rfl
  rw [List.set_set] at t12
  have d12 : ((xs.set j { v with at_ := u.at_, en := u.en, od := u.od, nk := u.nk, ntu := u.ntu, ngr := u.ngr, nlo := u.nlo, nch := u.nch, nto := u.nto, nme := u.nme, nsi := u.nsi, nwa := u.nwa, nar := u.nar }).set i { u with at_ := v.at_, en := v.en, od := v.od, nk := v.nk, ntu := v.ntu, ngr := v.ngr, nlo := v.nlo, nch := v.nch, nto := v.nto, nme := v.nme, nsi := v.nsi, nwa := v.nwa, nar := v.nar })[i]? = some { u with at_ := v.at_, en := v.en, od := v.od, nk := v.nk, ntu := v.ntu, ngr := v.ngr, nlo := v.nlo, nch := v.nch, nto := v.nto, nme := v.nme, nsi := v.nsi, nwa := v.nwa, nar := v.nar } := by simp [hil]
  exact t12
set_option maxRecDepth 100000 in
set_option maxHeartbeats 4000000 in
theorem SwRT (base b n c a d m : Nat) (P U M V Q : List ThR) (w : World) (h : OW thC 13 94 base w (some ⟨b, 0, none⟩) n c (P ++ (U ++ (M ++ (V ++ Q))))) (hP : P.length = a) (hU : U.length = m) (hV : V.length = m) (hd : a + m + M.length = d) (hn : n ≤ 100000) :
    Calls Tryz.prog 115 #[.slice (some ⟨b, 0, none⟩) n c, .int .i64 a, .int .i64 d, .int .i64 m, .func (.func 39) #[] #[]] w fun e w' => (∃ v, e = .returned v) ∧ OW thC 13 94 base w' (some ⟨b, 0, none⟩) n c (P ++ (V ++ (M ++ (U ++ Q)))) ∧ w.grownBy w' (some b) := by
  have hmo : Tryz.prog.follows .mixedOrders = true := by kernel_rfl
  rw [← st_zero] at h
  have HH := Lib.hid h
  have HD := Lib.hid (st_done (P := P) (M := M) (Q := Q) hU hV)
  have HR := Lib.hid (fun k (hk : k < m) => st_round (P := P) (M := M) (Q := Q) hU hV hk)
  have HN : n = P.length + m + M.length + m + Q.length := by rw [h.2]; simp [st]; omega
  have hnn : d + m ≤ n := by omega
  rw [hP, hd] at HR
  clear h hU hV HN
  go_enter Tryz.func115, Tryz.ntmps115
  go_wp2_with fail
  go_loopw [10] (fun i wr => ∃ k : Nat, k ≤ m ∧ i = .int .i64 k ∧ OW thC 13 94 base wr (some ⟨b, 0, none⟩) n c (st P U M V Q k) ∧ w.grownBy wr (some b))
    (fun i _ => m - (intOf i).toNat)
  case atStart => exact ⟨0, Nat.zero_le _, rfl, HH.out, World.grownBy.refl w _⟩
  case round =>
    obtain ⟨k, hk, rfl, hO, hg⟩ := hrel
    by_cases hlt : k < m
    · obtain ⟨A, u, B, v, C, e1, e2, e3, e4⟩ := HR.out k hlt
      rw [e1] at hO
      have HE := Lib.hid e2
      have HA := Lib.hid e3
      have HB := Lib.hid e4
      obtain ⟨b', hb', hbl, _, hfz, hrow⟩ := hO.at_ thC_len _ rfl
      cases hb'
      have gi := getElem?_mid A u (B ++ v :: C) e3
      have gj := get_second A u B v C e4
      clear e1 e2 e3 e4
      have x0 := hrow (a + k) u gi 0 _ rfl
      have x1 := hrow (a + k) u gi 1 _ rfl
      have x2 := hrow (a + k) u gi 2 _ rfl
      have x3 := hrow (a + k) u gi 3 _ rfl
      have x4 := hrow (a + k) u gi 4 _ rfl
      have x5 := hrow (a + k) u gi 5 _ rfl
      have x6 := hrow (a + k) u gi 6 _ rfl
      have x7 := hrow (a + k) u gi 7 _ rfl
      have x8 := hrow (a + k) u gi 8 _ rfl
      have x9 := hrow (a + k) u gi 9 _ rfl
      have x10 := hrow (a + k) u gi 10 _ rfl
      have x11 := hrow (a + k) u gi 11 _ rfl
      have x12 := hrow (a + k) u gi 12 _ rfl
      have hax : ∀ q, 0 + (a + k) * 13 + q = (a + k) * 13 + q := fun q => by omega
      rw [hax] at x0 x1 x2 x3 x4 x5 x6 x7 x8 x9 x10 x11 x12
      rw [Nat.add_zero] at x0
      clear hax
      have y0 := hrow (d + k) v gj 0 _ rfl
      have y1 := hrow (d + k) v gj 1 _ rfl
      have y2 := hrow (d + k) v gj 2 _ rfl
      have y3 := hrow (d + k) v gj 3 _ rfl
      have y4 := hrow (d + k) v gj 4 _ rfl
      have y5 := hrow (d + k) v gj 5 _ rfl
      have y6 := hrow (d + k) v gj 6 _ rfl
      have y7 := hrow (d + k) v gj 7 _ rfl
      have y8 := hrow (d + k) v gj 8 _ rfl
      have y9 := hrow (d + k) v gj 9 _ rfl
      have y10 := hrow (d + k) v gj 10 _ rfl
      have y11 := hrow (d + k) v gj 11 _ rfl
      have y12 := hrow (d + k) v gj 12 _ rfl
      have hay : ∀ q, 0 + (d + k) * 13 + q = (d + k) * 13 + q := fun q => by omega
      rw [hay] at y0 y1 y2 y3 y4 y5 y6 y7 y8 y9 y10 y11 y12
      rw [Nat.add_zero] at y0
      clear hay
      have hwa : IntKind.i64.wrap ((a : Int) + (k : Int)) = ((a + k : Nat) : Int) := by rw [Int.natCast_add]; exact IntWalk.i64_in _ (by omega)
      have hwd : IntKind.i64.wrap ((d : Int) + (k : Int)) = ((d + k : Nat) : Int) := by rw [Int.natCast_add]; exact IntWalk.i64_in _ (by omega)
      have hi1 : (0 : Int) ≤ ((a + k : Nat) : Int) := by omega
      have hi2 : ((a + k : Nat) : Int) < (n : Int) := by omega
      have hi3 : (0 : Int) ≤ ((d + k : Nat) : Int) := by omega
      have hi4 : ((d + k : Nat) : Int) < (n : Int) := by omega
      clear hrow gi gj
      go_wp2_with fail
      go_region
      go_wp2_with fail
      go_roundw
      case rel =>
        exact ⟨k + 1, by omega, by go_num, by rw [HE.out]; exact OW.drew (exT hO HA.out HB.out), only_drew (only_set (only_set (only_set (only_set (only_set (only_set (only_set (only_set (only_set (only_set (only_set (only_set (only_set (only_set (only_set (only_set (only_set (only_set (only_set (only_set (only_set (only_set (only_set (only_set (only_set (only_set hg _) _) _) _) _) _) _) _) _) _) _) _) _) _) _) _) _) _) _) _) _) _) _) _) _) _)⟩
      case measure => simp [intOf]; omega
    · obtain rfl : k = m := by omega
      rw [HD.out] at hO
      go_wp2_with fail
      go_end0
      exact ⟨⟨_, rfl⟩, hO, hg⟩
end Go.Proofs.YtogkmnopggmdjaaGreatDoor
