/- What pace.things orders: a place and a rank; their order. -/
import Derived.Test.YtogkmnopggmdjaaGreatDoorPTStab
import Derived.RegionTactic
import Derived.BigRegion
namespace Go.Proofs.YtogkmnopggmdjaaGreatDoor
open Go.RowKit Go.Shelf Go.Sort Go.Proofs

/-- A thing that is noted: its place, its rank there. -/
structure PtR where
  at_ : Fin 100001
  od : Fin 3
def ptC (x : PtR) : List Value := [.int .i64 ((x.at_ : Nat) : Int), .int .i64 ((x.od : Nat) : Int)]
theorem ptC_len (x : PtR) : (ptC x).length = 2 := rfl
def ptA (x : PtR) : Value := .agg #[.int .i64 ((x.at_ : Nat) : Int), .int .i64 ((x.od : Nat) : Int)]
/-- Where it stands in order. -/
def PtR.pos (x : PtR) : Int := 3 * ((x.at_ : Nat) : Int) + ((x.od : Nat) : Int)
/-- What the order says. -/
def cmpU (x y : PtR) : Int := if ((x.at_ : Nat) : Int) ≠ ((y.at_ : Nat) : Int) then ((x.at_ : Nat) : Int) - ((y.at_ : Nat) : Int) else ((x.od : Nat) : Int) - ((y.od : Nat) : Int)
def cmpUI (a b c d : Int) : Int := if a ≠ b then a - b else c - d
theorem cmpU_lt (x y : PtR) : decide (cmpU x y < 0) = decide (x.pos < y.pos) := by
  have h1 := x.od.isLt
  have h2 := y.od.isLt
  unfold cmpU PtR.pos
  split <;> simp only [decide_eq_decide] <;> omega
set_option maxRecDepth 100000 in
set_option maxHeartbeats 4000000 in
theorem cmpU_int (a c b d : Int) (ha : 0 ≤ a ∧ a ≤ 100000) (hb : 0 ≤ b ∧ b ≤ 100000) (hc : 0 ≤ c ∧ c ≤ 2) (hd : 0 ≤ d ∧ d ≤ 2) (w : World) :
    Calls Tryz.prog 63 #[.agg #[.int .i64 a, .int .i64 c], .agg #[.int .i64 b, .int .i64 d]] w fun e w' => e = .returned (.int .i64 (cmpUI a b c d)) ∧ Below w.heap.size w w' := by
  obtain ⟨w0, hw0⟩ : ∃ w0, w0 = (w.alloc (.cells #[.int .i64 a, .int .i64 c] 140)).alloc (.cells #[.int .i64 b, .int .i64 d] 140) := ⟨_, rfl⟩
  have hX : BK w0 w.heap.size 140 #[.int .i64 a, .int .i64 c] := by rw [hw0]; exact (BK.new w _ _).alloc _
  have hY : BK w0 (w.heap.size + 1) 140 #[.int .i64 b, .int .i64 d] := by rw [hw0]; exact bk2 w _ _ _ _
  have hB0 : Below w.heap.size w w0 := by rw [hw0]; exact ((Below.refl _ w).alloc (Nat.le_refl _) _).alloc (by simp) _
  have x0 := hX.cell 0
  have x1 := hX.cell 1
  have y0 := hY.cell 0
  have y1 := hY.cell 1
  simp only [List.getElem?_toArray, List.getElem?_cons_zero, List.getElem?_cons_succ] at x0 x1 y0 y1
  have HB0 := Lib.hid hB0
  clear hX hY hB0
  by_cases he : a = b
  · have hr : Hid (cmpUI a b c d = c - d) := if_neg (fun h => h he)
    have g0 : (a != b) = false := by simp [he]
    have h1 : IntKind.i64.wrap (c - d) = c - d := IntWalk.i64_in _ (by omega)
    clear he
    go_enter Tryz.func63, Tryz.ntmps63
    go_wp2_with fail
    rw [← hw0]
    clear hw0
    go_wp2_with fail
    go_ret
    exact ⟨by rw [hr.out]; rfl, HB0.out⟩
  · have hr : Hid (cmpUI a b c d = a - b) := if_pos he
    have g0 : (a != b) = true := by simp [he]
    have h1 : IntKind.i64.wrap (a - b) = a - b := IntWalk.i64_in _ (by omega)
    clear he
    go_enter Tryz.func63, Tryz.ntmps63
    go_wp2_with fail
    rw [← hw0]
    clear hw0
    go_wp2_with fail
    go_ret
    exact ⟨by rw [hr.out]; rfl, HB0.out⟩
theorem cmpU_any (x y : PtR) (w : World) : Calls Tryz.prog 63 #[ptA x, ptA y] w fun e w' => e = .returned (.int .i64 (cmpU x y)) ∧ Below w.heap.size w w' := by
  have e1 := x.at_.isLt
  have e2 := y.at_.isLt
  have e3 := x.od.isLt
  have e4 := y.od.isLt
  exact cmpU_int _ _ _ _ (by omega) (by omega) (by omega) (by omega) w
end Go.Proofs.YtogkmnopggmdjaaGreatDoor

/- slices.swapRangeCmpFunc and rotateCmpFunc at the things that pace notes; cmp.Compare and the comparisons of road.Safer. -/
namespace Go.Proofs.YtogkmnopggmdjaaGreatDoor
open Go.RowKit Go.Shelf Go.Sort Go.Proofs

section
variable {α : Type}
end

theorem exU {base b n c i j : Nat} {A B C : List PtR} {u v : PtR} {w : World} (h : OW ptC 2 140 base w (some ⟨b, 0, none⟩) n c (A ++ u :: (B ++ v :: C))) (hi : A.length = i) (hj : A.length + B.length + 1 = j) :
    OW ptC 2 140 base ((((w.setCell ⟨b, i * 2 + 0, none⟩ (.int .i64 ((v.at_ : Nat) : Int))).setCell ⟨b, i * 2 + 1, none⟩ (.int .i64 ((v.od : Nat) : Int))).setCell ⟨b, j * 2 + 0, none⟩ (.int .i64 ((u.at_ : Nat) : Int))).setCell ⟨b, j * 2 + 1, none⟩ (.int .i64 ((u.od : Nat) : Int))) (some ⟨b, 0, none⟩) n c (A ++ v :: (B ++ u :: C)) := by
  have gi := getElem?_mid A u (B ++ v :: C) hi
  have gj := get_second A u B v C hj
  have hil : i < (A ++ u :: (B ++ v :: C)).length := (List.getElem?_eq_some_iff.1 gi).1
  have hjl : j < (A ++ u :: (B ++ v :: C)).length := (List.getElem?_eq_some_iff.1 gj).1
  have hres : ((A ++ u :: (B ++ v :: C)).set i v).set j u = A ++ v :: (B ++ u :: C) := by
    exact swp_mid A u B v C hi hj
  rw [← hres]
  have hne : i ≠ j := by omega
  generalize A ++ u :: (B ++ v :: C) = xs at h gi gj hil hjl ⊢
  clear hres hi hj
  have s0 := OW.setF h ptC_len i 0 (x := u) (y := { u with at_ := v.at_ }) (v := .int .i64 ((v.at_ : Nat) : Int)) gi (by omega) rfl
  have e0 : (xs.set i { u with at_ := v.at_ })[i]? = some { u with at_ := v.at_ } := by simp [hil]
  have s1 := OW.setF s0 ptC_len i 1 (x := { u with at_ := v.at_ }) (y := { u with at_ := v.at_, od := v.od }) (v := .int .i64 ((v.od : Nat) : Int)) e0 (by omega) rfl
  rw [List.set_set] at s1
  have e1 : (xs.set i { u with at_ := v.at_, od := v.od })[i]? = some { u with at_ := v.at_, od := v.od } := by simp [hil]
  have g2 : (xs.set i { u with at_ := v.at_, od := v.od })[j]? = some v := by rw [List.getElem?_set, if_neg (by omega)]; exact gj
  have t0 := OW.setF s1 ptC_len j 0 (x := v) (y := { v with at_ := u.at_ }) (v := .int .i64 ((u.at_ : Nat) : Int)) g2 (by omega) rfl
  have d0 : ((xs.set i { u with at_ := v.at_, od := v.od }).set j { v with at_ := u.at_ })[j]? = some { v with at_ := u.at_ } := by simp [hjl]
  have t1 := OW.setF t0 ptC_len j 1 (x := { v with at_ := u.at_ }) (y := { v with at_ := u.at_, od := u.od }) (v := .int .i64 ((u.od : Nat) : Int)) d0 (by omega) rfl
  rw [List.set_set] at t1
  have d1 : ((xs.set i { u with at_ := v.at_, od := v.od }).set j { v with at_ := u.at_, od := u.od })[j]? = some { v with at_ := u.at_, od := u.od } := by simp [hjl]
  exact t1
theorem exU' {base b n c i j : Nat} {A B C : List PtR} {u v : PtR} {w : World} (h : OW ptC 2 140 base w (some ⟨b, 0, none⟩) n c (A ++ u :: (B ++ v :: C))) (hi : A.length = i) (hj : A.length + B.length + 1 = j) :
    OW ptC 2 140 base ((((w.setCell ⟨b, j * 2 + 0, none⟩ (.int .i64 ((u.at_ : Nat) : Int))).setCell ⟨b, j * 2 + 1, none⟩ (.int .i64 ((u.od : Nat) : Int))).setCell ⟨b, i * 2 + 0, none⟩ (.int .i64 ((v.at_ : Nat) : Int))).setCell ⟨b, i * 2 + 1, none⟩ (.int .i64 ((v.od : Nat) : Int))) (some ⟨b, 0, none⟩) n c (A ++ v :: (B ++ u :: C)) := by
  have gi := getElem?_mid A u (B ++ v :: C) hi
  have gj := get_second A u B v C hj
  have hil : i < (A ++ u :: (B ++ v :: C)).length := (List.getElem?_eq_some_iff.1 gi).1
  have hjl : j < (A ++ u :: (B ++ v :: C)).length := (List.getElem?_eq_some_iff.1 gj).1
  have hres : ((A ++ u :: (B ++ v :: C)).set j u).set i v = A ++ v :: (B ++ u :: C) := by
    rw [List.set_comm _ _ (by omega : j ≠ i)]
    exact swp_mid A u B v C hi hj
  rw [← hres]
  have hne : i ≠ j := by omega
  generalize A ++ u :: (B ++ v :: C) = xs at h gi gj hil hjl ⊢
  clear hres hi hj
  have s0 := OW.setF h ptC_len j 0 (x := v) (y := { v with at_ := u.at_ }) (v := .int .i64 ((u.at_ : Nat) : Int)) gj (by omega) rfl
  have e0 : (xs.set j { v with at_ := u.at_ })[j]? = some { v with at_ := u.at_ } := by simp [hjl]
  have s1 := OW.setF s0 ptC_len j 1 (x := { v with at_ := u.at_ }) (y := { v with at_ := u.at_, od := u.od }) (v := .int .i64 ((u.od : Nat) : Int)) e0 (by omega) rfl
  rw [List.set_set] at s1
  have e1 : (xs.set j { v with at_ := u.at_, od := u.od })[j]? = some { v with at_ := u.at_, od := u.od } := by simp [hjl]
  have g2 : (xs.set j { v with at_ := u.at_, od := u.od })[i]? = some u := by rw [List.getElem?_set, if_neg (by omega)]; exact gi
  have t0 := OW.setF s1 ptC_len i 0 (x := u) (y := { u with at_ := v.at_ }) (v := .int .i64 ((v.at_ : Nat) : Int)) g2 (by omega) rfl
  have d0 : ((xs.set j { v with at_ := u.at_, od := u.od }).set i { u with at_ := v.at_ })[i]? = some { u with at_ := v.at_ } := by simp [hil]
  have t1 := OW.setF t0 ptC_len i 1 (x := { u with at_ := v.at_ }) (y := { u with at_ := v.at_, od := v.od }) (v := .int .i64 ((v.od : Nat) : Int)) d0 (by omega) rfl
  rw [List.set_set] at t1
  have d1 : ((xs.set j { v with at_ := u.at_, od := u.od }).set i { u with at_ := v.at_, od := v.od })[i]? = some { u with at_ := v.at_, od := v.od } := by simp [hil]
  exact t1
set_option maxRecDepth 100000 in
set_option maxHeartbeats 4000000 in
theorem SwRU (base b n c a d m : Nat) (P U M V Q : List PtR) (w : World) (h : OW ptC 2 140 base w (some ⟨b, 0, none⟩) n c (P ++ (U ++ (M ++ (V ++ Q))))) (hP : P.length = a) (hU : U.length = m) (hV : V.length = m) (hd : a + m + M.length = d) (hn : n ≤ 100000) :
    Calls Tryz.prog 116 #[.slice (some ⟨b, 0, none⟩) n c, .int .i64 a, .int .i64 d, .int .i64 m, .func (.func 63) #[] #[]] w fun e w' => (∃ v, e = .returned v) ∧ OW ptC 2 140 base w' (some ⟨b, 0, none⟩) n c (P ++ (V ++ (M ++ (U ++ Q)))) ∧ w.grownBy w' (some b) := by
  have hmo : Tryz.prog.follows .mixedOrders = true := by kernel_rfl
  rw [← st_zero] at h
  have HH := Lib.hid h
  have HD := Lib.hid (st_done (P := P) (M := M) (Q := Q) hU hV)
  have HR := Lib.hid (fun k (hk : k < m) => st_round (P := P) (M := M) (Q := Q) hU hV hk)
  have HN : n = P.length + m + M.length + m + Q.length := by rw [h.2]; simp [st]; omega
  have hnn : d + m ≤ n := by omega
  rw [hP, hd] at HR
  clear h hU hV HN
  go_enter Tryz.func116, Tryz.ntmps116
  go_wp2_with fail
  go_loopw [10] (fun i wr => ∃ k : Nat, k ≤ m ∧ i = .int .i64 k ∧ OW ptC 2 140 base wr (some ⟨b, 0, none⟩) n c (st P U M V Q k) ∧ w.grownBy wr (some b))
    (fun i _ => m - (intOf i).toNat)
  case atStart => exact ⟨0, Nat.zero_le _, rfl, HH.out, World.grownBy.refl w _⟩
  case round =>
    obtain ⟨k, hk, rfl, hO, hg⟩ := hrel
    by_cases hlt : k < m
    · obtain ⟨A, u, B, v, C, e1, e2, e3, e4⟩ := HR.out k hlt
      rw [e1] at hO
      have HE := Lib.hid e2
      have HA := Lib.hid e3
      have HB := Lib.hid e4
      obtain ⟨b', hb', hbl, _, hfz, hrow⟩ := hO.at_ ptC_len _ rfl
      cases hb'
      have gi := getElem?_mid A u (B ++ v :: C) e3
      have gj := get_second A u B v C e4
      clear e1 e2 e3 e4
      have x0 := hrow (a + k) u gi 0 _ rfl
      have x1 := hrow (a + k) u gi 1 _ rfl
      have hax : ∀ q, 0 + (a + k) * 2 + q = (a + k) * 2 + q := fun q => by omega
      rw [hax] at x0 x1
      rw [Nat.add_zero] at x0
      clear hax
      have y0 := hrow (d + k) v gj 0 _ rfl
      have y1 := hrow (d + k) v gj 1 _ rfl
      have hay : ∀ q, 0 + (d + k) * 2 + q = (d + k) * 2 + q := fun q => by omega
      rw [hay] at y0 y1
      rw [Nat.add_zero] at y0
      clear hay
      have hwa : IntKind.i64.wrap ((a : Int) + (k : Int)) = ((a + k : Nat) : Int) := by rw [Int.natCast_add]; exact IntWalk.i64_in _ (by omega)
      have hwd : IntKind.i64.wrap ((d : Int) + (k : Int)) = ((d + k : Nat) : Int) := by rw [Int.natCast_add]; exact IntWalk.i64_in _ (by omega)
      have hi1 : (0 : Int) ≤ ((a + k : Nat) : Int) := by omega
      have hi2 : ((a + k : Nat) : Int) < (n : Int) := by omega
      have hi3 : (0 : Int) ≤ ((d + k : Nat) : Int) := by omega
      have hi4 : ((d + k : Nat) : Int) < (n : Int) := by omega
      clear hrow gi gj
      go_wp2_with fail
      go_region
      go_wp2_with fail
      go_roundw
      case rel =>
        exact ⟨k + 1, by omega, by go_num, by rw [HE.out]; exact OW.drew (exU hO HA.out HB.out), only_drew (only_set (only_set (only_set (only_set hg _) _) _) _)⟩
      case measure => simp [intOf]; omega
    · obtain rfl : k = m := by omega
      rw [HD.out] at hO
      go_wp2_with fail
      go_end0
      exact ⟨⟨_, rfl⟩, hO, hg⟩
end Go.Proofs.YtogkmnopggmdjaaGreatDoor

/- slices.rotateCmpFunc at the things that pace notes. -/
namespace Go.Proofs.YtogkmnopggmdjaaGreatDoor
open Go.RowKit Go.Shelf Go.Sort Go.Proofs

set_option maxRecDepth 100000 in
set_option maxHeartbeats 4000000 in
theorem RotU (base b n c a m e : Nat) (P U V Q : List PtR) (w : World) (h : OW ptC 2 140 base w (some ⟨b, 0, none⟩) n c (P ++ (U ++ (V ++ Q)))) (hP : P.length = a) (hm : a + U.length = m) (he : m + V.length = e) (hU : 0 < U.length) (hV : 0 < V.length) (hn : n ≤ 100000) :
    Calls Tryz.prog 107 #[.slice (some ⟨b, 0, none⟩) n c, .int .i64 a, .int .i64 m, .int .i64 e, .func (.func 63) #[] #[]] w fun ev w' => (∃ v, ev = .returned v) ∧ OW ptC 2 140 base w' (some ⟨b, 0, none⟩) n c (P ++ (V ++ (U ++ Q))) ∧ w.grownBy w' (some b) := by
  have HH := Lib.hid h
  have HN : n = P.length + U.length + V.length + Q.length := by rw [h.2]; simp; omega
  have hme : m ≤ n := by omega
  have hen : e ≤ n := by omega
  have hma : IntKind.i64.wrap ((m : Int) - (a : Int)) = ((U.length : Nat) : Int) := by rw [show ((m : Int) - (a : Int)) = ((U.length : Nat) : Int) by omega]; exact IntWalk.i64_in _ (by omega)
  have hem : IntKind.i64.wrap ((e : Int) - (m : Int)) = ((V.length : Nat) : Int) := by rw [show ((e : Int) - (m : Int)) = ((V.length : Nat) : Int) by omega]; exact IntWalk.i64_in _ (by omega)
  have HM : P.length + U.length = m := by omega
  clear h HN
  go_enter Tryz.func107, Tryz.ntmps107
  go_wp2_with fail
  clear hma hem
  go_loopw [10, 11] (fun iv jv wr => ∃ (i j : Nat) (D X Y E : List PtR), iv = .int .i64 i ∧ jv = .int .i64 j ∧ X.length = i ∧ Y.length = j ∧ 0 < i ∧ 0 < j ∧ P.length + D.length + i = m ∧ m + j ≤ n ∧ Hid (D ++ (Y ++ (X ++ E)) = V ++ U) ∧ OW ptC 2 140 base wr (some ⟨b, 0, none⟩) n c (P ++ (D ++ (X ++ (Y ++ (E ++ Q))))) ∧ w.grownBy wr (some b))
    (fun iv jv _ => (intOf iv).toNat + (intOf jv).toNat)
  case atStart => exact ⟨U.length, V.length, [], U, V, [], rfl, rfl, rfl, rfl, hU, hV, by simp; exact HM, by omega, by show _ = _; simp, HH.out, World.grownBy.refl w _⟩
  case round =>
    obtain ⟨i, j, D, X, Y, E, rfl, rfl, hX, hY, hi0, hj0, hDm, hjn, HT, hO, hg⟩ := hrel
    have hmi : IntKind.i64.wrap ((m : Int) - (i : Int)) = ((m - i : Nat) : Int) := by rw [show ((m : Int) - (i : Int)) = ((m - i : Nat) : Int) by omega]; exact IntWalk.i64_in _ (by omega)
    rw [← List.append_assoc] at hO
    have hPD : (P ++ D).length = m - i := by simp; omega
    by_cases hne : i = j
    · subst hne
      go_wp2_with fail
      refine (SwRU base b n c (m - i) m i (P ++ D) X [] Y (E ++ Q) _ (by simpa only [List.append_assoc, List.nil_append] using hO) hPD hX hY (by simp; omega) hn).mono ?_
      rintro ev w2 ⟨⟨v, rfl⟩, hO2, hg2⟩
      go_wp2_with fail
      go_end0
      refine ⟨⟨_, rfl⟩, ?_, only_trans hg hg2⟩
      have := HT.out
      have e2 : P ++ (V ++ (U ++ Q)) = (P ++ D) ++ (Y ++ ([] ++ (X ++ (E ++ Q)))) := by
        rw [← List.append_assoc V, ← this]; simp
      rw [e2]
      exact hO2
    · have hne' : ¬ (i : Int) = (j : Int) := by omega
      by_cases hgt : j < i
      · obtain ⟨X1, X2, hX12, hX1, hX2⟩ : ∃ X1 X2, X = X1 ++ X2 ∧ X1.length = j ∧ X2.length = i - j := ⟨X.take j, X.drop j, by simp, by simp; omega, by simp; omega⟩
        subst hX12
        have hij : IntKind.i64.wrap ((i : Int) - (j : Int)) = ((i - j : Nat) : Int) := by rw [show ((i : Int) - (j : Int)) = ((i - j : Nat) : Int) by omega]; exact IntWalk.i64_in _ (by omega)
        go_wp2_with fail
        refine (SwRU base b n c (m - i) m j (P ++ D) X1 X2 Y (E ++ Q) _ (by simpa only [List.append_assoc] using hO) hPD hX1 hY (by omega) hn).mono ?_
        rintro ev w2 ⟨⟨v, rfl⟩, hO2, hg2⟩
        go_wp2_with fail
        go_roundw
        case rel =>
          refine ⟨i - j, j, D ++ Y, X2, X1, E, rfl, rfl, hX2, hX1, by omega, hj0, by simp; omega, by omega, ?_, ?_, only_trans hg hg2⟩
          · show _ = _
            rw [← HT.out]; simp
          · have e2 : P ++ (D ++ Y ++ (X2 ++ (X1 ++ (E ++ Q)))) = (P ++ D) ++ (Y ++ (X2 ++ (X1 ++ (E ++ Q)))) := by simp
            rw [e2]; exact hO2
        case measure => simp [intOf]; omega
      · obtain ⟨Y1, Y2, hY12, hY1, hY2⟩ : ∃ Y1 Y2, Y = Y1 ++ Y2 ∧ Y1.length = j - i ∧ Y2.length = i := ⟨Y.take (j - i), Y.drop (j - i), by simp, by simp; omega, by simp; omega⟩
        subst hY12
        have hji : IntKind.i64.wrap ((j : Int) - (i : Int)) = ((j - i : Nat) : Int) := by rw [show ((j : Int) - (i : Int)) = ((j - i : Nat) : Int) by omega]; exact IntWalk.i64_in _ (by omega)
        obtain ⟨z, hz⟩ : ∃ z : Nat, z = m + j - i := ⟨_, rfl⟩
        have hmj : IntKind.i64.wrap ((m : Int) + (j : Int)) = (z : Int) + (i : Int) := by rw [show ((m : Int) + (j : Int)) = (z : Int) + (i : Int) by omega]; exact IntWalk.i64_in _ (by omega)
        have hmji : IntKind.i64.wrap (z : Int) = (z : Int) := IntWalk.i64_in _ (by omega)
        have HZ := Lib.hid hz
        clear hz
        go_wp2_with fail
        refine (SwRU base b n c (m - i) z i (P ++ D) X Y1 Y2 (E ++ Q) _ (by simpa only [List.append_assoc] using hO) hPD hX hY2 (by have := HZ.out; omega) hn).mono ?_
        rintro ev w2 ⟨⟨v, rfl⟩, hO2, hg2⟩
        go_wp2_with fail
        go_roundw
        case rel =>
          refine ⟨i, j - i, D, Y2, Y1, X ++ E, rfl, rfl, hY2, hY1, hi0, by omega, hDm, by omega, ?_, ?_, only_trans hg hg2⟩
          · show _ = _
            rw [← HT.out]; simp
          · have e2 : P ++ (D ++ (Y2 ++ (Y1 ++ (X ++ E ++ Q)))) = (P ++ D) ++ (Y2 ++ (Y1 ++ (X ++ (E ++ Q)))) := by simp
            rw [e2]; exact hO2
        case measure => simp [intOf]; omega
end Go.Proofs.YtogkmnopggmdjaaGreatDoor

/- slices.insertionSortCmpFunc at the things that pace notes. -/
namespace Go.Proofs.YtogkmnopggmdjaaGreatDoor
open Go.RowKit Go.Shelf Go.Sort Go.Proofs

set_option maxRecDepth 100000 in
set_option maxHeartbeats 8000000 in
theorem InsU (base b n c a e : Nat) (P C Q : List PtR) (w : World) (h : OW ptC 2 140 base w (some ⟨b, 0, none⟩) n c (P ++ (C ++ Q))) (hP : P.length = a) (he : a + C.length = e) (hn : n ≤ 100000) :
    Calls Tryz.prog 91 #[.slice (some ⟨b, 0, none⟩) n c, .int .i64 a, .int .i64 e, .func (.func 63) #[] #[]] w fun ev w' => (∃ v, ev = .returned v) ∧ OW ptC 2 140 base w' (some ⟨b, 0, none⟩) n c (P ++ (ssort (fun x : PtR => x.pos) C ++ Q)) ∧ w.grownBy w' (some b) := by
  have hmo : Tryz.prog.follows .mixedOrders = true := by kernel_rfl
  have HH := Lib.hid h
  have HN : n = P.length + C.length + Q.length := by rw [h.2]; simp; omega
  have hen : e ≤ n := by omega
  have HP := Lib.hid hP
  have HE := Lib.hid he
  obtain ⟨i0, hi0⟩ : ∃ i0, i0 = a + 1 := ⟨_, rfl⟩
  have hwa : IntKind.i64.wrap ((a : Int) + 1) = (i0 : Int) := by rw [show (a : Int) + 1 = (i0 : Int) by omega]; exact IntWalk.i64_in _ (by omega)
  have HI0 := Lib.hid hi0
  clear h HN hP he hi0
  go_enter Tryz.func91, Tryz.ntmps91
  go_wp2_with fail
  clear hwa
  go_loopw [8] (fun iv wr => ∃ k i : Nat, iv = .int .i64 i ∧ Hid (i = a + 1 + k) ∧ k ≤ C.length ∧ OW ptC 2 140 base wr (some ⟨b, 0, none⟩) n c (P ++ (ssort (fun x : PtR => x.pos) (C.take (k + 1)) ++ (C.drop (k + 1) ++ Q))) ∧ w.grownBy wr (some b))
    (fun iv _ => e - (intOf iv).toNat)
  case atStart => exact ⟨0, i0, rfl, HI0.out, Nat.zero_le _, by rw [ins_one, ← List.append_assoc (C.take 1), List.take_append_drop]; exact HH.out, World.grownBy.refl w _⟩
  case round =>
    obtain ⟨k, i, rfl, HI, hkC, hO, hg⟩ := hrel
    by_cases hlt : i < e
    · have hk1 : k + 1 < C.length := by have := HI.out; have := HE.out; omega
      obtain ⟨x, hx, hss⟩ := ins_step (fun x : PtR => x.pos) hk1
      have HSR := Lib.hid (ssort_srt (fun x : PtR => x.pos) (C.take (k + 1)))
      have HSL := Lib.hid (ssort_len (fun x : PtR => x.pos) (C.take (k + 1)))
      have HC1 := Lib.hid hk1
      have HSS := Lib.hid hss
      rw [hx] at hO
      generalize ssort (fun x : PtR => x.pos) (C.take (k + 1)) = S at hO hss HSR HSL HSS
      obtain ⟨D, hD⟩ : ∃ D, D = C.drop (k + 2) ++ Q := ⟨_, rfl⟩
      have HD := Lib.hid hD
      rw [List.cons_append, ← hD] at hO
      have HOS := Lib.hid hO
      have HG := Lib.hid hg
      have hSl : S.length = k + 1 := by rw [HSL.out, List.length_take]; omega
      have HSl := Lib.hid hSl
      obtain ⟨i1, hi1⟩ : ∃ i1, i1 = i + 1 := ⟨_, rfl⟩
      have hwi : IntKind.i64.wrap ((i : Int) + 1) = (i1 : Int) := by rw [show (i : Int) + 1 = (i1 : Int) by omega]; exact IntWalk.i64_in _ (by omega)
      have HI1 := Lib.hid hi1
      clear hx hss hO hg hD hSl hi1 hk1
      go_wp2_with fail
      go_loopw [9] (fun jv wq => ∃ (J : Nat) (S1 S2 : List PtR), jv = .int .i64 J ∧ Hid (J = a + S1.length) ∧ Hid (S = S1 ++ S2) ∧ Hid (∀ y ∈ S2, x.pos < y.pos) ∧ OW ptC 2 140 base wq (some ⟨b, 0, none⟩) n c (P ++ (S1 ++ x :: (S2 ++ D))) ∧ w.grownBy wq (some b))
        (fun jv _ => (intOf jv).toNat)
      case atStart => exact ⟨i, S, [], rfl, by have := HI.out; have := HSl.out; show _ = _; omega, by show _ = _; simp, Lib.hid (fun y (hy : y ∈ ([] : List PtR)) => by cases hy), HOS.out, HG.out⟩
      case round =>
        obtain ⟨J, S1, S2, rfl, HJ, HS12, HS2, hO2, hg2⟩ := hrel
        rcases snoc_or S1 with rfl | ⟨S1, y, rfl⟩
        · obtain rfl : J = a := HJ.out
          go_wp2_with fail
          go_quiet (fail)
          go_wp2_with fail
          go_roundw
          case rel =>
            refine ⟨k + 1, i1, rfl, by have := HI.out; have := HI1.out; show _ = _; omega, by have := HC1.out; omega, ?_, only_drewN hg2 nq⟩
            have := HSS.out
            rw [show k + 1 + 1 = k + 2 from rfl, this]
            have e2 : insR (fun x : PtR => x.pos) S x = x :: S2 := by
              have := HS12.out; simp only [List.nil_append] at this
              rw [this]; exact insR_split (fun x : PtR => x.pos) (S1 := []) (fun z hz => by cases hz) HS2.out
            exact by rw [e2]; have := OW.drewN hO2 nq; rw [HD.out] at this; simpa only [List.nil_append, List.cons_append, List.append_assoc] using this
          case measure => have := HI1.out; simp [intOf]; omega
        · obtain ⟨J1, hJ1⟩ : ∃ J1, J1 = a + S1.length := ⟨_, rfl⟩
          have hJJ : J = J1 + 1 := by have := HJ.out; simp at this; omega
          have e1 : P ++ (S1 ++ [y] ++ x :: (S2 ++ D)) = (P ++ S1) ++ y :: ([] ++ x :: (S2 ++ D)) := by simp
          rw [e1] at hO2
          have hA : (P ++ S1).length = J1 := by have := HP.out; simp; omega
          have hB : (P ++ S1).length + ([] : List PtR).length + 1 = J := by simp; have := HP.out; omega
          obtain ⟨b', hb', hbl, _, hfz, hrow⟩ := hO2.at_ ptC_len _ rfl
          cases hb'
          have gi := getElem?_mid (P ++ S1) y ([] ++ x :: (S2 ++ D)) hA
          have gj := get_second (P ++ S1) y [] x (S2 ++ D) hB
          have hJn : J < n := by
            have := (List.getElem?_eq_some_iff.1 gj).1
            rw [hO2.2]; exact this
          have x0' := hrow (J) x gj 0 _ rfl
          have x1' := hrow (J) x gj 1 _ rfl
          have hax : ∀ q, 0 + (J) * 2 + q = (J) * 2 + q := fun q => by omega
          rw [hax] at x0' x1'
          rw [Nat.add_zero] at x0'
          have x0 := fun d os => cell_regrown x0' d os
          have x1 := fun d os => cell_regrown x1' d os
          clear hax
          have y0' := hrow (J1) y gi 0 _ rfl
          have y1' := hrow (J1) y gi 1 _ rfl
          have hay : ∀ q, 0 + (J1) * 2 + q = (J1) * 2 + q := fun q => by omega
          rw [hay] at y0' y1'
          rw [Nat.add_zero] at y0'
          have y0 := fun d os => cell_regrown y0' d os
          have y1 := fun d os => cell_regrown y1' d os
          clear hay
          have hw1 : IntKind.i64.wrap ((J : Int) - 1) = (J1 : Int) := by rw [show (J : Int) - 1 = (J1 : Int) by omega]; exact IntWalk.i64_in _ (by omega)
          have hi1 : (0 : Int) ≤ (J : Int) := by omega
          have hi2 : (J : Int) < (n : Int) := by omega
          have hi3 : (0 : Int) ≤ (J1 : Int) := by omega
          have hi4 : (J1 : Int) < (n : Int) := by omega
          have hja : a < J := by omega
          have hjj : J1 < J := by omega
          have HA := Lib.hid hA
          have HB := Lib.hid hB
          have HJJ := Lib.hid hJJ
          have HJ1 := Lib.hid hJ1
          clear gi gj hA hB e1 hJJ hJ1
          go_wp2_with fail
          refine wp_region_ch 16 [14] hmo (by kernel_rfl) ?_
          simp only [List.take_succ_cons, List.take_zero, List.drop_succ_cons, List.drop_zero]
          repeat (refine wpC_q (by decide) (by decide) (fun K hK => ?_); go_simp; refine hK _ ?_; clear hK K)
          refine wpC_cg (ι := Unit) 63 #[.agg #[.int .i64 ((x.at_ : Nat) : Int), .int .i64 ((x.od : Nat) : Int)], .agg #[.int .i64 ((y.at_ : Nat) : Int), .int .i64 ((y.od : Nat) : Int)]] (fun _ => .int .i64 (cmpU x y)) (fun _ _ => True) (by decide) (by decide) (by go_simp) (fun w => by go_simp) stable_true (fun _ => stable_true) (fun W hW _ => ?_) (fun ix1 hs1 => ?_)
          · refine (cmpU_any x y W).mono ?_
            rintro ev w' ⟨rfl, hbl⟩
            exact ⟨(), rfl, trivial, hbl⟩
          repeat (refine wpC_q (by decide) (by decide) (fun K hK => ?_); go_simp; refine hK _ ?_; clear hK K)
          refine wpC_nil ?_
          intro w3 hbc _
          clear hs1
          have hO3 := hO2.call hbc
          have hg3 := only_grown hg2 hbc
          clear hrow hO2 hg2 x0 x0' x1 x1' y0 y0' y1 y1'
          by_cases hxy : x.pos < y.pos
          · have d1 : decide (cmpU x y < 0) = true := by rw [cmpU_lt]; simpa using hxy
            have HXY := Lib.hid hxy
            clear hxy
            obtain ⟨b', hb', hbl, _, hfz, hrow⟩ := hO3.at_ ptC_len _ rfl
            cases hb'
            have gi := getElem?_mid (P ++ S1) y ([] ++ x :: (S2 ++ D)) HA.out
            have gj := get_second (P ++ S1) y [] x (S2 ++ D) HB.out
            have x0 := hrow (J) x gj 0 _ rfl
            have x1 := hrow (J) x gj 1 _ rfl
            have hax : ∀ q, 0 + (J) * 2 + q = (J) * 2 + q := fun q => by omega
            rw [hax] at x0 x1
            rw [Nat.add_zero] at x0
            clear hax
            have y0 := hrow (J1) y gi 0 _ rfl
            have y1 := hrow (J1) y gi 1 _ rfl
            have hay : ∀ q, 0 + (J1) * 2 + q = (J1) * 2 + q := fun q => by omega
            rw [hay] at y0 y1
            rw [Nat.add_zero] at y0
            clear hay
            clear hrow gi gj
            go_wp2_with fail
            go_region
            go_wp2_with fail
            go_roundw
            case rel =>
              refine ⟨J1, S1, y :: S2, rfl, HJ1.out, by show _ = _; rw [HS12.out]; simp, ?_, ?_, only_drew (only_set (only_set (only_set (only_set hg3 _) _) _) _)⟩
              · show ∀ z ∈ _, _
                intro z hz
                rcases List.mem_cons.1 hz with rfl | hz
                · exact HXY.out
                · exact HS2.out z hz
              · have := OW.drew (exU' hO3 HA.out HB.out)
                simpa only [List.nil_append, List.cons_append, List.append_assoc, Nat.add_zero] using this
            case measure => have := HJJ.out; simp [intOf]; omega
          · have d1 : decide (cmpU x y < 0) = false := by rw [cmpU_lt]; simpa using hxy
            have HXY := Lib.hid (show y.pos ≤ x.pos by omega)
            clear hxy
            go_wp2_with fail
            go_roundw
            case rel =>
              refine ⟨k + 1, i1, rfl, by have := HI.out; have := HI1.out; show _ = _; omega, by have := HC1.out; omega, ?_, hg3⟩
              have := HSS.out
              rw [show k + 1 + 1 = k + 2 from rfl, this]
              have e2 : insR (fun x : PtR => x.pos) S x = S1 ++ [y] ++ x :: S2 := by
                have h1 := HSR.out
                rw [HS12.out] at h1 ⊢
                exact insR_here (fun x : PtR => x.pos) h1 HXY.out HS2.out
              exact by rw [e2]; have := hO3; rw [HD.out] at this; simpa only [List.nil_append, List.cons_append, List.append_assoc] using this
            case measure => have := HI1.out; simp [intOf]; omega
    · have hCk : C.length ≤ k + 1 := by have := HI.out; have := HE.out; omega
      rw [List.take_of_length_le hCk, List.drop_of_length_le hCk, List.nil_append] at hO
      go_wp2_with fail
      go_end0
      exact ⟨⟨_, rfl⟩, hO, hg⟩
end Go.Proofs.YtogkmnopggmdjaaGreatDoor
