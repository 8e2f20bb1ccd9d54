/- hairpinref01.pieces: the normal pieces, as the document has them. -/
import Derived.Test.YtomloklckpcaiaaZRuns
import Derived.Test.YtomloklckpcaiaaZRCorn
namespace Go.Proofs.Ytomloklckpcaiaa
open Go.RowKit Go.Shelf Go.Sort Go.Proofs

def rst (p : Piece) : List Piece := if 0 < p.len then cut p else []
theorem cut_step (p : Piece) (D : Int) (h : 1 ≤ D) : cut { p with len := D } = { p with len := min D 5000 } :: rst { p with len := D - min D 5000 } := by
  have h1 := cutk_eq h
  unfold rst cut
  show List.replicate (cutk D) { p with len := 5000 } ++ [{ p with len := D - 5000 * (cutk D : Int) }] = _ :: if 0 < D - min D 5000 then List.replicate (cutk (D - min D 5000)) { p with len := 5000 } ++ [{ p with len := D - min D 5000 - 5000 * (cutk (D - min D 5000) : Int) }] else []
  by_cases hd : D ≤ 5000
  · have h0 : cutk D = 0 := by omega
    rw [h0, show min D 5000 = D by omega, if_neg (by omega)]
    simp
  · have h2 : (cutk (D - 5000) : Int) = (D - 5000 - 1) / 5000 := cutk_eq (by omega)
    have h3 : cutk D = cutk (D - 5000) + 1 := by omega
    rw [show min D 5000 = 5000 by omega, if_pos (by omega), h3, List.replicate_succ, List.cons_append]
    congr 3
    simp
    omega
theorem mrg_snoc (l : List Piece) (x : Piece) : mrgR (l ++ [x]) = addR (mrgR l) x := by simp [mrgR]
theorem addR_len (rs : List Piece) (p : Piece) : (addR rs p).length ≤ rs.length + 1 := by
  rcases nil_or_snoc rs with rfl | ⟨ds, y, rfl⟩
  · rw [addR_nil]; simp
  · rw [addR_at]; split <;> simp
theorem mrg_len (l : List Piece) : (mrgR l).length ≤ l.length := by
  have key : ∀ (l rs : List Piece), (l.foldl addR rs).length ≤ rs.length + l.length := by
    intro l
    induction l with
    | nil => intro rs; simp
    | cons x l ih => intro rs; rw [List.foldl_cons, List.length_cons]; have := ih (addR rs x); have := addR_len rs x; omega
  have := key l []
  simpa [mrgR] using this
theorem mem_le_sum : ∀ {l : List Piece}, (∀ q ∈ l, 0 ≤ q.len) → ∀ q ∈ l, q.len ≤ sumL l
  | [], _, _, h => by cases h
  | p :: l, h, q, hq => by
    have h1 := h p (List.mem_cons_self ..)
    have h2 : 0 ≤ sumL l := by
      rw [← units_len (fun q hq => h q (List.mem_cons_of_mem _ hq))]; omega
    rw [sumL_cons]
    rcases List.mem_cons.1 hq with rfl | hq
    · omega
    · have := mem_le_sum (fun q hq => h q (List.mem_cons_of_mem _ hq)) q hq; omega
theorem mrg_sum {ps : List Piece} (h : ∀ q ∈ ps, 0 ≤ q.len) : sumL (mrgR ps) = sumL ps := by
  rw [← units_len (mrg_ge (Int.le_refl 0) h), units_mrg h, units_len h]
theorem flat_take (rs : List Piece) (k : Nat) : ((rs.take k).flatMap cut).length ≤ (rs.flatMap cut).length := by
  conv => rhs; rw [← List.take_append_drop k rs, List.flatMap_append, List.length_append]
  omega
set_option maxRecDepth 100000 in
set_option maxHeartbeats 4000000 in
theorem pieces_in (A : Option Addr) (n c : Nat) (ps : List Piece) (w : World) (hb : SL pC 5 w w.heap.size A n ps) (hp : ∀ q ∈ ps, 1 ≤ q.len ∧ q.len ≤ 5000) (hn : n ≤ 2000) :
    Calls Try.prog 73 #[.slice A n c] w fun e w' => ∃ A' n' c', e = .returned (.slice A' n' c') ∧ OW pC 5 52 w.heap.size w' A' n' c' (normP ps) ∧ Below w.heap.size w w' := by
  have hl := Lib.hid hb.1
  have hp' := Lib.hid hp
  have hmo : Try.prog.follows .mixedOrders = true := by kernel_rfl
  clear hp
  go_enter Try.func73, Try.ntmps73
  go_wp2_with fail
  go_loopw [3, 4] (fun o i wr => ∃ (k : Nat) (A1 : Option Addr) (n1 c1 : Nat), k ≤ n ∧ i = .int .i64 k ∧ o = .slice A1 n1 c1 ∧ OW pC 5 52 w.heap.size wr A1 n1 c1 (mrgR (ps.take k)) ∧ Below w.heap.size w wr)
    (fun _ i _ => n - (intOf i).toNat)
  case atStart => exact ⟨0, none, 0, 0, Nat.zero_le _, rfl, rfl, OW.nil_, Below.refl _ _⟩
  case round =>
    obtain ⟨k, A1, n1, c1, hk, rfl, rfl, hO, hbr⟩ := hrel
    have hsz := hbr.size
    have hn1 : n1 ≤ k := by
      have h1 := hO.len
      have h2 := mrg_len (ps.take k)
      have h3 : (ps.take k).length ≤ k := List.length_take_le ..
      omega
    by_cases hlt : k < n
    · have hkl : k < ps.length := by rw [← hl.out]; exact hlt
      obtain ⟨b, off, hA, hbB, c0, c1', c2, c3, c4⟩ := PS.at_ (hb.grow hbr hsz) (k := k) hkl
      have htk : ps.take (k + 1) = ps.take k ++ [ps[k]] := by rw [List.take_add_one, List.getElem?_eq_getElem hkl]; rfl
      have hnew : Hid (mrgR (ps.take (k + 1)) = addR (mrgR (ps.take k)) ps[k]) := by rw [htk]; exact mrg_snoc _ _
      have hsum : Hid (sumL (mrgR (ps.take k)) ≤ 10000000) := by
        have h0 : ∀ q ∈ ps.take k, 1 ≤ q.len ∧ q.len ≤ 5000 := fun q hq => hp'.out q (List.mem_of_mem_take hq)
        have h1 := mrg_sum (ps := ps.take k) (fun q hq => by have := h0 q hq; omega)
        have h2 := (sumL_bd5 h0).2
        have h3 : (ps.take k).length ≤ k := List.length_take_le ..
        show _ ≤ _
        omega
      have hnng : Hid (∀ q ∈ mrgR (ps.take k), 1 ≤ q.len) := mrg_ge (by omega) (fun q hq => (hp'.out q (List.mem_of_mem_take hq)).1)
      have hxb := hp'.out _ (List.getElem_mem hkl)
      generalize ps[k]'hkl = x at c0 c1' c2 c3 c4 hxb htk hnew
      obtain ⟨hx1, hx2⟩ := hxb
      have hi1 : (0 : Int) ≤ (k : Int) := by omega
      have hi2 : (k : Int) < (n : Int) := by omega
      have hwn : IntKind.i64.wrap ((n1 : Int) - 1) = (n1 : Int) - 1 := IntWalk.i64_in _ (by omega)
      subst hA
      clear htk
      rcases nil_or_snoc (mrgR (ps.take k)) with hrs | ⟨ds, y, hrs⟩
      · have hn0 : n1 = 0 := by have := hO.len; rw [hrs] at this; simpa using this
        subst hn0
        have hnew2 : Hid (mrgR (ps.take (k + 1)) = mrgR (ps.take k) ++ [x]) := by rw [hnew.out, hrs]; exact rfl
        clear hnew hrs
        go_wp2_with fail
        go_quiet (fail)
        obtain ⟨w2, hw2⟩ : ∃ w2, w2 = wr.drewN nq := ⟨_, rfl⟩
        have hb2 : Below wr.heap.size wr w2 := by rw [hw2]; exact below_drewN (Below.refl _ _) _
        have hB2 := hbr.trans (hb2.mono hsz)
        have hO2 := hO.call hb2
        have hz2 := hB2.size
        rw [← hw2]
        clear hw2
        replace c0 := (bc hb2 (by omega)).trans c0
        replace c1' := (bc hb2 (by omega)).trans c1'
        replace c2 := (bc hb2 (by omega)).trans c2
        replace c3 := (bc hb2 (by omega)).trans c3
        replace c4 := (bc hb2 (by omega)).trans c4
        have hN1 := BK.new w2 52 #[.int .i64 x.len, .int .i64 x.turn, .int .i64 x.rad, .int .i64 x.wid, .int .i64 x.sur]
        go_wp2_with (at_builtin; refine wpList_app rfl _ _ 22 rfl w.heap.size 52 _ 5 40 Try.underlying22 infoP rfl (by decide) pC A1 0 c1 _ rfl (hO2.alloc _) x #[.int .i64 x.len, .int .i64 x.turn, .int .i64 x.rad, .int .i64 x.wid, .int .i64 x.sur] rfl rfl 52 w2.heap.size rfl hN1 (by simp [pC, Value.oneCell']) (by omega) (by omega) (by simp; omega) ?_; intro g'' c'' w10 hap; have HAP := Lib.hid hap; clear hap)
        go_roundw
        case rel =>
          have hap := HAP.out
          exact ⟨k + 1, _, _, _, by omega, by go_num, rfl, by rw [hnew2.out]; exact hap.own, (hB2.alloc hz2 _).trans hap.bel⟩
        case measure => simp [intOf]; omega
      · have hnD : n1 = ds.length + 1 := by have := hO.len; rw [hrs] at this; simpa using this
        obtain ⟨a0, hA0⟩ : ∃ a0, A1 = some a0 := by
          cases A1 with
          | none => have := hO.none_.1; omega
          | some a0 => exact ⟨a0, rfl⟩
        obtain ⟨b0, rfl, hb0, hbb0, hfz, hrow⟩ := hO.at_ pC_len a0 hA0
        have haty : (mrgR (ps.take k))[n1 - 1]? = some y := by rw [hrs, hnD]; simp
        have hyb : 1 ≤ y.len ∧ y.len ≤ 10000000 := by
          have hm : y ∈ mrgR (ps.take k) := by rw [hrs]; simp
          have h1 := hnng.out y hm
          have h2 := mem_le_sum (fun q hq => by have := hnng.out q hq; omega) y hm
          have h3 := hsum.out
          omega
        obtain ⟨hy1, hy2⟩ := hyb
        have hadr : ∀ j, (0 + (n1 - 1) * 5 + j) = (n1 - 1) * 5 + j := fun j => by omega
        have d0 : wr.cell? ⟨b0, (n1 - 1) * 5, none⟩ = some (.int .i64 y.len) := by have := hrow _ y haty 0 _ rfl; rw [hadr] at this; exact this
        have d1 : wr.cell? ⟨b0, (n1 - 1) * 5 + 1, none⟩ = some (.int .i64 y.turn) := by have := hrow _ y haty 1 _ rfl; rw [hadr] at this; exact this
        have d2 : wr.cell? ⟨b0, (n1 - 1) * 5 + 2, none⟩ = some (.int .i64 y.rad) := by have := hrow _ y haty 2 _ rfl; rw [hadr] at this; exact this
        have d3 : wr.cell? ⟨b0, (n1 - 1) * 5 + 3, none⟩ = some (.int .i64 y.wid) := by have := hrow _ y haty 3 _ rfl; rw [hadr] at this; exact this
        have d4 : wr.cell? ⟨b0, (n1 - 1) * 5 + 4, none⟩ = some (.int .i64 y.sur) := by have := hrow _ y haty 4 _ rfl; rw [hadr] at this; exact this
        have df := hfz ((n1 - 1) * 5)
        have hi3 : ((n1 : Int) - 1).toNat = n1 - 1 := by omega
        have hi4 : (0 : Int) ≤ (n1 : Int) - 1 := by omega
        have hi5 : (n1 : Int) - 1 < (n1 : Int) := by omega
        have hi6 : (1 : Int) ≤ (n1 : Int) := by omega
        have HADD := Lib.hid (addR_at ds y x)
        have HRS := Lib.hid hrs
        have HND := Lib.hid hnD
        have HAT := Lib.hid haty
        have HO := Lib.hid hO
        subst hA0
        clear hadr hfz hrow hrs hnD haty hO
        go_wp2_with fail
        have HT := Lib.hid (fun (W : World) => alike_any y x W)
        refine wp_region_qt 12 hmo (by kernel_rfl) ?_
        simp only [List.take_succ_cons, List.take_zero, List.drop_succ_cons, List.drop_zero]
        have k0 := fun d os => cell_regrown d0 d os
        have k1 := fun d os => cell_regrown d1 d os
        have k2 := fun d os => cell_regrown d2 d os
        have k3 := fun d os => cell_regrown d3 d os
        have k4 := fun d os => cell_regrown d4 d os
        have l0 := fun d os => cell_regrown c0 d os
        have l1 := fun d os => cell_regrown c1' d os
        have l2 := fun d os => cell_regrown c2 d os
        have l3 := fun d os => cell_regrown c3 d os
        have l4 := fun d os => cell_regrown c4 d os
        repeat (quiet_step ((go_at_call 95; exact Calls.regrown_of (HT.out _))))
        refine wpQuiet_nil ?_
        intro w2 hb2
        clear k0 k1 k2 k3 k4 l0 l1 l2 l3 l4 HT d1 d2 d3 d4
        have hB2 := hbr.trans (hb2.mono hsz)
        have hO2 := HO.out.call hb2
        have hz2 := hB2.size
        replace c0 := (bc hb2 (by omega)).trans c0
        replace c1' := (bc hb2 (by omega)).trans c1'
        replace c2 := (bc hb2 (by omega)).trans c2
        replace c3 := (bc hb2 (by omega)).trans c3
        replace c4 := (bc hb2 (by omega)).trans c4
        replace d0 := (bc hb2 hb0).trans d0
        replace df := (bf hb2 hb0).trans df
        have hb0' : b0 < w2.heap.size := Nat.lt_of_lt_of_le hb0 hb2.size
        cases hal : alk y x
        · have hnew2 : Hid (mrgR (ps.take (k + 1)) = mrgR (ps.take k) ++ [x]) := by rw [hnew.out, HRS.out, HADD.out, hal]; exact rfl
          have hN1 := BK.new w2 52 #[.int .i64 x.len, .int .i64 x.turn, .int .i64 x.rad, .int .i64 x.wid, .int .i64 x.sur]
          clear hnew hal d0 df
          go_wp2_with (at_builtin; refine wpList_app rfl _ _ 22 rfl w.heap.size 52 _ 5 40 Try.underlying22 infoP rfl (by decide) pC _ n1 c1 _ rfl (hO2.alloc _) x #[.int .i64 x.len, .int .i64 x.turn, .int .i64 x.rad, .int .i64 x.wid, .int .i64 x.sur] rfl rfl 52 w2.heap.size rfl hN1 (by simp [pC, Value.oneCell']) (by omega) (by omega) (by simp; omega) ?_; intro g'' c'' w10 hap; have HAP := Lib.hid hap; clear hap)
          go_roundw
          case rel =>
            have hap := HAP.out
            exact ⟨k + 1, _, _, _, by omega, by go_num, rfl, by rw [hnew2.out]; exact hap.own, (hB2.alloc hz2 _).trans hap.bel⟩
          case measure => simp [intOf]; omega
        · have hnew2 : Hid (mrgR (ps.take (k + 1)) = (mrgR (ps.take k)).set (n1 - 1) { y with len := y.len + x.len }) := by
            rw [hnew.out, HRS.out, HADD.out, hal, HND.out]
            simp [Hid]
          clear hnew hal c1' c2 c3 c4
          have hws : IntKind.i64.wrap (y.len + x.len) = y.len + x.len := IntWalk.i64_in _ (by omega)
          go_wp2_with fail
          refine wp_region_qt 13 hmo (by kernel_rfl) ?_
          simp only [List.take_succ_cons, List.take_zero, List.drop_succ_cons, List.drop_zero]
          have k0 := fun d os => cell_regrown d0 d os
          have l0 := fun d os => cell_regrown c0 d os
          repeat (quiet_step (fail))
          refine wpQuiet_nil ?_
          intro w3 hb3
          clear k0 l0 hws
          replace d0 := (bc hb3 hb0').trans d0
          replace df := (bf hb3 hb0').trans df
          go_wp2_with fail
          go_roundw
          case rel =>
            have h1 := (hO2.call hb3).setF pC_len (n1 - 1) 0 (x := y) (y := { y with len := y.len + x.len }) (v := .int .i64 (y.len + x.len)) HAT.out (by omega) rfl
            exact ⟨k + 1, _, _, _, by omega, by go_num, rfl, by rw [hnew2.out]; exact h1, (hB2.trans (hb3.mono hz2)).setCell hbb0 _⟩
          case measure => simp [intOf]; omega
    · obtain rfl : k = n := by omega
      have hrs : Hid (mrgR (ps.take k) = mrgR ps) := by rw [hl.out, List.take_length]; exact rfl
      rw [hrs.out] at hO
      obtain ⟨rs, hrse⟩ : ∃ rs, rs = mrgR ps := ⟨_, rfl⟩
      have hN : Hid (normP ps = rs.flatMap cut) := by rw [hrse]; exact rfl
      have hrb : Hid (∀ q ∈ rs, 1 ≤ q.len ∧ q.len ≤ 10000000) := fun q hq => by
        rw [hrse] at hq
        have h1 := mrg_ge (by omega) (fun q hq => (hp'.out q hq).1) q hq
        have h2 := mem_le_sum (l := mrgR ps) (fun q hq => by have := mrg_ge (m := 1) (by omega) (fun q hq => (hp'.out q hq).1) q hq; omega) q hq
        have h3 := mrg_sum (ps := ps) (fun q hq => by have := hp'.out q hq; omega)
        have h4 := (sumL_bd5 hp'.out).2
        have := hl.out
        omega
      have hcnt : Hid (∀ j, ((rs.take j).flatMap cut).length ≤ 2000) := fun j => by
        have h1 := flat_take rs j
        have h2 := norm_len hp'.out
        have h3 := hl.out
        rw [hN.out] at h2
        omega
      rw [← hrse] at hO
      clear hrse hrs
      have hlr := hO.len
      have HO := Lib.hid hO
      clear hO
      obtain ⟨w1, hw1⟩ : ∃ w1, w1 = wr := ⟨_, rfl⟩
      rw [← hw1] at HO hbr hsz ⊢
      clear hw1
      go_wp2_with fail
      go_loopw [6, 7] (fun o i wr => ∃ (j : Nat) (A2 : Option Addr) (n2 c2 : Nat), j ≤ n1 ∧ i = .int .i64 j ∧ o = .slice A2 n2 c2 ∧ OW pC 5 52 w1.heap.size wr A2 n2 c2 ((rs.take j).flatMap cut) ∧ Below w1.heap.size w1 wr)
        (fun _ i _ => n1 - (intOf i).toNat)
      case atStart => exact ⟨0, none, 0, 0, Nat.zero_le _, rfl, rfl, OW.nil_, Below.refl _ _⟩
      case round =>
        obtain ⟨j, A2, n2, c2, hj, rfl, rfl, hO2, hb1⟩ := hrel
        have hz1 := hb1.size
        have hn2 : n2 ≤ 2000 := by have := hO2.len; have := hcnt.out j; omega
        by_cases hjl : j < n1
        · have hjl' : j < rs.length := by omega
          obtain ⟨a0, hA0⟩ : ∃ a0, A1 = some a0 := by
            cases A1 with
            | none => have := HO.out.none_.1; omega
            | some a0 => exact ⟨a0, rfl⟩
          obtain ⟨b0, rfl, hb0, hbb0, hfz, hrow⟩ := (HO.out.call hb1).at_ pC_len a0 hA0
          have hat : rs[j]? = some rs[j] := List.getElem?_eq_getElem hjl'
          have hadr : ∀ i, (0 + j * 5 + i) = j * 5 + i := fun i => by omega
          have d0 : wr.cell? ⟨b0, j * 5, none⟩ = some (.int .i64 rs[j].len) := by have := hrow _ _ hat 0 _ rfl; rw [hadr] at this; exact this
          have d1 : wr.cell? ⟨b0, j * 5 + 1, none⟩ = some (.int .i64 rs[j].turn) := by have := hrow _ _ hat 1 _ rfl; rw [hadr] at this; exact this
          have d2 : wr.cell? ⟨b0, j * 5 + 2, none⟩ = some (.int .i64 rs[j].rad) := by have := hrow _ _ hat 2 _ rfl; rw [hadr] at this; exact this
          have d3 : wr.cell? ⟨b0, j * 5 + 3, none⟩ = some (.int .i64 rs[j].wid) := by have := hrow _ _ hat 3 _ rfl; rw [hadr] at this; exact this
          have d4 : wr.cell? ⟨b0, j * 5 + 4, none⟩ = some (.int .i64 rs[j].sur) := by have := hrow _ _ hat 4 _ rfl; rw [hadr] at this; exact this
          have hxb := hrb.out _ (List.getElem_mem hjl')
          have hnk : Hid ((rs.take (j + 1)).flatMap cut = (rs.take j).flatMap cut ++ cut rs[j]) := by
            have h1 : rs.take (j + 1) = rs.take j ++ [rs[j]] := by rw [List.take_add_one, hat]; rfl
            rw [h1, List.flatMap_append, List.flatMap_cons, List.flatMap_nil, List.append_nil]
            exact rfl
          generalize rs[j]'hjl' = x at d0 d1 d2 d3 d4 hxb hnk
          obtain ⟨hx1, hx2⟩ := hxb
          have hi1 : (0 : Int) ≤ (j : Int) := by omega
          have hi2 : (j : Int) < (n1 : Int) := by omega
          have HA0 := Lib.hid hA0
          subst hA0
          clear hat hadr hrow hfz
          go_wp2_with fail
          obtain ⟨bx, hbx⟩ : ∃ bx, bx = wr.heap.size := ⟨_, rfl⟩
          obtain ⟨w8, hw8⟩ : ∃ w8, w8 = wr.alloc (.cells #[.int .i64 x.len, .int .i64 x.turn, .int .i64 x.rad, .int .i64 x.wid, .int .i64 x.sur] 52) := ⟨_, rfl⟩
          have hK8 : BK w8 bx 52 #[.int .i64 x.len, .int .i64 x.turn, .int .i64 x.rad, .int .i64 x.wid, .int .i64 x.sur] := by rw [hw8, hbx]; exact BK.new wr _ _
          have hb8 : Below w1.heap.size w1 w8 := by rw [hw8]; exact hb1.alloc hz1 _
          have hO8 : OW pC 5 52 w1.heap.size w8 A2 n2 c2 ((rs.take j).flatMap cut) := by rw [hw8]; exact hO2.alloc _
          have hne8 : ∀ a, A2 = some a → a.block ≠ bx := fun a ha => by have := (hO2.lt ha).2; omega
          have hbx3 : w1.heap.size ≤ bx := by omega
          rw [← hw8, ← hbx]
          clear hw8 hO2 hbx d0 d1 d2 d3 d4
          go_loopw [6] (fun o w9 => ∃ (L : List Piece) (D : Int) (A3 : Option Addr) (n3 c3 : Nat), (0 ≤ D ∧ D ≤ 10000000) ∧ L ++ rst { x with len := D } = cut x ∧ o = .slice A3 n3 c3 ∧ OW pC 5 52 w1.heap.size w9 A3 n3 c3 ((rs.take j).flatMap cut ++ L) ∧
              (∀ a, A3 = some a → a.block ≠ bx) ∧ BK w9 bx 52 #[.int .i64 D, .int .i64 x.turn, .int .i64 x.rad, .int .i64 x.wid, .int .i64 x.sur] ∧ Below w1.heap.size w1 w9)
            (fun _ w9 => (intOf ((w9.cell? ⟨bx, 0, none⟩).getD (.int .i64 0))).toNat)
          case atStart => exact ⟨[], x.len, A2, n2, c2, by omega, by rw [rst, if_pos (by show 0 < x.len; omega)]; rfl, rfl, by simpa using hO8, hne8, hK8, hb8⟩
          case round =>
            obtain ⟨L, D, A3, n3, c3, ⟨hD1, hD2⟩, hLe, rfl, hO9, hne9, hK9, hb9⟩ := hrel
            have hb9z := hb9.size
            have hbx := hK9.lt
            have y0 := hK9.cell 0
            have y1 := hK9.cell 1
            have y2 := hK9.cell 2
            have y3 := hK9.cell 3
            have y4 := hK9.cell 4
            have yf := hK9.frozen 0
            simp only [List.getElem?_toArray, List.getElem?_cons_zero, List.getElem?_cons_succ] at y0 y1 y2 y3 y4
            have hLL : L.length ≤ 2001 := by
              have h1 := congrArg List.length hLe
              rw [List.length_append, cutk_len] at h1
              have := cutk_eq hx1
              omega
            have hn3 : n3 ≤ 4001 := by
              have h1 := hO9.len
              rw [List.length_append] at h1
              have := hcnt.out j
              omega
            by_cases hD0 : 0 < D
            · obtain ⟨M, hM⟩ : ∃ M, M = min D 5000 := ⟨_, rfl⟩
              have hcs := cut_step x D hD0
              rw [← hM] at hcs
              have hLn : Hid ((L ++ [{ x with len := M }]) ++ rst { x with len := D - M } = cut x) := by
                rw [rst, if_pos (show 0 < ({ x with len := D } : Piece).len from hD0), hcs] at hLe
                rw [List.append_assoc]
                exact hLe
              have hite : (if 5000 < D then 5000 else D) = M := by rw [hM]; split <;> omega
              have hM1 : 0 ≤ M := by omega
              have hM2 : M ≤ D := by omega
              have hM3 : 0 < M := by omega
              have hwD : IntKind.i64.wrap (D - M) = D - M := IntWalk.i64_in _ (by omega)
              have hN1 : BK ((wr.alloc (.cells #[.int .i64 M, .int .i64 x.turn, .int .i64 x.rad, .int .i64 x.wid, .int .i64 x.sur] 52)).alloc (.cells #[.int .i64 M, .int .i64 x.turn, .int .i64 x.rad, .int .i64 x.wid, .int .i64 x.sur] 52)) (wr.heap.size + 1) 52 #[.int .i64 M, .int .i64 x.turn, .int .i64 x.rad, .int .i64 x.wid, .int .i64 x.sur] := by
                have := BK.new (wr.alloc (.cells #[.int .i64 M, .int .i64 x.turn, .int .i64 x.rad, .int .i64 x.wid, .int .i64 x.sur] 52)) 52 #[.int .i64 M, .int .i64 x.turn, .int .i64 x.rad, .int .i64 x.wid, .int .i64 x.sur]
                rw [World.size_alloc] at this
                exact this
              have HFX : Hid (∀ w10 g c'', App1 pC 5 52 w1.heap.size ((wr.alloc (.cells #[.int .i64 M, .int .i64 x.turn, .int .i64 x.rad, .int .i64 x.wid, .int .i64 x.sur] 52)).alloc (.cells #[.int .i64 M, .int .i64 x.turn, .int .i64 x.rad, .int .i64 x.wid, .int .i64 x.sur] 52)) A3 n3 c3 ((rs.take j).flatMap cut ++ L) { x with len := M } g c'' w10 →
                  BK w10 bx 52 #[.int .i64 D, .int .i64 x.turn, .int .i64 x.rad, .int .i64 x.wid, .int .i64 x.sur] ∧ BK w10 wr.heap.size 52 #[.int .i64 M, .int .i64 x.turn, .int .i64 x.rad, .int .i64 x.wid, .int .i64 x.sur]) := by
                intro w10 g c'' hap
                refine ⟨((hK9.alloc _).alloc _).same (hap.far bx (by simp; omega) (fun b hb => hne9 b hb)), ((BK.new wr _ _).alloc _).same (hap.far wr.heap.size (by simp; omega) (fun b hb => ?_))⟩
                have := (hO9.lt hb).2
                omega
              clear hM hcs
              go_wp2_with (at_builtin; refine wpList_app rfl _ _ 22 rfl w1.heap.size 52 _ 5 40 Try.underlying22 infoP rfl (by decide) pC A3 n3 c3 _ rfl ((hO9.alloc _).alloc _) { x with len := M } #[.int .i64 M, .int .i64 x.turn, .int .i64 x.rad, .int .i64 x.wid, .int .i64 x.sur] rfl rfl 52 (wr.heap.size + 1) rfl hN1 (by simp [pC, Value.oneCell']) (by omega) (by omega) (by simp; omega) ?_; intro g'' c'' w10 hap; have z0 := (HFX.out _ _ _ hap).1.cell 0; have zf := (HFX.out _ _ _ hap).1.frozen 0; have z1 := (HFX.out _ _ _ hap).2.cell 0; have HAP := Lib.hid hap; clear hap)
              go_roundw
              case rel =>
                have hap := HAP.out
                have hbw := ((Below.refl wr.heap.size wr).alloc (Nat.le_refl _) (.cells #[.int .i64 M, .int .i64 x.turn, .int .i64 x.rad, .int .i64 x.wid, .int .i64 x.sur] 52)).alloc (by simp) (.cells #[.int .i64 M, .int .i64 x.turn, .int .i64 x.rad, .int .i64 x.wid, .int .i64 x.sur] 52)
                have hne : ∀ a, (some ⟨g'', 0, none⟩ : Option Addr) = some a → a.block ≠ bx := fun a ha => by
                  cases ha
                  rcases hap.at_ with ⟨b, hb, rfl⟩ | hg
                  · exact hne9 b hb
                  · show g'' ≠ bx; simp at hg; omega
                refine ⟨L ++ [{ x with len := M }], D - M, _, _, _, by omega, hLn.out, rfl, ?_, hne, (HFX.out _ _ _ hap).1.set_ 0 _, ((hb9.trans (hbw.mono hb9z)).trans hap.bel).setCell hbx3 _⟩
                rw [← List.append_assoc]
                exact hap.own.setCell hne _
              case measure =>
                have hc := ((HFX.out _ _ _ HAP.out).1.set_ 0 (.int .i64 (D - M))).cell 0
                simp only [List.setIfInBounds_toArray, List.set_cons_zero, List.getElem?_toArray, List.getElem?_cons_zero] at hc
                simp [intOf, y0, hc]
                omega
            · obtain rfl : D = 0 := by omega
              have hLx : Hid (L = cut x) := by rw [← hLe, rst, if_neg (by show ¬ (0 : Int) < 0; omega), List.append_nil]; exact rfl
              go_wp2_with fail
              go_roundw
              case rel =>
                have h1 : OW pC 5 52 w1.heap.size wr A3 n3 c3 ((rs.take (j + 1)).flatMap cut) := by rw [hnk.out, ← hLx.out]; exact hO9
                exact ⟨j + 1, by omega, by go_num, A3, n3, c3, ⟨rfl, rfl, rfl⟩, h1⟩
              case measure => simp [intOf]; omega
        · obtain rfl : j = n1 := by omega
          have hall : (rs.take j).flatMap cut = normP ps := by rw [hlr, List.take_length, hN.out]
          rw [hall] at hO2
          go_wp2_with fail
          go_ret
          exact ⟨_, _, _, rfl, hO2.drop0 hbr.size, onto hbr hb1 hbr.size⟩
end Go.Proofs.Ytomloklckpcaiaa
