/- runs: the normal pieces of a list. -/
import Derived.Test.YtpiiaffkobddlaaZBPG
import Derived.Test.YtpiiaffkobddlaaZBPGrouped
namespace Go.Proofs.Ytpiiaffkobddlaa
open Go.RowKit Go.Shelf Go.Sort Go.Proofs

theorem sumL_bd5 : ∀ {g : List Piece}, (∀ q ∈ g, 1 ≤ q.len ∧ q.len ≤ 5000) → (g.length : Int) ≤ sumL g ∧ sumL g ≤ 5000 * g.length
  | [], _ => by simp [sumL]
  | p :: g, h => by
    have h1 := sumL_bd5 (fun q hq => h q (List.mem_cons_of_mem _ hq))
    have h2 := h p (List.mem_cons_self ..)
    rw [sumL_cons, List.length_cons]; omega
theorem cuts_len : ∀ {gs : List (List Piece)}, (∀ g ∈ gs, g ≠ [] ∧ ∀ q ∈ g, 1 ≤ q.len ∧ q.len ≤ 5000) → ((gs.map hs).flatMap cut).length ≤ gs.flatten.length
  | [], _ => by simp
  | g :: gs, h => by
    have h1 := cuts_len (fun q hq => h q (List.mem_cons_of_mem _ hq))
    obtain ⟨h2, h3⟩ := h g (List.mem_cons_self ..)
    have h4 := sumL_bd5 h3
    have h5 := List.length_pos_iff.2 h2
    have h6 := cutk_eq (n := sumL g) (by omega)
    rw [List.map_cons, List.flatMap_cons, List.flatten_cons, List.length_append, List.length_append, cutk_len, hs_len]
    omega
theorem take_flat (gs : List (List Piece)) (k : Nat) : (gs.take k).flatten.length ≤ gs.flatten.length := by
  conv => rhs; rw [← List.take_append_drop k gs, List.flatten_append, List.length_append]
  omega
theorem grpP_mem {ps g : List Piece} (h : g ∈ grpP ps) {q : Piece} (hq : q ∈ g) : q ∈ ps := by
  rw [← grpP_flat ps]; exact List.mem_flatten.2 ⟨g, h, hq⟩
set_option maxRecDepth 100000 in
set_option maxHeartbeats 4000000 in
theorem runs_in (A : Option Addr) (n c : Nat) (ps : List Piece) (w : World) (hb : SL pC 5 w w.heap.size A n ps) (hp : ∀ q ∈ ps, 1 ≤ q.len ∧ q.len ≤ 5000) (hn : n ≤ 2000) :
    Calls Try.prog 21 #[.slice A n c] w fun e w' => ∃ A' n' c', e = .returned (.slice A' n' c') ∧ OW pC 5 53 w.heap.size w' A' n' c' (normP ps) ∧ Below w.heap.size w w' := by
  have hl := Lib.hid hb.1
  have hp' := Lib.hid hp
  clear hp
  go_enter Try.func21, Try.ntmps21
  go_wp2_with fail
  refine (groupedP_any A n c ps w hb (by omega)).mono ?_
  rintro e W3 ⟨A', n', c', gs, rfl, hG, hgs, hb3⟩
  have hGS := Lib.hid hgs
  have hn' : n' ≤ 2000 := by
    have h1 := hG.out.len
    have h2 := congrArg List.length hgs
    have h3 := grpP_len ps
    have h4 := hl.out
    simp only [List.length_map] at h1 h2
    omega
  have hcb : Hid (∀ k, ((((gs.map (·.2)).take k).map hs).flatMap cut).length ≤ 2000) := fun k => by
    have h1 := cuts_len (gs := (gs.map (·.2)).take k) (fun g hg => by
      rw [hgs] at hg
      have hg := List.mem_of_mem_take hg
      exact ⟨grpP_ne hg, fun q hq => hp'.out q (grpP_mem hg hq)⟩)
    have h2 := take_flat (gs.map (·.2)) k
    rw [hgs, grpP_flat] at h2
    rw [hgs] at h1 ⊢
    have := hl.out
    omega
  clear hgs
  go_wp2_with fail
  go_loopw [3, 13] (fun o i wr => ∃ (k : Nat) (A1 : Option Addr) (n1 c1 : Nat), k ≤ n' ∧ i = .int .i64 k ∧ o = .slice A1 n1 c1 ∧ OW pC 5 53 W3.heap.size wr A1 n1 c1 ((((gs.map (·.2)).take k).map hs).flatMap cut) ∧ Below W3.heap.size W3 wr)
    (fun _ i _ => n' - (intOf i).toNat)
  case atStart => exact ⟨0, none, 0, 0, Nat.zero_le _, rfl, rfl, OW.nil_, Below.refl _ _⟩
  case round =>
    obtain ⟨k, A1, n1, c1, hk, rfl, rfl, hO, hb⟩ := hrel
    have hsz := hb.size
    have hn1 : n1 ≤ 2000 := by have := hO.len; have := hcb.out k; omega
    by_cases hlt : k < n'
    · have hkl : k < gs.length := by have := hG.out.len; rw [List.length_map] at this; omega
      have hG' := hG.call hb
      obtain ⟨qq, hqq⟩ : ∃ qq, qq = gs[k] := ⟨_, rfl⟩
      obtain ⟨⟨gA, gn, gc⟩, gl⟩ := qq
      have hqm : gs[k] ∈ gs := List.getElem_mem hkl
      have hgrp := hG'.grp _ hqm
      have hqk : gs[k]? = some (⟨gA, gn, gc⟩, gl) := by rw [List.getElem?_eq_getElem hkl, hqq]
      rw [← hqq] at hgrp
      simp only at hgrp
      obtain ⟨hOg, hne⟩ := hgrp
      obtain ⟨a0, hA0⟩ : ∃ a0, A' = some a0 := by
        cases A' with
        | none => have := hG.out.none_.1; omega
        | some a0 => exact ⟨a0, rfl⟩
      obtain ⟨b0', rfl, hb0, hbb0, hfz, hrow⟩ := hG'.out.at_ hC_len a0 hA0
      have hh0 := hrow k ⟨gA, gn, gc⟩ (by rw [List.getElem?_map, hqk]; rfl) 0 _ rfl
      have hh : wr.cell? ⟨b0', k, none⟩ = some (.slice gA gn gc) := by rw [← hh0]; congr 1; simp
      clear hh0 hrow hfz
      have hgn := hOg.len
      have hgpos : 0 < gn := by rw [hgn]; exact List.length_pos_iff.2 hne
      obtain ⟨a1, hA1⟩ : ∃ a1, gA = some a1 := by
        cases gA with
        | none => have := hOg.none_.1; omega
        | some a1 => exact ⟨a1, rfl⟩
      obtain ⟨gb, rfl, hgb0, hgbb, hfz, hrow⟩ := hOg.at_ pC_len a1 hA1
      have hglm : gl ∈ grpP ps := by
        rw [← hGS.out]
        exact List.mem_map.2 ⟨_, List.mem_iff_getElem?.2 ⟨k, hqk⟩, rfl⟩
      have hgok : Hid (∀ e ∈ gl, 1 ≤ e.len ∧ e.len ≤ 5000) := fun e he => hp'.out e (grpP_mem hglm he)
      have hgln : gn ≤ 2000 := by
        have h1 := grpP_part _ hglm
        have h3 := hl.out
        omega
      obtain ⟨x0, gt, hx0⟩ : ∃ x0 gt, gl = x0 :: gt := by
        cases gl with
        | nil => exact absurd rfl hne
        | cons x gt => exact ⟨x, gt, rfl⟩
      have hhs : Hid (hs gl = { x0 with len := sumL gl }) := by rw [hx0]; exact rfl
      have hSb := sumL_bd5 hgok.out
      have hat0 : gl[0]? = some x0 := by rw [hx0]; rfl
      have hnk : Hid ((((gs.map (·.2)).take (k + 1)).map hs).flatMap cut = ((((gs.map (·.2)).take k).map hs).flatMap cut) ++ cut (hs gl)) := by
        have h1 : (gs.map (·.2))[k]? = some gl := by rw [List.getElem?_map, hqk]; rfl
        rw [List.take_add_one, h1]
        simp [Hid]
      have HGN := Lib.hid hgn
      have HA1 := Lib.hid hA1
      clear hx0 hqq hqm hqk hgn hfz hrow hne
      subst hA0
      subst hA1
      go_wp2_with fail
      obtain ⟨wo, rfl⟩ : ∃ wo : World, wo = wr := ⟨_, rfl⟩
      go_loopw [6, 19] (fun an i w7 => ∃ (j : Nat), j ≤ gn ∧ i = .int .i64 j ∧ an = .int .i64 (sumL (gl.take j)) ∧ Below wo.heap.size wo w7)
        (fun _ i _ => gn - (intOf i).toNat)
      case atStart => exact ⟨0, Nat.zero_le _, rfl, rfl, Below.refl _ _⟩
      case round =>
        obtain ⟨j, hj, rfl, rfl, hb7⟩ := hrel
        have hz7 := hb7.size
        have hO7 := hOg.call hb7
        obtain ⟨b1', hb1', hg0', _, hfz', hrow'⟩ := hO7.at_ pC_len _ rfl
        cases hb1'
        by_cases hjl : j < gn
        · have hjl' : j < gl.length := by have := HGN.out; omega
          have hgj : gl[j]? = some gl[j] := List.getElem?_eq_getElem hjl'
          have hadj : ∀ i, (0 + j * 5 + i) = j * 5 + i := fun i => by omega
          have x0' := hrow' j _ hgj 0 _ rfl
          have x1' := hrow' j _ hgj 1 _ rfl
          have x2' := hrow' j _ hgj 2 _ rfl
          have x3' := hrow' j _ hgj 3 _ rfl
          have x4' := hrow' j _ hgj 4 _ rfl
          rw [hadj] at x0' x1' x2' x3' x4'
          rw [Nat.add_zero] at x0'
          have hyok := hgok.out _ (List.mem_iff_getElem?.2 ⟨j, hgj⟩)
          have hst := Lib.hid (sumL_take gl j hjl')
          have hbt := sumL_bd5 (g := gl.take j) (fun q hq => hgok.out q (List.mem_of_mem_take hq))
          have htl : (gl.take j).length ≤ j := List.length_take_le ..
          generalize gl[j]'hjl' = y at x0' x1' x2' x3' x4' hyok hst
          obtain ⟨S, hS⟩ : ∃ S, S = sumL (gl.take j) := ⟨_, rfl⟩
          rw [← hS] at hst hbt ⊢
          obtain ⟨hs1, hs2⟩ : 0 ≤ S ∧ S ≤ 10000000 := by omega
          clear hS hbt hgj hadj hrow' hfz'
          go_wp2_with fail
          go_roundw
          case rel => exact ⟨j + 1, by omega, by go_num, by rw [hst.out], hb7.alloc hz7 _⟩
          case measure => simp [intOf]; omega
        · obtain rfl : j = gn := by omega
          have htk : gl.take j = gl := by rw [HGN.out, List.take_length]
          rw [htk]
          clear htk
          obtain ⟨S, hS⟩ : ∃ S, S = sumL gl := ⟨_, rfl⟩
          rw [← hS] at hhs hSb ⊢
          have hS1 : 1 ≤ S := by have := HGN.out; omega
          have hS2 : S ≤ 10000000 := by have := HGN.out; omega
          have x0' := hrow' 0 x0 hat0 0 _ rfl
          have x1' := hrow' 0 x0 hat0 1 _ rfl
          have x2' := hrow' 0 x0 hat0 2 _ rfl
          have x3' := hrow' 0 x0 hat0 3 _ rfl
          have x4' := hrow' 0 x0 hat0 4 _ rfl
          simp only [Nat.zero_mul, Nat.zero_add] at x0' x1' x2' x3' x4'
          have hgpi : (0 : Int) < (j : Int) := by omega
          clear hSb hS hrow' hfz'
          go_wp2_with fail
          obtain ⟨bx, hbx⟩ : ∃ bx, bx = wr.heap.size := ⟨_, rfl⟩
          obtain ⟨w8, hw8⟩ : ∃ w8, w8 = wr.alloc (.cells #[.int .i64 5000, .int .i64 x0.turn, .int .i64 x0.rad, .int .i64 x0.wid, .int .i64 x0.sur] 53) := ⟨_, rfl⟩
          have hK8 : BK w8 bx 53 #[.int .i64 5000, .int .i64 x0.turn, .int .i64 x0.rad, .int .i64 x0.wid, .int .i64 x0.sur] := by rw [hw8, hbx]; exact BK.new wr _ _
          have hb8 : Below wo.heap.size wo w8 := by rw [hw8]; exact hb7.alloc hz7 _
          have hb38 : Below W3.heap.size W3 w8 := onto hb hb8 hb.size
          have hO8 := hO.call hb8
          have hne8 : ∀ a, A1 = some a → a.block ≠ bx := fun a ha => by have := (hO.lt ha).2; omega
          have hbx3 : W3.heap.size ≤ bx := by omega
          rw [← hw8, ← hbx]
          clear hw8 hb8 hO hbx x0' x1' x2' x3' x4'
          go_loopw [3, 6] (fun o nn w9 => ∃ (i : Nat) (A2 : Option Addr) (n2 c2 : Nat), nn = .int .i64 (S - 5000 * i) ∧ 5000 * (i : Int) < S ∧ o = .slice A2 n2 c2 ∧ n2 ≤ n1 + i ∧ OW pC 5 53 W3.heap.size w9 A2 n2 c2 (((((gs.map (·.2)).take k).map hs).flatMap cut) ++ List.replicate i { x0 with len := 5000 }) ∧
              (∀ a, A2 = some a → a.block ≠ bx) ∧ BK w9 bx 53 #[.int .i64 5000, .int .i64 x0.turn, .int .i64 x0.rad, .int .i64 x0.wid, .int .i64 x0.sur] ∧ Below W3.heap.size W3 w9)
            (fun _ nn _ => (intOf nn).toNat)
          case atStart => exact ⟨0, A1, n1, c1, by simp, by omega, rfl, Nat.le_refl _, by simpa using hO8, hne8, hK8, hb38⟩
          case round =>
            obtain ⟨i, A2, n2, c2, rfl, hi, rfl, hn2, hO9, hne9, hK9, hb9⟩ := hrel
            have y0 := hK9.cell 0
            have y1 := hK9.cell 1
            have y2 := hK9.cell 2
            have y3 := hK9.cell 3
            have y4 := hK9.cell 4
            have yf := hK9.frozen 0
            simp only [List.getElem?_toArray, List.getElem?_cons_zero, List.getElem?_cons_succ] at y0 y1 y2 y3 y4
            have hyl := hK9.lt
            have hb9z := hb9.size
            obtain ⟨D, hD⟩ : ∃ D, D = S - 5000 * (i : Int) := ⟨_, rfl⟩
            rw [← hD]
            have hD1 : 0 < D := by omega
            have hD2 : D ≤ 10000000 := by omega
            have hi2 : i ≤ 2000 := by omega
            have HD := Lib.hid hD
            clear hD
            by_cases hgt : 5000 < D
            · have hwD : IntKind.i64.wrap (D - 5000) = D - 5000 := IntWalk.i64_in _ (by omega)
              have hN1 := BK.new wr 53 #[.int .i64 5000, .int .i64 x0.turn, .int .i64 x0.rad, .int .i64 x0.wid, .int .i64 x0.sur]
              go_wp2_with (at_builtin; refine wpList_app rfl _ _ 22 rfl W3.heap.size 53 _ 5 40 Try.underlying22 infoP rfl (by decide) pC A2 n2 c2 _ rfl (hO9.alloc _) { x0 with len := 5000 } #[.int .i64 5000, .int .i64 x0.turn, .int .i64 x0.rad, .int .i64 x0.wid, .int .i64 x0.sur] rfl rfl 53 wr.heap.size rfl hN1 (by simp [pC, Value.oneCell']) (by omega) (by omega) (by simp; omega) ?_; intro g'' c'' w10 hap; have HAP := Lib.hid hap; clear hap)
              go_roundw
              case rel =>
                have hap := HAP.out
                have hfar := hap.far bx (by simp; omega) (fun b hb => hne9 b hb)
                have hD := HD.out
                refine ⟨i + 1, _, _, _, ?_, by omega, rfl, by omega, ?_, fun a ha => ?_, (hK9.alloc _).same hfar, (hb9.alloc hb9z _).trans hap.bel⟩
                · rw [hD]; congr 1; omega
                · rw [List.replicate_succ', ← List.append_assoc]; exact hap.own
                · cases ha
                  rcases hap.at_ with ⟨b, hb, rfl⟩ | hg
                  · exact hne9 b hb
                  · show g'' ≠ bx; simp at hg; omega
              case measure => simp [intOf]; omega
            · have hck : cutk S = i := by have := HD.out; unfold cutk; omega
              have hlast : Hid (cut (hs gl) = List.replicate i { x0 with len := 5000 } ++ [{ x0 with len := D }]) := by
                rw [hhs.out]; unfold cut
                show List.replicate (cutk S) _ ++ [{ x0 with len := S - 5000 * (cutk S : Int) }] = _
                rw [hck, HD.out]
              have hK10 := hK9.set_ 0 (.int .i64 D)
              have hN1 := BK.new (wr.setCell ⟨bx, 0, none⟩ (.int .i64 D)) 53 #[.int .i64 D, .int .i64 x0.turn, .int .i64 x0.rad, .int .i64 x0.wid, .int .i64 x0.sur]
              rw [World.size_setCell] at hN1
              have hO10 := hO9.setCell (p := ⟨bx, 0, none⟩) hne9 (.int .i64 D)
              go_wp2_with (at_builtin; refine wpList_app rfl _ _ 22 rfl W3.heap.size 53 _ 5 40 Try.underlying22 infoP rfl (by decide) pC A2 n2 c2 _ rfl (hO10.alloc _) { x0 with len := D } #[.int .i64 D, .int .i64 x0.turn, .int .i64 x0.rad, .int .i64 x0.wid, .int .i64 x0.sur] rfl rfl 53 wr.heap.size rfl hN1 (by simp [pC, Value.oneCell']) (by omega) (by omega) (by simp; omega) ?_; intro g'' c'' w10 hap; have HAP := Lib.hid hap; clear hap)
              go_roundw
              case rel =>
                have hap := HAP.out
                exact ⟨k + 1, _, _, _, by omega, by go_num, rfl, by rw [hnk.out, hlast.out, ← List.append_assoc]; exact hap.own, ((hb9.setCell hbx3 _).alloc (by simp; omega) _).trans hap.bel⟩
              case measure => simp [intOf]; omega
    · obtain rfl : k = n' := by omega
      have hall : Hid ((((gs.map (·.2)).take k).map hs).flatMap cut = normP ps) := by
        have h1 := hG.out.len
        rw [List.length_map] at h1
        rw [List.take_of_length_le (by rw [List.length_map]; omega), hGS.out, grp_mrg]
        exact rfl
      rw [hall.out] at hO
      go_wp2_with fail
      go_ret
      exact ⟨_, _, _, rfl, hO.drop0 hb3.size, onto hb3 hb hb3.size⟩
end Go.Proofs.Ytpiiaffkobddlaa
