/- Package score: the real times of cars in increasing order. Printed by genscu.py. -/
import Derived.Test.YtafclpmnpamipaaGreatQSo
import Derived.Test.YtafclpmnpamipaaGreatQScG
import Derived.Sort.OwnSortedInts
namespace Go.Proofs.YtafclpmnpamipaaGreat
open Go.RowKit Go.Shelf Go.Sort Go.Proofs

theorem flat_iC2 : ∀ l : List Int, l.flatMap iC = l.map (Value.int .i64)
  | [] => rfl
  | x :: l => by rw [List.flatMap_cons, flat_iC2 l]; rfl
def srtL (l : List Int) : List Int := l.mergeSort fun x y => decide (x ≤ y)
theorem srtL_len (l : List Int) : (srtL l).length = l.length := List.length_mergeSort l
set_option maxRecDepth 100000 in
set_option maxHeartbeats 8000000 in
theorem sortInts (base blk n c : Nat) (zs : List Int) (w : World) (hO : OW iC 1 3 base w (some ⟨blk, 0, none⟩) n c zs) (hn : n ≤ 1000) :
    Calls Tryz.prog 100 #[.slice (some ⟨blk, 0, none⟩) n c] w fun e w' => e = .returned (.tuple #[]) ∧ OW iC 1 3 base w' (some ⟨blk, 0, none⟩) n c (srtL zs) ∧ w.grownBy w' (some blk) := by
  have hnl := hO.2
  rcases hO.1.2 with ⟨h3, _⟩ | ⟨g, cap, cur, h3, hbg, hg, hnc, hcm, hcs, htk⟩
  · cases h3
  have e3 : (⟨blk, 0, none⟩ : Addr) = ⟨g, 0, none⟩ ∧ c = cap := by injection h3 with q1 q2 q3; injection q1 with q1; exact ⟨q1, q3⟩
  obtain ⟨e3, rfl⟩ := e3
  obtain rfl : blk = g := by injection e3
  have hH : Holds (Value.int .i64) w blk 0 zs.toArray := holds_of_blockI hg (by rw [flat_iC2, Nat.mul_one, hnl] at htk; exact htk)
  have hcon := srt_slices_Sort_int blk 0 c zs w hH (Array.getElem?_eq_some_iff.1 hg).1 (by omega)
  rw [← hnl] at hcon
  refine hcon.mono ?_
  rintro e w' ⟨rfl, q, os, rfl⟩
  refine ⟨rfl, ⟨?_, by rw [srtL_len]; exact hnl⟩, grownBy_sortedI _⟩
  have hr := ownsRow_sortedI (w := w) (base := base) (g := blk) (cap := c) (n := q) (e := 3) (os := os) (cur := cur) (ss := zs) (ts := srtL zs) (srtL_len zs) hbg hg (by rw [← hnl]; exact hnc) hcm hcs
  rw [← hnl] at hr
  rw [flat_iC2]
  exact hr
set_option maxRecDepth 100000 in
set_option maxHeartbeats 8000000 in
theorem scSorted {eb cn cc oc : Nat} {L : PlF} {ca oa : Option Addr} {xs : List CdV} (w : World) (h : EV w w.heap.size eb L ca cn cc oa oc xs) (A : Option Addr) (c : Nat) (hR : SL iC 1 w w.heap.size A cn (rng cn)) (hn : cn ≤ 200) (hc0 : 0 < cn) :
    Calls Tryz.prog 44 #[.pointer (some ⟨eb, 0, none⟩), .slice A cn c, .int .i64 0] w fun e w' => ∃ g c', e = .returned (.slice (some ⟨g, 0, none⟩) cn c') ∧ OW iC 1 3 w.heap.size w' (some ⟨g, 0, none⟩) cn c' (srtL (xs.map (·.t))) ∧ Below w.heap.size w w' := by
  have HE := Lib.hid h
  have HL := Lib.hid h.len
  have HR := Lib.hid hR
  clear h hR
  go_enter Tryz.func44, Tryz.ntmps44
  go_wp2_with fail
  go_loopw [7, 12] (fun l i wr => ∃ (k : Nat) (B : Option Addr) (c : Nat), k ≤ cn ∧ i = .int .i64 k ∧ l = .slice B k c ∧ OW iC 1 3 w.heap.size wr B k c ((xs.map (·.t)).take k) ∧ Below w.heap.size w wr) (fun _ i _ => cn - (intOf i).toNat)
  case atStart => exact ⟨0, none, 0, Nat.zero_le _, rfl, rfl, OW.nil_, Below.refl _ _⟩
  case round =>
    obtain ⟨k, B, c2, hk, rfl, rfl, hO, hbr⟩ := hrel
    by_cases hlt : k < cn
    · obtain ⟨b, off, hA, hbB, c0⟩ := IS.at_ (HR.out.grow hbr hbr.size) (k := k) (by rw [rng_len]; exact hlt)
      rw [rng_at] at c0
      have hkl : k < xs.length := by rw [← HL.out]; exact hlt
      obtain ⟨x, hx⟩ : ∃ x, xs[k]? = some x := ⟨_, List.getElem?_eq_getElem hkl⟩
      have hst : Hid ((xs.map (·.t)).take (k + 1) = (xs.map (·.t)).take k ++ [x.t]) := by
        show _ = _
        rw [List.take_add_one, List.getElem?_map, hx]
        rfl
      have hk1 : (0 : Int) ≤ (k : Int) := by omega
      have hk2 : (k : Int) < (cn : Int) := by omega
      have HT := Lib.hid (scTook wr (HE.out.grow hbr hbr.size) k x hx)
      have HBR := Lib.hid hbr
      have hbs := hbr.size
      clear hkl hx hbr
      subst hA
      go_wp2_with (first
        | (go_at_call 43; refine HT.out.mono ?_; rintro e w' ⟨rfl, rfl⟩)
        | (at_builtin; refine wpList_app1 rfl _ _ 28 rfl w.heap.size 3 _ 1 8 Tryz.underlying28 infoEI rfl (by decide) iC _ B k c2 ((xs.map (·.t)).take k) rfl hO (x.t) _ rfl rfl 3 _ rfl (by first | rfl | simp) (by simp [iC, Value.oneCell']) (by omega) (by omega) (by omega) ?_; intro g c' w6 hown6 hbl6 hfar6 hlt6))
      go_roundw
      case rel => exact ⟨k + 1, _, c', by omega, by go_num, rfl, by rw [hst.out]; exact hown6, HBR.out.trans hbl6⟩
      case measure => simp [intOf]; omega
    · obtain rfl : k = cn := by omega
      cases B with
      | none => have := hO.none_.1; omega
      | some gg =>
      obtain ⟨b, rfl, _⟩ := hO.at_ iC_len gg rfl
      have hall : (xs.map (·.t)).take k = xs.map (·.t) := List.take_of_length_le (by rw [List.length_map, ← HL.out]; exact Nat.le_refl _)
      rw [hall] at hO
      have HS := Lib.hid (sortInts w.heap.size b k c2 _ wr hO (by omega))
      have hlt2 := (hO.lt rfl).1
      clear hO hall
      go_wp2_with fail
      refine HS.out.mono ?_
      rintro e w2 ⟨rfl, hO2, hg2⟩
      go_wp2_with fail
      go_ret
      exact ⟨b, c2, rfl, hO2, hbr.trans ⟨hg2.os, hg2.tape, hg2.output, hg2.size, fun q hq => hg2.block q (by have := hbr.size; omega) (by intro e; injection e with e; omega)⟩⟩
end Go.Proofs.YtafclpmnpamipaaGreat
