/- Package score: the functions of an event, at a plan of one stage and plain cards: who runs, who has a real time, what it took, the total. Printed by genscf.py. -/
import Derived.Test.YtafclpmnpamipaaGreatQScE
namespace Go.Proofs.YtafclpmnpamipaaGreat
open Go.RowKit Go.Shelf Go.Sort Go.Proofs

/-- 0, 1, .., n - 1. -/
def rng (n : Nat) : List Int := (List.range n).map fun (i : Nat) => (i : Int)
theorem rng_succ (n : Nat) : rng (n + 1) = rng n ++ [(n : Int)] := by simp [rng, List.range_succ]
theorem rng_len (n : Nat) : (rng n).length = n := by simp [rng]
theorem rng_at {n k : Nat} (h : k < (rng n).length) : (rng n)[k] = (k : Int) := by simp [rng]
theorem EV.out {w : World} {B eb cn cc oc : Nat} {L : PlF} {ca oa : Option Addr} {xs : List CdV} (h : EV w B eb L ca cn cc oa oc xs) {k : Nat} (hk : k < cn) : ∃ b off, oa = some ⟨b, off, none⟩ ∧ b < B ∧ w.cell? ⟨b, off + k, none⟩ = some (.int .i64 (-1)) := by
  obtain ⟨b, off, e, hb, hc⟩ := IS.at_ h.o (k := k) (by simpa using hk)
  exact ⟨b, off, e, hb, by rw [hc]; simp⟩
theorem CDS.atx {w : World} {B cn : Nat} {ca : Option Addr} {xs : List CdV} (h : CDS w B ca cn xs) {k : Nat} {x : CdV} (hx : xs[k]? = some x) : ∃ b off, ca = some ⟨b, off, none⟩ ∧ b < B ∧ w.cell? ⟨b, off + k * 3, none⟩ = some (.int .i64 0) ∧
    w.cell? ⟨b, off + k * 3 + 1, none⟩ = some (.slice (some ⟨x.sb, 0, none⟩) 1 x.sc) ∧ w.cell? ⟨b, off + k * 3 + 2, none⟩ = some (.slice (some ⟨x.lb, 0, none⟩) 1 x.lc) ∧ CD w B x := by
  obtain ⟨hk, rfl⟩ := List.getElem?_eq_some_iff.1 hx
  exact h.at_ hk
theorem EV.klt {w : World} {B eb cn cc oc : Nat} {L : PlF} {ca oa : Option Addr} {xs : List CdV} (h : EV w B eb L ca cn cc oa oc xs) {k : Nat} {x : CdV} (hx : xs[k]? = some x) : (k : Int) < (cn : Int) := by
  have := (List.getElem?_eq_some_iff.1 hx).1
  have := h.c.s.1
  omega
theorem EV.len {w : World} {B eb cn cc oc : Nat} {L : PlF} {ca oa : Option Addr} {xs : List CdV} (h : EV w B eb L ca cn cc oa oc xs) : cn = xs.length := h.c.s.1
set_option maxRecDepth 100000 in
set_option maxHeartbeats 8000000 in
theorem scRuns {eb cn cc oc : Nat} {L : PlF} {ca oa : Option Addr} {xs : List CdV} (w : World) (h : EV w w.heap.size eb L ca cn cc oa oc xs) (k : Nat) (hk : k < cn) :
    Calls Tryz.prog 91 #[.pointer (some ⟨eb, 0, none⟩), .int .i64 k, .int .i64 0] w fun e w' => e = .returned (.bool true) ∧ w = w' := by
  obtain ⟨x0, x1, x2, x3, x4, x5, x6, x7, x8, x9, x10, x11, x12, x13, x14, x15⟩ := bk16 h.b
  obtain ⟨b, off, hA, hb, hc⟩ := h.out hk
  have hk1 : (0 : Int) ≤ (k : Int) := by omega
  have hk2 : (k : Int) < (cn : Int) := by omega
  clear h
  subst hA
  go_enter Tryz.func91, Tryz.ntmps91
  go_wp2_with fail
  go_ret
  exact ⟨rfl, rfl⟩
set_option maxRecDepth 100000 in
set_option maxHeartbeats 8000000 in
theorem scStage {eb cn cc oc : Nat} {L : PlF} {ca oa : Option Addr} {xs : List CdV} (w : World) (h : EV w w.heap.size eb L ca cn cc oa oc xs) :
    Calls Tryz.prog 39 #[.pointer (some ⟨eb, 0, none⟩), .int .i64 0] w fun e w' => e = .returned (.bool true) ∧ w = w' := by
  obtain ⟨x0, x1, x2, x3, x4, x5, x6, x7, x8, x9, x10, x11, x12, x13, x14, x15⟩ := bk16 h.b
  obtain ⟨i0, i1, i2, i3⟩ := h.p.it
  clear h
  go_enter Tryz.func39, Tryz.ntmps39
  go_wp2_with fail
  go_ret
  exact ⟨rfl, rfl⟩
set_option maxRecDepth 100000 in
set_option maxHeartbeats 8000000 in
theorem scTook {eb cn cc oc : Nat} {L : PlF} {ca oa : Option Addr} {xs : List CdV} (w : World) (h : EV w w.heap.size eb L ca cn cc oa oc xs) (k : Nat) (x : CdV) (hx : xs[k]? = some x) :
    Calls Tryz.prog 43 #[.pointer (some ⟨eb, 0, none⟩), .int .i64 k, .int .i64 0] w fun e w' => e = .returned (.int .i64 x.t) ∧ w = w' := by
  obtain ⟨x0, x1, x2, x3, x4, x5, x6, x7, x8, x9, x10, x11, x12, x13, x14, x15⟩ := bk16 h.b
  obtain ⟨b, off, hA, hbB, c0, c1, c2, hcd⟩ := h.c.atx hx
  have hk1 : (0 : Int) ≤ (k : Int) := by omega
  have hk2 : (k : Int) < (cn : Int) := h.klt hx
  obtain ⟨l0, l1, l2, l3⟩ := hcd.ln
  clear h hx hcd
  subst hA
  go_enter Tryz.func43, Tryz.ntmps43
  go_wp2_with fail
  go_ret
  exact ⟨rfl, rfl⟩
set_option maxRecDepth 100000 in
set_option maxHeartbeats 8000000 in
theorem scReal {eb cn cc oc : Nat} {L : PlF} {ca oa : Option Addr} {xs : List CdV} (w : World) (h : EV w w.heap.size eb L ca cn cc oa oc xs) (cl : Int) (hcl : cl = -1 ∨ cl = 0) (hn : cn ≤ 200) :
    Calls Tryz.prog 41 #[.pointer (some ⟨eb, 0, none⟩), .int .i64 0, .int .i64 cl] w fun e w' => ∃ A c, e = .returned (.slice A cn c) ∧ OW iC 1 3 w.heap.size w' A cn c (rng cn) ∧ Below w.heap.size w w' := by
  obtain ⟨x0, x1, x2, x3, x4, x5, x6, x7, x8, x9, x10, x11, x12, x13, x14, x15⟩ := bk16 h.b
  have HE := Lib.hid h
  have HL := Lib.hid h.len
  have heb := h.lt
  clear h
  go_enter Tryz.func41, Tryz.ntmps41
  go_wp2_with fail
  go_loopw [7, 15] (fun l i wr => ∃ (k : Nat) (A : Option Addr) (c : Nat), k ≤ cn ∧ i = .int .i64 k ∧ l = .slice A k c ∧ OW iC 1 3 w.heap.size wr A k c (rng k) ∧ Below w.heap.size w wr) (fun _ i _ => cn - (intOf i).toNat)
  case atStart => exact ⟨0, none, 0, Nat.zero_le _, rfl, rfl, OW.nil_, Below.refl _ _⟩
  case round =>
    obtain ⟨k, A, c, hk, rfl, rfl, hO, hbr⟩ := hrel
    by_cases hlt : k < cn
    · have hkl : k < xs.length := by rw [← HL.out]; exact hlt
      obtain ⟨b, off, hA, hbB, c0, c1, c2, hcd⟩ := (HE.out.grow hbr hbr.size).c.at_ (k := k) hkl
      generalize xs[k]'hkl = x at c1 c2 hcd
      obtain ⟨l0, l1, l2, l3⟩ := hcd.ln
      have hlb := hcd.l.1
      have hk1 : (0 : Int) ≤ (k : Int) := by omega
      have hk2 : (k : Int) < (cn : Int) := by omega
      have HO := Lib.hid hO
      have HBR := Lib.hid hbr
      clear hkl hcd hO hbr
      subst hA
      obtain ⟨w4, hw4⟩ : ∃ w4, w4 = wr.alloc (.cells #[.int .i64 0, .slice (some ⟨x.sb, 0, none⟩) 1 x.sc, .slice (some ⟨x.lb, 0, none⟩) 1 x.lc] 58) := ⟨_, rfl⟩
      have hb4 : Below wr.heap.size wr w4 := by rw [hw4]; exact (Below.refl _ wr).alloc (Nat.le_refl _) _
      have hO4 : OW iC 1 3 w.heap.size w4 A k c (rng k) := HO.out.call hb4
      have HB4 := Lib.hid (HBR.out.trans (hb4.mono HBR.out.size))
      have hz4 := HB4.out.size
      have HR := Lib.hid (scRuns w4 (HE.out.grow HB4.out HB4.out.size) k hlt)
      rw [hw4] at hO4 hz4 HR HB4
      clear hw4 hb4
      rcases hcl with rfl | rfl
      all_goals
        go_wp2_with (first
          | (go_at_call 91; refine HR.out.mono ?_; rintro e w' ⟨rfl, rfl⟩)
          | (at_builtin; refine wpList_app1 rfl _ _ 28 rfl w.heap.size 3 _ 1 8 Tryz.underlying28 infoEI rfl (by decide) iC _ A k c (rng k) rfl hO4 ((k : Int)) _ rfl rfl 3 _ rfl (by simp) (by simp [iC, Value.oneCell']) (by omega) (by omega) (by omega) ?_; intro g c' w6 hown6 hbl6 hfar6 hlt6))
        go_roundw
        case rel => exact ⟨k + 1, _, c', by omega, by go_num, rfl, by rw [rng_succ]; exact hown6, HB4.out.trans hbl6⟩
        case measure => simp [intOf]; omega
    · obtain rfl : k = cn := by omega
      go_wp2_with fail
      go_ret
      exact ⟨A, c, rfl, hO, hbr⟩
end Go.Proofs.YtafclpmnpamipaaGreat
