/- The piece at a place: the binary search of the road package, and the reference's walk along the pieces. -/
import Derived.Test.YtknjkcibkejieaaDoorCBMeasure
import Derived.Test.YtknjkcibkejieaaDoorCBCheck
import Derived.RangeFuncNested
import Derived.RangeFuncBound
import Derived.RangeFuncCalls
import Derived.RangeFuncLeaves
import Derived.Shelf.Abstract
import Derived.Shelf.RegionOpen
import Derived.OwnWalkIn
import Derived.TacticsInMore
import Derived.LoopNIn
import Derived.LoopIn
import Derived.BigRegionIn
import Derived.Test.YtknjkcibkejieaaDoorCBReg
import Derived.BigQuiet
namespace Go.Proofs.YtknjkcibkejieaaDoor
open Go.RowKit Go.Proofs

end Go.Proofs.YtknjkcibkejieaaDoor

/- road.Find and road.Length on a road that is as defined; Find and At of the reference. -/
namespace Go.Proofs.YtknjkcibkejieaaDoor
open Go.RowKit Go.Proofs

theorem OK.len {R : Road} (h : OK R) : 1 ≤ sumL R.ps ∧ sumL R.ps ≤ 100000 := by
  have := (sumL_bd R.ps h.pk).1
  have h1 := h.p1
  exact ⟨by omega, h.n1⟩
theorem Length_in (pa : Option Addr) (pn pc : Nat) (ca : Option Addr) (cn cc : Nat) (ja : Option Addr) (jn jc : Nat) (R : Road) (w : World)
    (h : RD w w.heap.size pa pn ca cn ja jn R) (hv : OK R) :
    Calls Tryd.prog 32 #[.agg #[.slice pa pn pc, .slice ca cn cc, .slice ja jn jc]] w fun e w' =>
      e = .returned (.tuple #[.int .i64 (sumL R.ps), .int .i64 0]) ∧ Below w.heap.size w w' := by
  have hpn : pn ≤ 2000 := by rw [h.p.1]; exact hv.p2
  have hc := Lib.hid (chk_ok hv)
  have hv' := Lib.hid hv
  have hR := Lib.hid h
  clear h hv
  have hW0 : Below w.heap.size w (w.alloc (.cells #[.slice pa pn pc, .slice ca cn cc, .slice ja jn jc] 41)) := (Below.refl w.heap.size w).alloc (Nat.le_refl _) _
  go_enter Tryd.func32, Tryd.ntmps32
  go_wp2_with fail
  refine (Check_any _ _ _ _ _ _ _ _ _ R _ (hR.out.grow hW0 hW0.size)).mono ?_
  rintro e w1 ⟨rfl, hb1'⟩
  rw [hc.out]
  have hB1 := onto hW0 hb1' hW0.size
  have d0 := (bc hb1' (b := w.heap.size) (o := 0) (by simp)).trans (show _ = some (.slice pa pn pc) by simp)
  have d1 := (bc hb1' (b := w.heap.size) (o := 1) (by simp)).trans (show _ = some (.slice ca cn cc) by simp)
  have d2 := (bc hb1' (b := w.heap.size) (o := 2) (by simp)).trans (show _ = some (.slice ja jn jc) by simp)
  go_wp2_with fail
  refine (measure_any _ _ _ _ _ _ _ _ _ R _ (hR.out.grow hB1 hB1.size) hv'.out.pk (by omega)).mono ?_
  rintro e w2 ⟨g, ba, bq, rfl, hM, hg, hb2⟩
  have hM' := Lib.hid hM
  have hB2 := onto hB1 hb2 hB1.size
  clear hM
  go_wp2_with fail
  refine (mlength_any g _ _ _ _ _ _ _ _ _ _ _ R _ _ hM'.out (by omega)).mono ?_
  rintro e w3 ⟨rfl, n, rfl⟩
  go_wp2_with fail
  go_ret2
  exact ⟨rfl, below_drewN hB2 _⟩
end Go.Proofs.YtknjkcibkejieaaDoor

/- The range over a road's pieces: what the iterator of a measured road hands to a loop's body, for every body that keeps old memory. -/
namespace Go.Proofs.YtknjkcibkejieaaDoor
open Go.RowKit Go.Shelf Go.Proofs

attribute [local go_sem] Oper.semAt_some

/-- The pieces with their beginnings. -/
def its : Int → List Piece → List (Int × Piece)
  | _, [] => []
  | b, p :: ps => (b, p) :: its (b + p.len) ps
/-- What a round must keep for the iterator: what lay below n0, and the box of the receiver. -/
def KB (n0 bm : Nat) (W W' : World) : Prop := Below n0 W W' ∧ W'.heap[bm]? = W.heap[bm]?
theorem KB.refl (n0 bm : Nat) (W : World) : KB n0 bm W W := ⟨Below.refl _ _, rfl⟩
theorem KB.t {n0 bm : Nat} {A B C : World} (h : KB n0 bm A B) (k : KB n0 bm B C) : KB n0 bm A C := ⟨h.1.trans k.1, k.2.trans h.2⟩
theorem KB.b {n0 bm : Nat} {w : World} (hn : n0 ≤ w.heap.size) (hm : bm < w.heap.size) (W : World) (l : Nat) (o o' : Obj) (hl : w.heap.size ≤ l) (h : W.heap[l]? = some o) (h1 : o.isCells = false) (h2 : o.isWalk = false) : KB n0 bm W (W.putObj l o') :=
  ⟨belowK_b hn W l o o' hl h h1 h2, World.putObj_heap_other (by omega)⟩
theorem KB.of_below {n0 bm B : Nat} {W W' : World} (h : Below B W W') (hn : n0 ≤ B) (hm : bm < B) : KB n0 bm W W' := ⟨h.mono hn, h.block _ hm⟩
theorem KB.setCell {n0 bm : Nat} {W W' : World} (h : KB n0 bm W W') {p : Addr} (h1 : n0 ≤ p.block) (h2 : p.block ≠ bm) (u : Value) : KB n0 bm W (W'.setCell p u) :=
  ⟨h.1.setCell h1 u, (Below.heap_setCell _ _ _ _ (Ne.symm h2)).trans h.2⟩
theorem KB.cell {n0 bm : Nat} {W W' : World} (h : KB n0 bm W W') {o : Nat} : W'.cell? ⟨bm, o, none⟩ = W.cell? ⟨bm, o, none⟩ := World.cell?_of_block h.2
end Go.Proofs.YtknjkcibkejieaaDoor

/- The turning up to a place: the plain function, and the road package's loop over its iterator. -/
namespace Go.Proofs.YtknjkcibkejieaaDoor
open Go.RowKit Go.Shelf Go.Sort Go.Proofs

attribute [local go_sem] Oper.semAt_some

/-- The turning up to the place x. -/
def upt : List Piece → Int → Int
  | [], _ => 0
  | p :: ps, x => if x ≤ 0 then 0 else trn p (min x p.len) + upt ps (x - p.len)
end Go.Proofs.YtknjkcibkejieaaDoor
