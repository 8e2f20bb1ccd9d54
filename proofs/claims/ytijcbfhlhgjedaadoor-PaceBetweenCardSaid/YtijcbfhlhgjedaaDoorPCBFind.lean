/- The piece at a place: the binary search of the road package, and the reference's walk along the pieces. -/
import Derived.Test.YtijcbfhlhgjedaaDoorPCBMeasure
import Derived.Test.YtijcbfhlhgjedaaDoorPCBValid
namespace Go.Proofs.YtijcbfhlhgjedaaDoor
open Go.RowKit Go.Proofs

/-- Piece i lies at the place x. -/
def At (ps : List Piece) (x : Int) (i : Nat) : Prop := i < ps.length ∧ sumL (ps.take i) ≤ x ∧ x < sumL (ps.take (i + 1))
theorem sumL_mono {ps : List Piece} (h : ∀ p ∈ ps, pOk p = true) {i j : Nat} (hij : i ≤ j) : sumL (ps.take i) ≤ sumL (ps.take j) := by
  obtain ⟨d, rfl⟩ := Nat.exists_eq_add_of_le hij
  clear hij
  induction d with
  | zero => exact Int.le_refl _
  | succ d ih =>
    refine Int.le_trans ih ?_
    show sumL (ps.take (i + d)) ≤ sumL (ps.take (i + d + 1))
    rcases Nat.lt_or_ge (i + d) ps.length with hl | hl
    · rw [sumL_take ps _ hl]
      have := (pOk_len (h _ (List.getElem_mem hl))).1
      omega
    · rw [List.take_of_length_le hl, List.take_of_length_le (by omega)]
      exact Int.le_refl _
end Go.Proofs.YtijcbfhlhgjedaaDoor

/- road.Find and road.Length on a road that is as defined; Find and At of the reference. -/
namespace Go.Proofs.YtijcbfhlhgjedaaDoor
open Go.RowKit Go.Proofs

theorem OK.len {R : Road} (h : OK R) : 1 ≤ sumL R.ps ∧ sumL R.ps ≤ 100000 := by
  have := (sumL_bd R.ps h.pk).1
  have h1 := h.p1
  exact ⟨by omega, h.n1⟩
theorem Length_in (pa : Option Addr) (pn pc : Nat) (ca : Option Addr) (cn cc : Nat) (ja : Option Addr) (jn jc : Nat) (R : Road) (w : World)
    (h : RD w w.heap.size pa pn ca cn ja jn R) (hv : OK R) :
    Calls Tryd.prog 81 #[.agg #[.slice pa pn pc, .slice ca cn cc, .slice ja jn jc]] w fun e w' =>
      e = .returned (.tuple #[.int .i64 (sumL R.ps), .int .i64 0]) ∧ Below w.heap.size w w' := by
  have hpn : pn ≤ 2000 := by rw [h.p.1]; exact hv.p2
  have hc := Lib.hid (chk_ok hv)
  have hv' := Lib.hid hv
  have hR := Lib.hid h
  clear h hv
  have hW0 : Below w.heap.size w (w.alloc (.cells #[.slice pa pn pc, .slice ca cn cc, .slice ja jn jc] 26)) := (Below.refl w.heap.size w).alloc (Nat.le_refl _) _
  go_enter Tryd.func81, Tryd.ntmps81
  go_wp2_with fail
  refine (Check_any _ _ _ _ _ _ _ _ _ R _ (hR.out.grow hW0 hW0.size)).mono ?_
  rintro e w1 ⟨rfl, hb1'⟩
  rw [hc.out]
  have hB1 := onto hW0 hb1' hW0.size
  have d0 := (bc hb1' (b := w.heap.size) (o := 0) (by simp)).trans (show _ = some (.slice pa pn pc) by simp)
  have d1 := (bc hb1' (b := w.heap.size) (o := 1) (by simp)).trans (show _ = some (.slice ca cn cc) by simp)
  have d2 := (bc hb1' (b := w.heap.size) (o := 2) (by simp)).trans (show _ = some (.slice ja jn jc) by simp)
  go_wp2_with fail
  refine (measure_any _ _ _ _ _ _ _ _ _ R _ (hR.out.grow hB1 hB1.size) hv'.out.pk (by omega)).mono ?_
  rintro e w2 ⟨g, ba, bq, rfl, hM, hg, hb2⟩
  have hM' := Lib.hid hM
  have hB2 := onto hB1 hb2 hB1.size
  clear hM
  go_wp2_with fail
  refine (mlength_any g _ _ _ _ _ _ _ _ _ _ _ R _ _ hM'.out (by omega)).mono ?_
  rintro e w3 ⟨rfl, n, rfl⟩
  go_wp2_with fail
  go_ret2
  exact ⟨rfl, below_drewN hB2 _⟩
end Go.Proofs.YtijcbfhlhgjedaaDoor
