/- bounded: a road that is not too long, or the error. -/
import Derived.Test.YtijcbfhlhgjedaaDoorCAll
import Derived.Test.YtijcbfhlhgjedaaDoorDRevR
namespace Go.Proofs.YtijcbfhlhgjedaaDoor
open Go.RowKit Go.Shelf Go.Sort Go.Proofs

def fitsR (R : Road) : Bool := decide (R.ps.length ≤ 2000) && (decide (R.cs.length ≤ 1000) && (decide (R.js.length ≤ 200) && decide (sumL R.ps ≤ 100000)))
/-- What bounded gives. -/
def boundV (pa : Option Addr) (pn pc : Nat) (ca : Option Addr) (cn cc : Nat) (ja : Option Addr) (jn jc : Nat) (R : Road) : Value :=
  if fitsR R = true then .tuple #[.agg #[.slice pa pn pc, .slice ca cn cc, .slice ja jn jc], .int .i64 0] else .tuple #[.agg #[.slice none 0 0, .slice none 0 0, .slice none 0 0], .int .i64 4]
set_option maxRecDepth 100000 in
theorem bounded_any (pa : Option Addr) (pn pc : Nat) (ca : Option Addr) (cn cc : Nat) (ja : Option Addr) (jn jc : Nat) (R : Road) (w : World)
    (h : RD w w.heap.size pa pn ca cn ja jn R) (hk : ∀ p ∈ R.ps, pOk p = true) (hl : pn ≤ 20000) :
    Calls Tryd.prog 102 #[.agg #[.slice pa pn pc, .slice ca cn cc, .slice ja jn jc]] w fun e w' => e = .returned (boundV pa pn pc ca cn cc ja jn jc R) ∧ Below w.heap.size w w' := by
  have hR := Lib.hid h
  have hk' := Lib.hid hk
  have hS := sumL_bd R.ps hk
  have hfit : fitsR R = (decide (pn ≤ 2000) && (decide (cn ≤ 1000) && (decide (jn ≤ 200) && decide (sumL R.ps ≤ 100000)))) := by rw [fitsR, h.p.1, h.c.1, h.j.1]
  have hpe := h.p.1
  obtain ⟨S, hSe⟩ : ∃ S, S = sumL R.ps := ⟨_, rfl⟩
  have HS := Lib.hid hSe
  rw [← hSe] at hS hfit
  obtain ⟨s1, s2⟩ : 0 ≤ S ∧ S ≤ 100000000 := by omega
  clear h hk hSe hS hpe
  obtain ⟨w0, hw0⟩ : ∃ w0, w0 = (w.alloc (.cells #[.slice pa pn pc, .slice ca cn cc, .slice ja jn jc] 26)).alloc (.cells #[.slice none 0 0, .slice none 0 0, .slice none 0 0] 26) := ⟨_, rfl⟩
  have hB0 : Below w.heap.size w w0 := by rw [hw0]; exact ((Below.refl w.heap.size w).alloc (Nat.le_refl _) _).alloc (by simp) _
  have hX0 : BK w0 w.heap.size 26 #[.slice pa pn pc, .slice ca cn cc, .slice ja jn jc] := by rw [hw0]; exact (BK.new w _ _).alloc _
  have hY0 : BK w0 (w.heap.size + 1) 26 #[.slice none 0 0, .slice none 0 0, .slice none 0 0] := by rw [hw0]; have := BK.new (w.alloc (.cells #[.slice pa pn pc, .slice ca cn cc, .slice ja jn jc] 26)) 26 #[.slice none 0 0, .slice none 0 0, .slice none 0 0]; rw [World.size_alloc] at this; exact this
  have hB0' : Hid (Below w.heap.size w ((w.alloc (.cells #[.slice pa pn pc, .slice ca cn cc, .slice ja jn jc] 26)).alloc (.cells #[.slice none 0 0, .slice none 0 0, .slice none 0 0] 26))) := hw0 ▸ hB0
  by_cases g1 : pn ≤ 2000
  · by_cases g2 : cn ≤ 1000
    · by_cases g3 : jn ≤ 200
      · have hfit' : Hid (fitsR R = decide (S ≤ 100000)) := by show _ = _; simpa [g1, g2, g3] using hfit
        clear hfit
        go_enter Tryd.func102, Tryd.ntmps102
        go_wp2_with fail
        rw [← hw0]
        clear hw0 hB0'
        refine (measure_any _ _ _ _ _ _ _ _ _ R _ (hR.out.grow hB0 hB0.size) hk'.out (by omega)).mono ?_
        rintro e w2 ⟨g, ba, bq, rfl, hM, hg, hk1⟩
        have hB2 := hB0.trans (hk1.mono hB0.size)
        have hX2 := hX0.below hk1 hX0.lt
        have hY2 := hY0.below hk1 hY0.lt
        clear hB0 hX0 hY0
        go_wp2_with fail
        refine (mlength_any _ _ _ _ _ _ _ _ _ _ _ _ R _ _ hM (by omega)).mono ?_
        rintro e w3' ⟨rfl, nd, hw3⟩
        obtain ⟨w3, hw3e⟩ : ∃ w3, w3 = w3' := ⟨_, rfl⟩
        rw [← hw3e] at hw3 ⊢
        have hk2 : Below w2.heap.size w2 w3 := by rw [hw3]; exact below_drewN (Below.refl _ _) _
        clear hw3 hw3e hM
        rw [← HS.out]
        have hB3 := hB2.trans (hk2.mono hB2.size)
        have hX3 := hX2.below hk2 hX2.lt
        have hY3 := hY2.below hk2 hY2.lt
        have hz3 : w.heap.size + 1 < w3.heap.size := hY3.lt
        have x0 := hX3.cell 0
        have x1 := hX3.cell 1
        have x2 := hX3.cell 2
        have yf := hY3.frozen
        have y0 := hY3.cell 0
        have y1 := hY3.cell 1
        have y2 := hY3.cell 2
        simp only [List.getElem?_toArray, List.getElem?_cons_zero, List.getElem?_cons_succ] at x0 x1 x2 y0 y1 y2
        clear hk1 hk2 hB2 hX2 hY2
        by_cases hle : S ≤ 100000
        · have hV : Hid (boundV pa pn pc ca cn cc ja jn jc R = .tuple #[.agg #[.slice pa pn pc, .slice ca cn cc, .slice ja jn jc], .int .i64 0]) := by
            unfold boundV; rw [hfit'.out, if_pos (by simpa using hle)]; exact rfl
          go_wp2_with fail
          have hYF := ((hY3.set_ 0 (.slice pa pn pc)).set_ 1 (.slice ca cn cc)).set_ 2 (.slice ja jn jc)
          have hBF := ((hB3.setCell (p := ⟨w.heap.size + 1, 0, none⟩) (by simp) (.slice pa pn pc)).setCell (p := ⟨w.heap.size + 1, 1, none⟩) (by simp) (.slice ca cn cc)).setCell (p := ⟨w.heap.size + 1, 2, none⟩) (by simp) (.slice ja jn jc)
          obtain ⟨wF, hwF⟩ : ∃ wF, wF = ((w3.setCell ⟨w.heap.size + 1, 0, none⟩ (.slice pa pn pc)).setCell ⟨w.heap.size + 1, 1, none⟩ (.slice ca cn cc)).setCell ⟨w.heap.size + 1, 2, none⟩ (.slice ja jn jc) := ⟨_, rfl⟩
          rw [← hwF] at hYF hBF ⊢
          clear hwF
          have z0 := hYF.cell 0
          have z1 := hYF.cell 1
          have z2 := hYF.cell 2
          simp at z0 z1 z2
          refine bodyPost_ret (v := .tuple #[.agg #[.slice pa pn pc, .slice ca cn cc, .slice ja jn jc], .int .i64 0]) (by simp [results, Tryd.results102, go_sem, z0, z1, z2]) rfl ⟨by rw [hV.out], hBF⟩
        · have hV : Hid (boundV pa pn pc ca cn cc ja jn jc R = .tuple #[.agg #[.slice none 0 0, .slice none 0 0, .slice none 0 0], .int .i64 4]) := by
            unfold boundV; rw [hfit'.out, if_neg (by simpa using hle)]; exact rfl
          go_wp2_with fail
          have hYF := ((hY3.set_ 0 (.slice none 0 0)).set_ 1 (.slice none 0 0)).set_ 2 (.slice none 0 0)
          have hBF := ((hB3.setCell (p := ⟨w.heap.size + 1, 0, none⟩) (by simp) (.slice none 0 0)).setCell (p := ⟨w.heap.size + 1, 1, none⟩) (by simp) (.slice none 0 0)).setCell (p := ⟨w.heap.size + 1, 2, none⟩) (by simp) (.slice none 0 0)
          obtain ⟨wF, hwF⟩ : ∃ wF, wF = ((w3.setCell ⟨w.heap.size + 1, 0, none⟩ (.slice none 0 0)).setCell ⟨w.heap.size + 1, 1, none⟩ (.slice none 0 0)).setCell ⟨w.heap.size + 1, 2, none⟩ (.slice none 0 0) := ⟨_, rfl⟩
          rw [← hwF] at hYF hBF ⊢
          clear hwF
          have z0 := hYF.cell 0
          have z1 := hYF.cell 1
          have z2 := hYF.cell 2
          simp at z0 z1 z2
          refine bodyPost_ret (v := .tuple #[.agg #[.slice none 0 0, .slice none 0 0, .slice none 0 0], .int .i64 4]) (by simp [results, Tryd.results102, go_sem, z0, z1, z2]) rfl ⟨by rw [hV.out], hBF⟩
      · have hV : Hid (boundV pa pn pc ca cn cc ja jn jc R = .tuple #[.agg #[.slice none 0 0, .slice none 0 0, .slice none 0 0], .int .i64 4]) := by
          unfold boundV; rw [hfit, if_neg (by simp [g3])]; exact rfl
        clear hfit hw0 hB0 hX0 hY0
        go_enter Tryd.func102, Tryd.ntmps102
        have q0 : ¬ (2000 : Int) < pn := by omega
        have q1 : ¬ (1000 : Int) < cn := by omega
        have q2 : (200 : Int) < jn := by omega
        clear g1 g2 g3
        go_wp2_with fail
        refine bodyPost_ret (v := .tuple #[.agg #[.slice none 0 0, .slice none 0 0, .slice none 0 0], .int .i64 4]) (by simp [results, Tryd.results102, go_sem]) rfl ⟨by rw [hV.out], hB0'.out⟩
    · have hV : Hid (boundV pa pn pc ca cn cc ja jn jc R = .tuple #[.agg #[.slice none 0 0, .slice none 0 0, .slice none 0 0], .int .i64 4]) := by
        unfold boundV; rw [hfit, if_neg (by simp [g2])]; exact rfl
      clear hfit hw0 hB0 hX0 hY0
      go_enter Tryd.func102, Tryd.ntmps102
      have q0 : ¬ (2000 : Int) < pn := by omega
      have q1 : (1000 : Int) < cn := by omega
      clear g1 g2
      go_wp2_with fail
      refine bodyPost_ret (v := .tuple #[.agg #[.slice none 0 0, .slice none 0 0, .slice none 0 0], .int .i64 4]) (by simp [results, Tryd.results102, go_sem]) rfl ⟨by rw [hV.out], hB0'.out⟩
  · have hV : Hid (boundV pa pn pc ca cn cc ja jn jc R = .tuple #[.agg #[.slice none 0 0, .slice none 0 0, .slice none 0 0], .int .i64 4]) := by
      unfold boundV; rw [hfit, if_neg (by simp [g1])]; exact rfl
    clear hfit hw0 hB0 hX0 hY0
    go_enter Tryd.func102, Tryd.ntmps102
    have q0 : (2000 : Int) < pn := by omega
    clear g1
    go_wp2_with fail
    refine bodyPost_ret (v := .tuple #[.agg #[.slice none 0 0, .slice none 0 0, .slice none 0 0], .int .i64 4]) (by simp [results, Tryd.results102, go_sem]) rfl ⟨by rw [hV.out], hB0'.out⟩
end Go.Proofs.YtijcbfhlhgjedaaDoor
