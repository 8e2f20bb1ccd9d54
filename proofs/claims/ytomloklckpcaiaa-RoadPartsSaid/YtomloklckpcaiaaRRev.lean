/- hairpinref01.Reverse, walked. -/
import Derived.Test.YtomloklckpcaiaaRPart
namespace Go.Proofs.Ytomloklckpcaiaa
open Go.RowKit Go.Shelf Go.Sort Go.Proofs

def mC (N : Int) (c : Crest) : Crest := ⟨N - c.pos, c.siz⟩
def mJ (N : Int) (c : Junc) : Junc := ⟨N - c.pos, c.arms, c.arms + 1 - c.way⟩

set_option maxRecDepth 100000 in
set_option maxHeartbeats 8000000 in
theorem rReverse_in (pa : Option Addr) (pn pc : Nat) (ca : Option Addr) (cn cc : Nat) (ja : Option Addr) (jn jc : Nat) (R : Road) (w : World)
    (h : RD w w.heap.size pa pn ca cn ja jn R) (hv : OK R) :
    Calls Try.prog 43 #[.agg #[.slice pa pn pc, .slice ca cn cc, .slice ja jn jc]] w fun e w' => ∃ A1 c1 A2 c2 A3 c3, e = .returned (.agg #[.slice A1 pn c1, .slice A2 cn c2, .slice A3 jn c3]) ∧
      (OW pC 5 52 w.heap.size w' A1 pn c1 (revR R).ps ∧ OW cC 2 87 w.heap.size w' A2 cn c2 (revR R).cs ∧ OW jC 3 89 w.heap.size w' A3 jn c3 (revR R).js) ∧ Below w.heap.size w w' := by
  have hR := Lib.hid h
  have hv' := Lib.hid hv
  have hpn : pn ≤ 2000 := by rw [h.p.1]; exact hv.p2
  have hcn : cn ≤ 1000 := by rw [h.c.1]; exact hv.c1
  have hjn : jn ≤ 200 := by rw [h.j.1]; exact hv.j1
  have HP := Lib.hid h.p.1
  have HC := Lib.hid h.c.1
  have HJ := Lib.hid h.j.1
  obtain ⟨N, hN⟩ : ∃ N, N = sumL R.ps := ⟨_, rfl⟩
  have HN := Lib.hid hN
  have hN1 : N ≤ 100000 := by rw [hN]; exact hv.n1
  have hN0 : 0 ≤ N := by have := sumL_bd R.ps hv.pk; omega
  clear h hv hN
  obtain ⟨V0, hV0⟩ : ∃ V0, V0 = ((w.alloc (.cells #[.slice pa pn pc, .slice ca cn cc, .slice ja jn jc] 26)).alloc (.cells #[.slice none 0 0, .slice none 0 0, .slice none 0 0] 26)).alloc (.cells #[.slice none 0 0, .slice none 0 0, .slice none 0 0] 26) := ⟨_, rfl⟩
  have hBV : Below w.heap.size w V0 := by rw [hV0]; exact (((Below.refl w.heap.size w).alloc (Nat.le_refl _) _).alloc (by simp) _).alloc (by simp <;> omega) _
  have hXV : BK V0 w.heap.size 26 #[.slice pa pn pc, .slice ca cn cc, .slice ja jn jc] := by rw [hV0]; exact ((BK.new w _ _).alloc _).alloc _
  have hZV : BK V0 (w.heap.size + 1) 26 #[.slice none 0 0, .slice none 0 0, .slice none 0 0] := by rw [hV0]; have := BK.new (w.alloc (.cells #[.slice pa pn pc, .slice ca cn cc, .slice ja jn jc] 26)) 26 #[.slice none 0 0, .slice none 0 0, .slice none 0 0]; rw [World.size_alloc] at this; exact this.alloc _
  have hUV : BK V0 (w.heap.size + 2) 26 #[.slice none 0 0, .slice none 0 0, .slice none 0 0] := by rw [hV0]; have := BK.new ((w.alloc (.cells #[.slice pa pn pc, .slice ca cn cc, .slice ja jn jc] 26)).alloc (.cells #[.slice none 0 0, .slice none 0 0, .slice none 0 0] 26)) 26 #[.slice none 0 0, .slice none 0 0, .slice none 0 0]; rw [World.size_alloc, World.size_alloc] at this; exact this
  go_enter Try.func43, Try.ntmps43
  go_wp2_with fail
  rw [← hV0]
  clear hV0
  refine (rLength_any pa pn pc ca cn cc ja jn jc R _ (hR.out.grow hBV hBV.size) hv'.out.pk (by omega)).mono ?_
  rintro e W0 ⟨rfl, hk0⟩
  rw [← HN.out]
  have hB0 := hBV.trans (hk0.mono hBV.size)
  have hX0 := hXV.below hk0 hXV.lt
  have hZ0 := hZV.below hk0 hZV.lt
  have hU0 := hUV.below hk0 hUV.lt
  have hz0 : w.heap.size + 2 < W0.heap.size := hU0.lt
  clear hBV hXV hZV hUV hk0
  have x0 := hX0.cell 0
  simp only [List.getElem?_toArray, List.getElem?_cons_zero] at x0
  have hwl : IntKind.i64.wrap ((pn : Int) - 1) = (pn : Int) - 1 := IntWalk.i64_in _ (by omega)
  go_wp2_with fail
  clear x0 hwl
  have hJ8 : JB 26 52 87 89 (w.heap.size + 3) W0 (w.heap.size + 2) none 0 0 [] none 0 0 [] none 0 0 [] := ⟨hU0, OW.nil_, OW.nil_, OW.nil_⟩
  have hb8 : Below (w.heap.size + 2) W0 W0 := Below.refl _ _
  go_loopw [5] (fun i wr => ∃ (k : Nat) (A1 : Option Addr) (c1 : Nat), k ≤ pn ∧ i = .int .i64 ((pn : Int) - 1 - k) ∧ JB 26 52 87 89 (w.heap.size + 3) wr (w.heap.size + 2) A1 k c1 ((R.ps.reverse.take k).map neg) none 0 0 [] none 0 0 [] ∧ Below (w.heap.size + 2) W0 wr)
    (fun i _ => (intOf i + 1).toNat)
  case atStart => exact ⟨0, none, 0, Nat.zero_le _, by congr 1 <;> omega, hJ8, hb8⟩
  case round =>
    obtain ⟨k, A1, c1, hk, rfl, hJ, hb⟩ := hrel
    have hsz := hb.size
    have hBw : Below w.heap.size w wr := hB0.trans (hb.mono (by omega))
    have hX := hX0.below hb (show w.heap.size < w.heap.size + 2 by omega)
    have x0 := hX.cell 0
    simp only [List.getElem?_toArray, List.getElem?_cons_zero] at x0
    by_cases hlt : k < pn
    · obtain ⟨m, hm⟩ : ∃ m : Nat, (pn : Int) - 1 - k = m := ⟨pn - 1 - k, by omega⟩
      have hml : m < R.ps.length := by rw [← HP.out]; omega
      have hrl : k < R.ps.reverse.length := by rw [List.length_reverse, ← HP.out]; exact hlt
      have hel : R.ps.reverse[k]'hrl = R.ps[m]'hml := by
        rw [List.getElem_reverse]
        congr 1
        rw [← HP.out]; omega
      obtain ⟨bb, off, hA, hbB, k0, k1, k2, k3, k4⟩ := PS.at_ (hR.out.p.grow hBw hBw.size) (k := m) hml
      have hqt := pOk_tOk (hv'.out.pk _ (List.getElem_mem hml))
      obtain ⟨L, hL⟩ : ∃ L, L = (R.ps.reverse.take k).map neg := ⟨_, rfl⟩
      rw [← hL] at hJ
      have hnew : Hid ((R.ps.reverse.take (k + 1)).map neg = L ++ [neg (R.ps[m]'hml)]) := by
        show _ = _
        rw [List.take_succ_eq_append_getElem hrl, List.map_append, ← hL, hel]
        rfl
      clear hL hel
      generalize R.ps[m]'hml = q at k0 k1 k2 k3 k4 hnew hqt
      have hw1 : IntKind.i64.wrap (-q.turn) = -q.turn := IntWalk.i64_in _ (by have := hqt.1; have := hqt.2.1; omega)
      clear hqt
      have hwm : IntKind.i64.wrap ((m : Int) - 1) = (m : Int) - 1 := IntWalk.i64_in _ (by omega)
      rw [hm]
      have bl := hJ.b.lt
      have hlA : ∀ a, A1 = some a → a.block < wr.heap.size := fun a ha => (hJ.p.lt ha).2
      have hi1 : (0 : Int) ≤ (m : Int) := by omega
      have hi2 : (m : Int) < (pn : Int) := by omega
      subst hA
      go_upto_region 8 with fail
      refine wp_wnamed (fun Wx hWx => ?_)
      have GX : BK Wx wr.heap.size 52 #[.int .i64 q.len, .int .i64 (-q.turn), .int .i64 q.rad, .int .i64 q.wid, .int .i64 q.sur] := by rw [hWx]; exact BK.new wr _ _
      have hbx : Below wr.heap.size wr Wx := by rw [hWx]; exact (Below.refl _ wr).alloc (Nat.le_refl _) _
      have hJx := hJ.call hbx
      clear hWx k0 k1 k2 k3 k4 hJ bl x0
      have g0 := GX.cell 0
      have g1 := GX.cell 1
      have g2 := GX.cell 2
      have g3 := GX.cell 3
      have g4 := GX.cell 4
      have gl := GX.lt
      simp only [List.getElem?_toArray, List.getElem?_cons_zero, List.getElem?_cons_succ] at g0 g1 g2 g3 g4
      have b0 := hJx.b.cell 0
      have bl := hJx.b.lt
      have hN1 := BK.new Wx 52 #[.int .i64 q.len, .int .i64 (-q.turn), .int .i64 q.rad, .int .i64 q.wid, .int .i64 q.sur]
      have hJa := hJx.alloc (.cells #[.int .i64 q.len, .int .i64 (-q.turn), .int .i64 q.rad, .int .i64 q.wid, .int .i64 q.sur] 52)
      have HFZ : Hid (∀ w3 g c'', App1 pC 5 52 (w.heap.size + 3) (Wx.alloc (.cells #[.int .i64 q.len, .int .i64 (-q.turn), .int .i64 q.rad, .int .i64 q.wid, .int .i64 q.sur] 52)) A1 k c1 L (neg q) g c'' w3 → w3.heap[w.heap.size + 2]? = (Wx.alloc (.cells #[.int .i64 q.len, .int .i64 (-q.turn), .int .i64 q.rad, .int .i64 q.wid, .int .i64 q.sur] 52)).heap[w.heap.size + 2]?) := by
        intro w3 g c'' hap
        exact hap.far _ hJa.b.lt (fun b hb => BK.ne_row (.inr ⟨_, hJa.b⟩) hJa.p (by decide) hb)
      have hzw := hbx.size
      simp only [List.getElem?_toArray, List.getElem?_cons_zero] at b0
      go_wp2_with (at_builtin; refine wpList_app rfl _ _ 22 rfl (w.heap.size + 3) 52 _ 5 40 Try.underlying22 infoP rfl (by decide) pC A1 k c1 L rfl hJa.p (neg q) #[.int .i64 q.len, .int .i64 (-q.turn), .int .i64 q.rad, .int .i64 q.wid, .int .i64 q.sur] rfl rfl 52 Wx.heap.size rfl hN1 (by simp [pC, Value.oneCell']) (by omega) (by omega) (by simp; omega) ?_; intro g' c'' w1 hap; have hw1 := HFZ.out _ _ _ hap; have hm1 := hJa.b.same hw1; have mf := hm1.frozen 0; have m0 := hm1.cell 0; have HAP := Lib.hid hap; clear hap)
      have hap := HAP.out
      have hJn := hJa.appP (by decide) (by decide) (by decide) (by decide) (by decide) hap
      have hba := (Below.refl Wx.heap.size Wx).alloc (Nat.le_refl _) (.cells #[.int .i64 q.len, .int .i64 (-q.turn), .int .i64 q.rad, .int .i64 q.wid, .int .i64 q.sur] 52)
      go_roundw
      case rel => exact ⟨k + 1, _, _, by omega, by congr 1 <;> omega, by rw [hnew.out]; exact hJn, ((hb.trans (hbx.mono (by omega))).trans ((hba.mono (by omega)).trans (hap.bel.mono (by omega)))).setCell (by simp) _⟩
      case measure => simp [intOf]
    · obtain rfl : k = pn := by omega
      have hall : Hid ((R.ps.reverse.take k).map neg = (revR R).ps) := by
        show _ = _
        rw [List.take_of_length_le (by rw [List.length_reverse, ← HP.out]; exact Nat.le_refl _)]
        exact (List.map_reverse ..)
      rw [hall.out] at hJ
      rw [show (k : Int) - 1 - k = -1 by omega]
      obtain ⟨pn, rfl⟩ : ∃ pn : Nat, pn = k := ⟨_, rfl⟩
      obtain ⟨W8, rfl⟩ : ∃ W8 : World, W8 = wr := ⟨_, rfl⟩
      have hb8 := hb
      have hJ8 := hJ
      have x1 := hX.cell 1
      simp only [List.getElem?_toArray, List.getElem?_cons_zero, List.getElem?_cons_succ] at x1
      have hwl : IntKind.i64.wrap ((cn : Int) - 1) = (cn : Int) - 1 := IntWalk.i64_in _ (by omega)
      clear hJ hb
      go_wp2_with fail
      clear hwl x1
      go_loopw [7] (fun i wr => ∃ (k : Nat) (A2 : Option Addr) (c2 : Nat), k ≤ cn ∧ i = .int .i64 ((cn : Int) - 1 - k) ∧ JB 26 52 87 89 (w.heap.size + 3) wr (w.heap.size + 2) A1 pn c1 (revR R).ps A2 k c2 ((R.cs.reverse.take k).map (mC N)) none 0 0 [] ∧ Below (w.heap.size + 2) W0 wr)
        (fun i _ => (intOf i + 1).toNat)
      case atStart => exact ⟨0, none, 0, Nat.zero_le _, by congr 1 <;> omega, hJ8, hb8⟩
      case round =>
        obtain ⟨k, A2, c2, hk, rfl, hJ, hb⟩ := hrel
        have hsz := hb.size
        have hBw : Below w.heap.size w wr := hB0.trans (hb.mono (by omega))
        have hX := hX0.below hb (show w.heap.size < w.heap.size + 2 by omega)
        have x0 := hX.cell 1
        simp only [List.getElem?_toArray, List.getElem?_cons_zero, List.getElem?_cons_succ] at x0
        by_cases hlt : k < cn
        · obtain ⟨m, hm⟩ : ∃ m : Nat, (cn : Int) - 1 - k = m := ⟨cn - 1 - k, by omega⟩
          have hml : m < R.cs.length := by rw [← HC.out]; omega
          have hrl : k < R.cs.reverse.length := by rw [List.length_reverse, ← HC.out]; exact hlt
          have hel : R.cs.reverse[k]'hrl = R.cs[m]'hml := by
            rw [List.getElem_reverse]
            congr 1
            rw [← HC.out]; omega
          obtain ⟨bb, off, hA, hbB, k0, k1⟩ := CS.at_ (hR.out.c.grow hBw hBw.size) (k := m) hml
          have hqt := (cbd hv'.out _ (List.getElem_mem hml)).1
          rw [← HN.out] at hqt
          obtain ⟨L, hL⟩ : ∃ L, L = (R.cs.reverse.take k).map (mC N) := ⟨_, rfl⟩
          rw [← hL] at hJ
          have hnew : Hid ((R.cs.reverse.take (k + 1)).map (mC N) = L ++ [(mC N) (R.cs[m]'hml)]) := by
            show _ = _
            rw [List.take_succ_eq_append_getElem hrl, List.map_append, ← hL, hel]
            rfl
          clear hL hel
          generalize R.cs[m]'hml = q at k0 k1 hnew hqt
          have hw1 : IntKind.i64.wrap (N - q.pos) = N - q.pos := IntWalk.i64_in _ (by omega)
          clear hqt
          have hwm : IntKind.i64.wrap ((m : Int) - 1) = (m : Int) - 1 := IntWalk.i64_in _ (by omega)
          rw [hm]
          have bl := hJ.b.lt
          have hlA : ∀ a, A2 = some a → a.block < wr.heap.size := fun a ha => (hJ.c.lt ha).2
          have hi1 : (0 : Int) ≤ (m : Int) := by omega
          have hi2 : (m : Int) < (cn : Int) := by omega
          subst hA
          go_upto_region 14 with fail
          refine wp_wnamed (fun Wx hWx => ?_)
          have GX : BK Wx wr.heap.size 87 #[.int .i64 (N - q.pos), .int .i64 q.siz] := by rw [hWx]; exact BK.new wr _ _
          have hbx : Below wr.heap.size wr Wx := by rw [hWx]; exact (Below.refl _ wr).alloc (Nat.le_refl _) _
          have hJx := hJ.call hbx
          clear hWx k0 k1 hJ bl x0
          have g0 := GX.cell 0
          have g1 := GX.cell 1
          have gl := GX.lt
          simp only [List.getElem?_toArray, List.getElem?_cons_zero, List.getElem?_cons_succ] at g0 g1
          have b1 := hJx.b.cell 1
          have bl := hJx.b.lt
          have hN1 := BK.new Wx 87 #[.int .i64 (N - q.pos), .int .i64 q.siz]
          have hJa := hJx.alloc (.cells #[.int .i64 (N - q.pos), .int .i64 q.siz] 87)
          have HFZ : Hid (∀ w3 g c'', App1 cC 2 87 (w.heap.size + 3) (Wx.alloc (.cells #[.int .i64 (N - q.pos), .int .i64 q.siz] 87)) A2 k c2 L (mC N q) g c'' w3 → w3.heap[w.heap.size + 2]? = (Wx.alloc (.cells #[.int .i64 (N - q.pos), .int .i64 q.siz] 87)).heap[w.heap.size + 2]?) := by
            intro w3 g c'' hap
            exact hap.far _ hJa.b.lt (fun b hb => BK.ne_row (.inr ⟨_, hJa.b⟩) hJa.c (by decide) hb)
          have hzw := hbx.size
          simp only [List.getElem?_toArray, List.getElem?_cons_zero, List.getElem?_cons_succ] at b1
          go_wp2_with (at_builtin; refine wpList_app rfl _ _ 23 rfl (w.heap.size + 3) 87 _ 2 16 Try.underlying23 infoC rfl (by decide) cC A2 k c2 L rfl hJa.c (mC N q) #[.int .i64 (N - q.pos), .int .i64 q.siz] rfl rfl 87 Wx.heap.size rfl hN1 (by simp [cC, Value.oneCell']) (by omega) (by omega) (by simp; omega) ?_; intro g' c'' w1 hap; have hw1 := HFZ.out _ _ _ hap; have hm1 := hJa.b.same hw1; have mf := hm1.frozen 1; have m1 := hm1.cell 1; have HAP := Lib.hid hap; clear hap)
          have hap := HAP.out
          have hJn := hJa.appC (by decide) (by decide) (by decide) (by decide) (by decide) hap
          have hba := (Below.refl Wx.heap.size Wx).alloc (Nat.le_refl _) (.cells #[.int .i64 (N - q.pos), .int .i64 q.siz] 87)
          go_roundw
          case rel => exact ⟨k + 1, _, _, by omega, by congr 1 <;> omega, by rw [hnew.out]; exact hJn, ((hb.trans (hbx.mono (by omega))).trans ((hba.mono (by omega)).trans (hap.bel.mono (by omega)))).setCell (by simp) _⟩
          case measure => simp [intOf]
        · obtain rfl : k = cn := by omega
          have hall : Hid ((R.cs.reverse.take k).map (mC N) = (revR R).cs) := by
            show _ = _
            rw [List.take_of_length_le (by rw [List.length_reverse, ← HC.out]; exact Nat.le_refl _)]
            rw [HN.out]
            exact (List.map_reverse ..)
          rw [hall.out] at hJ
          rw [show (k : Int) - 1 - k = -1 by omega]
          obtain ⟨cn, rfl⟩ : ∃ cn : Nat, cn = k := ⟨_, rfl⟩
          obtain ⟨W8, rfl⟩ : ∃ W8 : World, W8 = wr := ⟨_, rfl⟩
          have hb8 := hb
          have hJ8 := hJ
          have x1 := hX.cell 2
          simp only [List.getElem?_toArray, List.getElem?_cons_zero, List.getElem?_cons_succ] at x1
          have hwl : IntKind.i64.wrap ((jn : Int) - 1) = (jn : Int) - 1 := IntWalk.i64_in _ (by omega)
          clear hJ hb
          go_wp2_with fail
          clear hwl x1
          go_loopw [9] (fun i wr => ∃ (k : Nat) (A3 : Option Addr) (c3 : Nat), k ≤ jn ∧ i = .int .i64 ((jn : Int) - 1 - k) ∧ JB 26 52 87 89 (w.heap.size + 3) wr (w.heap.size + 2) A1 pn c1 (revR R).ps A2 cn c2 (revR R).cs A3 k c3 ((R.js.reverse.take k).map (mJ N)) ∧ Below (w.heap.size + 2) W0 wr)
            (fun i _ => (intOf i + 1).toNat)
          case atStart => exact ⟨0, none, 0, Nat.zero_le _, by congr 1 <;> omega, hJ8, hb8⟩
          case round =>
            obtain ⟨k, A3, c3, hk, rfl, hJ, hb⟩ := hrel
            have hsz := hb.size
            have hBw : Below w.heap.size w wr := hB0.trans (hb.mono (by omega))
            have hX := hX0.below hb (show w.heap.size < w.heap.size + 2 by omega)
            have x0 := hX.cell 2
            simp only [List.getElem?_toArray, List.getElem?_cons_zero, List.getElem?_cons_succ] at x0
            by_cases hlt : k < jn
            · obtain ⟨m, hm⟩ : ∃ m : Nat, (jn : Int) - 1 - k = m := ⟨jn - 1 - k, by omega⟩
              have hml : m < R.js.length := by rw [← HJ.out]; omega
              have hrl : k < R.js.reverse.length := by rw [List.length_reverse, ← HJ.out]; exact hlt
              have hel : R.js.reverse[k]'hrl = R.js[m]'hml := by
                rw [List.getElem_reverse]
                congr 1
                rw [← HJ.out]; omega
              obtain ⟨bb, off, hA, hbB, k0, k1, k2⟩ := JS.at_ (hR.out.j.grow hBw hBw.size) (k := m) hml
              have hqt := jbd hv'.out _ (List.getElem_mem hml)
              rw [← HN.out] at hqt
              obtain ⟨L, hL⟩ : ∃ L, L = (R.js.reverse.take k).map (mJ N) := ⟨_, rfl⟩
              rw [← hL] at hJ
              have hnew : Hid ((R.js.reverse.take (k + 1)).map (mJ N) = L ++ [(mJ N) (R.js[m]'hml)]) := by
                show _ = _
                rw [List.take_succ_eq_append_getElem hrl, List.map_append, ← hL, hel]
                rfl
              clear hL hel
              generalize R.js[m]'hml = q at k0 k1 k2 hnew hqt
              obtain ⟨hqa, hqb, hqc, hqd⟩ := hqt
              have hw1 : IntKind.i64.wrap (N - q.pos) = N - q.pos := IntWalk.i64_in _ (by omega)
              have hw2 : IntKind.i64.wrap (q.arms + 1) = q.arms + 1 := IntWalk.i64_in _ (by omega)
              have hw3 : IntKind.i64.wrap (q.arms + 1 - q.way) = q.arms + 1 - q.way := IntWalk.i64_in _ (by omega)
              clear hqa hqb hqc hqd
              have hwm : IntKind.i64.wrap ((m : Int) - 1) = (m : Int) - 1 := IntWalk.i64_in _ (by omega)
              rw [hm]
              have bl := hJ.b.lt
              have hlA : ∀ a, A3 = some a → a.block < wr.heap.size := fun a ha => (hJ.j.lt ha).2
              have hi1 : (0 : Int) ≤ (m : Int) := by omega
              have hi2 : (m : Int) < (jn : Int) := by omega
              subst hA
              go_upto_region 21 with fail
              refine wp_wnamed (fun Wx hWx => ?_)
              have GX : BK Wx wr.heap.size 89 #[.int .i64 (N - q.pos), .int .i64 q.arms, .int .i64 (q.arms + 1 - q.way)] := by rw [hWx]; exact BK.new wr _ _
              have hbx : Below wr.heap.size wr Wx := by rw [hWx]; exact (Below.refl _ wr).alloc (Nat.le_refl _) _
              have hJx := hJ.call hbx
              clear hWx k0 k1 k2 hJ bl x0
              have g0 := GX.cell 0
              have g1 := GX.cell 1
              have g2 := GX.cell 2
              have gl := GX.lt
              simp only [List.getElem?_toArray, List.getElem?_cons_zero, List.getElem?_cons_succ] at g0 g1 g2
              have b2 := hJx.b.cell 2
              have bl := hJx.b.lt
              have hN1 := BK.new Wx 89 #[.int .i64 (N - q.pos), .int .i64 q.arms, .int .i64 (q.arms + 1 - q.way)]
              have hJa := hJx.alloc (.cells #[.int .i64 (N - q.pos), .int .i64 q.arms, .int .i64 (q.arms + 1 - q.way)] 89)
              have HFZ : Hid (∀ w3 g c'', App1 jC 3 89 (w.heap.size + 3) (Wx.alloc (.cells #[.int .i64 (N - q.pos), .int .i64 q.arms, .int .i64 (q.arms + 1 - q.way)] 89)) A3 k c3 L (mJ N q) g c'' w3 → w3.heap[w.heap.size + 2]? = (Wx.alloc (.cells #[.int .i64 (N - q.pos), .int .i64 q.arms, .int .i64 (q.arms + 1 - q.way)] 89)).heap[w.heap.size + 2]?) := by
                intro w3 g c'' hap
                exact hap.far _ hJa.b.lt (fun b hb => BK.ne_row (.inr ⟨_, hJa.b⟩) hJa.j (by decide) hb)
              have hzw := hbx.size
              simp only [List.getElem?_toArray, List.getElem?_cons_zero, List.getElem?_cons_succ] at b2
              go_wp2_with (at_builtin; refine wpList_app rfl _ _ 24 rfl (w.heap.size + 3) 89 _ 3 24 Try.underlying24 infoJ rfl (by decide) jC A3 k c3 L rfl hJa.j (mJ N q) #[.int .i64 (N - q.pos), .int .i64 q.arms, .int .i64 (q.arms + 1 - q.way)] rfl rfl 89 Wx.heap.size rfl hN1 (by simp [jC, Value.oneCell']) (by omega) (by omega) (by simp; omega) ?_; intro g' c'' w1 hap; have hw1 := HFZ.out _ _ _ hap; have hm1 := hJa.b.same hw1; have mf := hm1.frozen 2; have m2 := hm1.cell 2; have HAP := Lib.hid hap; clear hap)
              have hap := HAP.out
              have hJn := hJa.appJ (by decide) (by decide) (by decide) (by decide) (by decide) hap
              have hba := (Below.refl Wx.heap.size Wx).alloc (Nat.le_refl _) (.cells #[.int .i64 (N - q.pos), .int .i64 q.arms, .int .i64 (q.arms + 1 - q.way)] 89)
              go_roundw
              case rel => exact ⟨k + 1, _, _, by omega, by congr 1 <;> omega, by rw [hnew.out]; exact hJn, ((hb.trans (hbx.mono (by omega))).trans ((hba.mono (by omega)).trans (hap.bel.mono (by omega)))).setCell (by simp) _⟩
              case measure => simp [intOf]
            · obtain rfl : k = jn := by omega
              have hall : Hid ((R.js.reverse.take k).map (mJ N) = (revR R).js) := by
                show _ = _
                rw [List.take_of_length_le (by rw [List.length_reverse, ← HJ.out]; exact Nat.le_refl _)]
                rw [HN.out]
                exact (List.map_reverse ..)
              rw [hall.out] at hJ
              rw [show (k : Int) - 1 - k = -1 by omega]
              have hZ := hZ0.below hb (show w.heap.size + 1 < w.heap.size + 2 by omega)
              have zf := hZ.frozen
              have zl := hZ.lt
              have z0 := hZ.cell 0
              have z1 := hZ.cell 1
              have z2 := hZ.cell 2
              have b0 := hJ.b.cell 0
              have b1 := hJ.b.cell 1
              have b2 := hJ.b.cell 2
              simp only [List.getElem?_toArray, List.getElem?_cons_zero, List.getElem?_cons_succ] at b0 b1 b2 z0 z1 z2
              have hP := hJ.p
              have hC := hJ.c
              have hQ := hJ.j
              have fP : ∀ a, A1 = some a → a.block ≠ w.heap.size + 1 := fun a ha => by have := (hP.lt ha).1; omega
              have fC : ∀ a, A2 = some a → a.block ≠ w.heap.size + 1 := fun a ha => by have := (hC.lt ha).1; omega
              have fQ : ∀ a, A3 = some a → a.block ≠ w.heap.size + 1 := fun a ha => by have := (hQ.lt ha).1; omega
              obtain ⟨WF, hWF⟩ : ∃ WF, WF = ((wr.setCell ⟨w.heap.size + 1, 0, none⟩ (.slice A1 pn c1)).setCell ⟨w.heap.size + 1, 1, none⟩ (.slice A2 cn c2)).setCell ⟨w.heap.size + 1, 2, none⟩ (.slice A3 k c3) := ⟨_, rfl⟩
              have hZF : BK WF (w.heap.size + 1) 26 #[.slice A1 pn c1, .slice A2 cn c2, .slice A3 k c3] := by rw [hWF]; exact ((hZ.set_ 0 _).set_ 1 _).set_ 2 _
              have FF : (OW pC 5 52 w.heap.size WF A1 pn c1 (revR R).ps ∧ OW cC 2 87 w.heap.size WF A2 cn c2 (revR R).cs ∧ OW jC 3 89 w.heap.size WF A3 k c3 (revR R).js) ∧ Below w.heap.size w WF := by
                rw [hWF]
                exact ⟨⟨(((hP.setCell fP _).setCell fP _).setCell fP _).drop0 (by omega), (((hC.setCell fC _).setCell fC _).setCell fC _).drop0 (by omega), (((hQ.setCell fQ _).setCell fQ _).setCell fQ _).drop0 (by omega)⟩, ((hBw.setCell (by simp) _).setCell (by simp) _).setCell (by simp) _⟩
              have HFF := Lib.hid FF
              clear FF hP hC hQ fP fC fQ hJ
              go_wp2_with fail
              rw [← hWF]
              have z0 := hZF.cell 0
              have z1 := hZF.cell 1
              have z2 := hZF.cell 2
              simp only [List.getElem?_toArray, List.getElem?_cons_zero, List.getElem?_cons_succ] at z0 z1 z2
              refine bodyPost_ret (v := .agg #[.slice A1 pn c1, .slice A2 cn c2, .slice A3 k c3]) (by simp [results, Try.results43, go_sem, z0, z1, z2]) rfl ⟨A1, c1, A2, c2, A3, c3, rfl, HFF.out⟩
end Go.Proofs.Ytomloklckpcaiaa
