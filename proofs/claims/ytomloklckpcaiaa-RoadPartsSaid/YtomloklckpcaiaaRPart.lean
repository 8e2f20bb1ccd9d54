/- hairpinref01.Part, walked. -/
import Derived.Test.YtomloklckpcaiaaJoinM
import Derived.Test.YtomloklckpcaiaaJoin
namespace Go.Proofs.Ytomloklckpcaiaa
open Go.RowKit Go.Shelf Go.Sort Go.Proofs

/-- What of a piece lies between two places. -/
def prt (f t : Int) (e : Int × Piece) : Option Piece := if max f e.1 < min t (e.1 + e.2.len) then some { e.2 with len := min t (e.1 + e.2.len) - max f e.1 } else none
def prtC (f t : Int) (c : Crest) : Option Crest := if inR c.pos f t = true then some ⟨c.pos - f, c.siz⟩ else none
def prtJ (f t : Int) (c : Junc) : Option Junc := if inR c.pos f t = true then some ⟨c.pos - f, c.arms, c.way⟩ else none
def partR (f t : Int) (R : Road) : Road := ⟨(its 0 R.ps).filterMap (prt f t), R.cs.filterMap (prtC f t), R.js.filterMap (prtJ f t)⟩
theorem fm_snoc {α β : Type} (g : α → Option β) (l : List α) (x : α) : (l ++ [x]).filterMap g = l.filterMap g ++ (g x).toList := by
  rw [List.filterMap_append]
  congr 1
/-- A store elsewhere. -/
theorem JB.off {tR tP tC tJ : TypeId} {base : Nat} {w : World} {tb : Nat} {A1 : Option Addr} {n1 c1 : Nat} {ps : List Piece} {A2 : Option Addr} {n2 c2 : Nat} {cs : List Crest} {A3 : Option Addr} {n3 c3 : Nat} {js : List Junc}
    (h : JB tR tP tC tJ base w tb A1 n1 c1 ps A2 n2 c2 cs A3 n3 c3 js) {p : Addr} (hb : tb ≠ p.block) (h1 : ∀ a, A1 = some a → a.block ≠ p.block) (h2 : ∀ a, A2 = some a → a.block ≠ p.block) (h3 : ∀ a, A3 = some a → a.block ≠ p.block) (v : Value) :
    JB tR tP tC tJ base (w.setCell p v) tb A1 n1 c1 ps A2 n2 c2 cs A3 n3 c3 js :=
  ⟨h.b.far hb v, h.p.setCell h1 v, h.c.setCell h2 v, h.j.setCell h3 v⟩

theorem wpCalls_wnamed {P : Program} {f : FuncId} {args : Array Value} {w : World} {Φ : Ending → World → Prop} (h : ∀ W, W = w → Calls P f args W Φ) : Calls P f args w Φ := h w rfl
set_option maxRecDepth 100000 in
set_option maxHeartbeats 8000000 in
theorem rPart_in (f t : Int) (pa : Option Addr) (pn pc : Nat) (ca : Option Addr) (cn cc : Nat) (ja : Option Addr) (jn jc : Nat) (R : Road) (w : World)
    (h : RD w w.heap.size pa pn ca cn ja jn R) (hv : OK R) (hf0 : -1000000000 ≤ f) (hf1 : f ≤ 1000000000) (ht0 : -1000000000 ≤ t) (ht1 : t ≤ 1000000000) :
    Calls Try.prog 45 #[.agg #[.slice pa pn pc, .slice ca cn cc, .slice ja jn jc], .int .i64 f, .int .i64 t] w fun e w' => ∃ A1 n1 c1 A2 n2 c2 A3 n3 c3, e = .returned (.agg #[.slice A1 n1 c1, .slice A2 n2 c2, .slice A3 n3 c3]) ∧
      (OW pC 5 52 w.heap.size w' A1 n1 c1 (partR f t R).ps ∧ OW cC 2 87 w.heap.size w' A2 n2 c2 (partR f t R).cs ∧ OW jC 3 89 w.heap.size w' A3 n3 c3 (partR f t R).js) ∧ Below w.heap.size w w' := by
  have hR := Lib.hid h
  have hv' := Lib.hid hv
  have hmo : Try.prog.follows .mixedOrders = true := by kernel_rfl
  have hpn : pn ≤ 2000 := by rw [h.p.1]; exact hv.p2
  have hcn : cn ≤ 1000 := by rw [h.c.1]; exact hv.c1
  have hjn : jn ≤ 200 := by rw [h.j.1]; exact hv.j1
  have HP := Lib.hid h.p.1
  have HC := Lib.hid h.c.1
  have HJ := Lib.hid h.j.1
  have hk' := Lib.hid hv.pk
  clear h hv
  obtain ⟨W0, hW0⟩ : ∃ W0, W0 = ((w.alloc (.cells #[.slice pa pn pc, .slice ca cn cc, .slice ja jn jc] 26)).alloc (.cells #[.slice none 0 0, .slice none 0 0, .slice none 0 0] 26)).alloc (.cells #[.slice none 0 0, .slice none 0 0, .slice none 0 0] 26) := ⟨_, rfl⟩
  have hB0 : Below w.heap.size w W0 := by rw [hW0]; exact (((Below.refl w.heap.size w).alloc (Nat.le_refl _) _).alloc (by simp) _).alloc (by simp <;> omega) _
  have hX0 : BK W0 w.heap.size 26 #[.slice pa pn pc, .slice ca cn cc, .slice ja jn jc] := by rw [hW0]; exact ((BK.new w _ _).alloc _).alloc _
  have hZ0 : BK W0 (w.heap.size + 1) 26 #[.slice none 0 0, .slice none 0 0, .slice none 0 0] := by rw [hW0]; have := BK.new (w.alloc (.cells #[.slice pa pn pc, .slice ca cn cc, .slice ja jn jc] 26)) 26 #[.slice none 0 0, .slice none 0 0, .slice none 0 0]; rw [World.size_alloc] at this; exact this.alloc _
  have hU0 : BK W0 (w.heap.size + 2) 26 #[.slice none 0 0, .slice none 0 0, .slice none 0 0] := by rw [hW0]; have := BK.new ((w.alloc (.cells #[.slice pa pn pc, .slice ca cn cc, .slice ja jn jc] 26)).alloc (.cells #[.slice none 0 0, .slice none 0 0, .slice none 0 0] 26)) 26 #[.slice none 0 0, .slice none 0 0, .slice none 0 0]; rw [World.size_alloc, World.size_alloc] at this; exact this
  have hz0 : w.heap.size + 2 < W0.heap.size := hU0.lt
  go_enter Try.func45, Try.ntmps45
  go_wp2_with fail
  rw [← hW0]
  clear hW0
  go_loopw [8, 9] (fun s i wr => ∃ (k : Nat) (A1 : Option Addr) (n1 c1 : Nat), k ≤ pn ∧ s = .int .i64 (sumL (R.ps.take k)) ∧ i = .int .i64 k ∧ JB 26 52 87 89 (w.heap.size + 3) wr (w.heap.size + 2) A1 n1 c1 (((its 0 R.ps).take k).filterMap (prt f t)) none 0 0 [] none 0 0 [] ∧ Below (w.heap.size + 2) W0 wr)
    (fun _ i _ => pn - (intOf i).toNat)
  case atStart => exact ⟨0, none, 0, 0, Nat.zero_le _, rfl, rfl, ⟨hU0, OW.nil_, OW.nil_, OW.nil_⟩, Below.refl _ _⟩
  case round =>
    obtain ⟨k, A1, n1, c1, hk, rfl, rfl, hJ, hb⟩ := hrel
    have hsz := hb.size
    have hBw : Below w.heap.size w wr := hB0.trans (hb.mono (by omega))
    have hX := hX0.below hb (show w.heap.size < w.heap.size + 2 by omega)
    have x0 := hX.cell 0
    simp only [List.getElem?_toArray, List.getElem?_cons_zero] at x0
    have hbd0 : 0 ≤ sumL (R.ps.take k) ∧ sumL (R.ps.take k) ≤ 20000000 := by
      have h1 := sumL_bd (R.ps.take k) (fun p hp => hk'.out p (List.mem_of_mem_take hp))
      have h2 : (R.ps.take k).length ≤ k := List.length_take_le ..
      omega
    by_cases hlt : k < pn
    · have hkl : k < R.ps.length := by rw [← HP.out]; exact hlt
      obtain ⟨bb, off, hA, hbB, k0, k1, k2, k3, k4⟩ := PS.at_ (hR.out.p.grow hBw hBw.size) (k := k) hkl
      have hst := Lib.hid (sumL_take R.ps k hkl)
      have hit := Lib.hid (its_take R.ps k hkl)
      have hpl := pOk_len (hk'.out _ (List.getElem_mem hkl))
      obtain ⟨L, hL⟩ : ∃ L, L = ((its 0 R.ps).take k).filterMap (prt f t) := ⟨_, rfl⟩
      rw [← hL] at hJ
      have hnl : n1 ≤ k := by
        have q1 := hJ.p.len
        have q2 := List.length_filterMap_le (prt f t) ((its 0 R.ps).take k)
        have q3 : ((its 0 R.ps).take k).length ≤ k := List.length_take_le ..
        rw [← hL] at q2
        omega
      obtain ⟨S, hS⟩ : ∃ S, S = sumL (R.ps.take k) := ⟨_, rfl⟩
      rw [← hS] at hbd0 hst hit ⊢
      generalize R.ps[k]'hkl = p at k0 k1 k2 k3 k4 hst hit hpl
      obtain ⟨hs1, hs2⟩ := hbd0
      obtain ⟨hp1, hp2⟩ := hpl
      have hnew : Hid (((its 0 R.ps).take (k + 1)).filterMap (prt f t) = L ++ (prt f t (S, p)).toList) := by
        show _ = _
        rw [hit.out, fm_snoc, ← hL]
      clear hL hS hit
      have hws : IntKind.i64.wrap (S + p.len) = S + p.len := IntWalk.i64_in _ (by omega)
      obtain ⟨B, hB⟩ : ∃ B, B = max f S := ⟨_, rfl⟩
      obtain ⟨E, hE⟩ : ∃ E, E = min t (S + p.len) := ⟨_, rfl⟩
      have hmx : (if f < S then S else f) = B := by rw [hB]; split <;> omega
      have hmn : (if S + p.len < t then S + p.len else t) = E := by rw [hE]; split <;> omega
      have hwe : IntKind.i64.wrap (E - B) = E - B := IntWalk.i64_in _ (by omega)
      have hprt : Hid (prt f t (S, p) = if B < E then some { p with len := E - B } else none) := by rw [hB, hE]; exact rfl
      clear hB hE
      have bl := hJ.b.lt
      have hlA : ∀ a, A1 = some a → a.block < wr.heap.size := fun a ha => (hJ.p.lt ha).2
      have hi1 : (0 : Int) ≤ (k : Int) := by omega
      have hi2 : (k : Int) < (pn : Int) := by omega
      subst hA
      go_upto_region 7 with fail
      refine wp_wnamed (fun Wg hWg => ?_)
      have G9 : BK Wg wr.heap.size 52 #[.int .i64 p.len, .int .i64 p.turn, .int .i64 p.rad, .int .i64 p.wid, .int .i64 p.sur] := by rw [hWg]; exact BK.new wr _ _
      have hbg : Below wr.heap.size wr Wg := by rw [hWg]; exact (Below.refl _ wr).alloc (Nat.le_refl _) _
      have hJg := hJ.call hbg
      clear hWg k0 k1 k2 k3 k4 hJ bl x0
      have g0 := G9.cell 0
      simp only [List.getElem?_toArray, List.getElem?_cons_zero] at g0
      have q0 := fun d os => cell_regrown g0 d os
      go_wp2_with fail
      refine wp_region_qt 10 hmo (by kernel_rfl) ?_
      simp only [List.take_succ_cons, List.take_zero, List.drop_succ_cons, List.drop_zero]
      repeat (quiet_step (fail))
      refine wpQuiet_nil ?_
      intro Wh hbh
      clear q0 g0
      have hJh := hJg.call hbh
      have G9h := G9.below hbh G9.lt
      have hbg2 := hbg.trans (hbh.mono hbg.size)
      have g0 := G9h.cell 0
      have g1 := G9h.cell 1
      have g2 := G9h.cell 2
      have g3 := G9h.cell 3
      have g4 := G9h.cell 4
      have gf := G9h.frozen
      have gl := G9h.lt
      simp only [List.getElem?_toArray, List.getElem?_cons_zero, List.getElem?_cons_succ] at g0 g1 g2 g3 g4
      clear hJg G9 hbg
      by_cases hbe : B < E
      · have et : decide (B < E) = true := by simpa using hbe
        have hcase : Hid ((prt f t (S, p)).toList = [{ p with len := E - B }]) := by show _ = _; rw [hprt.out, if_pos hbe]; rfl
        clear hbe hprt
        go_upto_region 11 with fail
        refine wp_wnamed (fun Wx hWx => ?_)
        have GX : BK Wx wr.heap.size 52 #[.int .i64 (E - B), .int .i64 p.turn, .int .i64 p.rad, .int .i64 p.wid, .int .i64 p.sur] := by rw [hWx]; exact G9h.set_ 0 _
        have hbx : Below wr.heap.size wr Wx := by rw [hWx]; exact hbg2.setCell (Nat.le_refl _) _
        have hJx : JB 26 52 87 89 (w.heap.size + 3) Wx (w.heap.size + 2) A1 n1 c1 L none 0 0 [] none 0 0 [] := by
          rw [hWx]
          exact hJh.off (p := ⟨wr.heap.size, 0, none⟩) (show w.heap.size + 2 ≠ wr.heap.size by omega) (fun a ha => Nat.ne_of_lt (hlA a ha)) (fun a ha => by cases ha) (fun a ha => by cases ha) _
        clear hWx g0 g1 g2 g3 g4 gf gl G9h hJh hbg2
        have g0 := GX.cell 0
        have g1 := GX.cell 1
        have g2 := GX.cell 2
        have g3 := GX.cell 3
        have g4 := GX.cell 4
        have gl := GX.lt
        simp only [List.getElem?_toArray, List.getElem?_cons_zero, List.getElem?_cons_succ] at g0 g1 g2 g3 g4
        have b0 := hJx.b.cell 0
        have bl := hJx.b.lt
        have hN1 := BK.new Wx 52 #[.int .i64 (E - B), .int .i64 p.turn, .int .i64 p.rad, .int .i64 p.wid, .int .i64 p.sur]
        have hJa := hJx.alloc (.cells #[.int .i64 (E - B), .int .i64 p.turn, .int .i64 p.rad, .int .i64 p.wid, .int .i64 p.sur] 52)
        have HFZ : Hid (∀ w3 g c'', App1 pC 5 52 (w.heap.size + 3) (Wx.alloc (.cells #[.int .i64 (E - B), .int .i64 p.turn, .int .i64 p.rad, .int .i64 p.wid, .int .i64 p.sur] 52)) A1 n1 c1 L { p with len := E - B } g c'' w3 → w3.heap[w.heap.size + 2]? = (Wx.alloc (.cells #[.int .i64 (E - B), .int .i64 p.turn, .int .i64 p.rad, .int .i64 p.wid, .int .i64 p.sur] 52)).heap[w.heap.size + 2]?) := by
          intro w3 g c'' hap
          exact hap.far _ hJa.b.lt (fun b hb => BK.ne_row (.inr ⟨_, hJa.b⟩) hJa.p (by decide) hb)
        have hzw := hbx.size
        simp only [List.getElem?_toArray, List.getElem?_cons_zero] at b0
        go_wp2_with (at_builtin; refine wpList_app rfl _ _ 22 rfl (w.heap.size + 3) 52 _ 5 40 Try.underlying22 infoP rfl (by decide) pC A1 n1 c1 L rfl hJa.p { p with len := E - B } #[.int .i64 (E - B), .int .i64 p.turn, .int .i64 p.rad, .int .i64 p.wid, .int .i64 p.sur] rfl rfl 52 Wx.heap.size rfl hN1 (by simp [pC, Value.oneCell']) (by omega) (by omega) (by simp; omega) ?_; intro g' c'' w1 hap; have hw1 := HFZ.out _ _ _ hap; have hm1 := hJa.b.same hw1; have mf := hm1.frozen 0; have m0 := hm1.cell 0; have HAP := Lib.hid hap; clear hap)
        have hap := HAP.out
        have hJn := hJa.appP (by decide) (by decide) (by decide) (by decide) (by decide) hap
        have hba := (Below.refl Wx.heap.size Wx).alloc (Nat.le_refl _) (.cells #[.int .i64 (E - B), .int .i64 p.turn, .int .i64 p.rad, .int .i64 p.wid, .int .i64 p.sur] 52)
        go_roundw
        case rel => exact ⟨k + 1, _, _, _, by omega, by rw [hst.out], by go_num, by rw [hnew.out, hcase.out]; exact hJn, ((hb.trans (hbx.mono (by omega))).trans ((hba.mono (by omega)).trans (hap.bel.mono (by omega)))).setCell (by simp) _⟩
        case measure => simp [intOf]; omega
      · have et : decide (B < E) = false := by simpa using hbe
        have hcase : Hid ((prt f t (S, p)).toList = []) := by show _ = _; rw [hprt.out, if_neg hbe]; rfl
        clear hbe hprt
        go_wp2_with fail
        go_roundw
        case rel => exact ⟨k + 1, A1, n1, c1, by omega, by rw [hst.out], by go_num, by rw [hnew.out, hcase.out, List.append_nil]; exact hJh, hb.trans (hbg2.mono (by omega))⟩
        case measure => simp [intOf]; omega
    · obtain rfl : k = pn := by omega
      have hall : Hid (((its 0 R.ps).take k).filterMap (prt f t) = (partR f t R).ps) := by show _ = _; rw [List.take_of_length_le (by rw [its_len, HP.out]; exact Nat.le_refl _)]; rfl
      rw [hall.out] at hJ

      obtain ⟨W8, rfl⟩ : ∃ W8 : World, W8 = wr := ⟨_, rfl⟩
      have hb8 := hb
      have hJ8 := hJ
      clear hJ hb
      go_wp2_with fail
      go_loopw [13] (fun i wr => ∃ (k : Nat) (A2 : Option Addr) (n2 c2 : Nat), k ≤ cn ∧ i = .int .i64 k ∧ JB 26 52 87 89 (w.heap.size + 3) wr (w.heap.size + 2) A1 n1 c1 (partR f t R).ps A2 n2 c2 ((R.cs.take k).filterMap (prtC f t)) none 0 0 [] ∧ Below (w.heap.size + 2) W0 wr)
        (fun i _ => cn - (intOf i).toNat)
      case atStart => exact ⟨0, none, 0, 0, Nat.zero_le _, rfl, hJ8, hb8⟩
      case round =>
        obtain ⟨k, A2, n2, c2, hk, rfl, hJ, hb⟩ := hrel
        have hsz := hb.size
        have hBw : Below w.heap.size w wr := hB0.trans (hb.mono (by omega))
        have hX := hX0.below hb (show w.heap.size < w.heap.size + 2 by omega)
        have x0 := hX.cell 1
        simp only [List.getElem?_toArray, List.getElem?_cons_zero, List.getElem?_cons_succ] at x0
        by_cases hlt : k < cn
        · have hkl : k < R.cs.length := by rw [← HC.out]; exact hlt
          obtain ⟨bb, off, hA, hbB, k0, k1⟩ := CS.at_ (hR.out.c.grow hBw hBw.size) (k := k) hkl
          have hqb := (cbd hv'.out _ (List.getElem_mem hkl)).1
          have hqn := hv'.out.n1
          obtain ⟨L, hL⟩ : ∃ L, L = (R.cs.take k).filterMap (prtC f t) := ⟨_, rfl⟩
          rw [← hL] at hJ
          have hnl : n2 ≤ k := by
            have q1 := hJ.c.len
            have q2 := List.length_filterMap_le (prtC f t) (R.cs.take k)
            have q3 : (R.cs.take k).length ≤ k := List.length_take_le ..
            rw [← hL] at q2
            omega
          have hnew : Hid ((R.cs.take (k + 1)).filterMap (prtC f t) = L ++ (prtC f t R.cs[k]).toList) := by
            show _ = _
            rw [List.take_succ_eq_append_getElem hkl, fm_snoc, ← hL]
          clear hL
          generalize R.cs[k]'hkl = q at k0 k1 hnew hqb
          obtain ⟨hq1, hq2⟩ := hqb
          have hwe : IntKind.i64.wrap (q.pos - f) = q.pos - f := IntWalk.i64_in _ (by omega)
          have bl := hJ.b.lt
          have hlA : ∀ a, A2 = some a → a.block < wr.heap.size := fun a ha => (hJ.c.lt ha).2
          have hlP : ∀ a, A1 = some a → a.block < wr.heap.size := fun a ha => (hJ.p.lt ha).2
          have hlC : ∀ a, A2 = some a → a.block < wr.heap.size := fun a ha => (hJ.c.lt ha).2
          have hi1 : (0 : Int) ≤ (k : Int) := by omega
          have hi2 : (k : Int) < (cn : Int) := by omega
          subst hA
          go_wp2_with fail
          refine wpCalls_wnamed (fun Wg hWg => ?_)
          have G9 : BK Wg wr.heap.size 87 #[.int .i64 q.pos, .int .i64 q.siz] := by rw [hWg]; exact BK.new wr _ _
          have hbg : Below wr.heap.size wr Wg := by rw [hWg]; exact (Below.refl _ wr).alloc (Nat.le_refl _) _
          have hJg := hJ.call hbg
          clear hWg k0 k1 hJ bl x0
          refine (in_any _ _ _ _).mono ?_
          rintro e w' ⟨rfl, rfl⟩
          have g0 := G9.cell 0
          have g1 := G9.cell 1
          have gf := G9.frozen
          have gl := G9.lt
          simp only [List.getElem?_toArray, List.getElem?_cons_zero, List.getElem?_cons_succ] at g0 g1
          cases hin : inR q.pos f t
          case true =>
            have hcase : Hid ((prtC f t q).toList = [⟨q.pos - f, q.siz⟩]) := by show _ = _; rw [prtC, if_pos hin]; rfl
            clear hin
            go_upto_region 18 with fail
            refine wp_wnamed (fun Wx hWx => ?_)
            have GX : BK Wx wr.heap.size 87 #[.int .i64 (q.pos - f), .int .i64 q.siz] := by rw [hWx]; exact G9.set_ 0 _
            have hbx : Below wr.heap.size wr Wx := by rw [hWx]; exact hbg.setCell (Nat.le_refl _) _
            have hJx : JB 26 52 87 89 (w.heap.size + 3) Wx (w.heap.size + 2) A1 n1 c1 (partR f t R).ps A2 n2 c2 L none 0 0 [] := by
              rw [hWx]
              exact hJg.off (p := ⟨wr.heap.size, 0, none⟩) (show w.heap.size + 2 ≠ wr.heap.size by omega) (fun a ha => Nat.ne_of_lt (hlP a ha)) (fun a ha => Nat.ne_of_lt (hlA a ha)) (fun a ha => by cases ha) _
            clear hWx g0 g1 gf gl G9 hJg hbg
            have g0 := GX.cell 0
            have g1 := GX.cell 1
            have gl := GX.lt
            simp only [List.getElem?_toArray, List.getElem?_cons_zero, List.getElem?_cons_succ] at g0 g1
            have b1 := hJx.b.cell 1
            have bl := hJx.b.lt
            have hN1 := BK.new Wx 87 #[.int .i64 (q.pos - f), .int .i64 q.siz]
            have hJa := hJx.alloc (.cells #[.int .i64 (q.pos - f), .int .i64 q.siz] 87)
            have HFZ : Hid (∀ w3 g c'', App1 cC 2 87 (w.heap.size + 3) (Wx.alloc (.cells #[.int .i64 (q.pos - f), .int .i64 q.siz] 87)) A2 n2 c2 L ⟨q.pos - f, q.siz⟩ g c'' w3 → w3.heap[w.heap.size + 2]? = (Wx.alloc (.cells #[.int .i64 (q.pos - f), .int .i64 q.siz] 87)).heap[w.heap.size + 2]?) := by
              intro w3 g c'' hap
              exact hap.far _ hJa.b.lt (fun b hb => BK.ne_row (.inr ⟨_, hJa.b⟩) hJa.c (by decide) hb)
            have hzw := hbx.size
            simp only [List.getElem?_toArray, List.getElem?_cons_zero, List.getElem?_cons_succ] at b1
            go_wp2_with (at_builtin; refine wpList_app rfl _ _ 23 rfl (w.heap.size + 3) 87 _ 2 16 Try.underlying23 infoC rfl (by decide) cC A2 n2 c2 L rfl hJa.c ⟨q.pos - f, q.siz⟩ #[.int .i64 (q.pos - f), .int .i64 q.siz] rfl rfl 87 Wx.heap.size rfl hN1 (by simp [cC, Value.oneCell']) (by omega) (by omega) (by simp; omega) ?_; intro g' c'' w1 hap; have hw1 := HFZ.out _ _ _ hap; have hm1 := hJa.b.same hw1; have mf := hm1.frozen 1; have m1 := hm1.cell 1; have HAP := Lib.hid hap; clear hap)
            have hap := HAP.out
            have hJn := hJa.appC (by decide) (by decide) (by decide) (by decide) (by decide) hap
            have hba := (Below.refl Wx.heap.size Wx).alloc (Nat.le_refl _) (.cells #[.int .i64 (q.pos - f), .int .i64 q.siz] 87)
            go_roundw
            case rel => exact ⟨k + 1, _, _, _, by omega, by go_num, by rw [hnew.out, hcase.out]; exact hJn, ((hb.trans (hbx.mono (by omega))).trans ((hba.mono (by omega)).trans (hap.bel.mono (by omega)))).setCell (by simp) _⟩
            case measure => simp [intOf]; omega
          case false =>
            have hcase : Hid ((prtC f t q).toList = []) := by show _ = _; rw [prtC, if_neg (by rw [hin]; simp)]; rfl
            clear hin
            go_wp2_with fail
            go_roundw
            case rel => exact ⟨k + 1, A2, n2, c2, by omega, by go_num, by rw [hnew.out, hcase.out, List.append_nil]; exact hJg, hb.trans (hbg.mono (by omega))⟩
            case measure => simp [intOf]; omega
        · obtain rfl : k = cn := by omega
          have hall : Hid ((R.cs.take k).filterMap (prtC f t) = (partR f t R).cs) := by show _ = _; rw [HC.out, List.take_length]; rfl
          rw [hall.out] at hJ
          obtain ⟨W8, rfl⟩ : ∃ W8 : World, W8 = wr := ⟨_, rfl⟩
          have hb8 := hb
          have hJ8 := hJ
          clear hJ hb
          go_wp2_with fail
          go_loopw [15] (fun i wr => ∃ (k : Nat) (A3 : Option Addr) (n3 c3 : Nat), k ≤ jn ∧ i = .int .i64 k ∧ JB 26 52 87 89 (w.heap.size + 3) wr (w.heap.size + 2) A1 n1 c1 (partR f t R).ps A2 n2 c2 (partR f t R).cs A3 n3 c3 ((R.js.take k).filterMap (prtJ f t)) ∧ Below (w.heap.size + 2) W0 wr)
            (fun i _ => jn - (intOf i).toNat)
          case atStart => exact ⟨0, none, 0, 0, Nat.zero_le _, rfl, hJ8, hb8⟩
          case round =>
            obtain ⟨k, A3, n3, c3, hk, rfl, hJ, hb⟩ := hrel
            have hsz := hb.size
            have hBw : Below w.heap.size w wr := hB0.trans (hb.mono (by omega))
            have hX := hX0.below hb (show w.heap.size < w.heap.size + 2 by omega)
            have x0 := hX.cell 2
            simp only [List.getElem?_toArray, List.getElem?_cons_zero, List.getElem?_cons_succ] at x0
            by_cases hlt : k < jn
            · have hkl : k < R.js.length := by rw [← HJ.out]; exact hlt
              obtain ⟨bb, off, hA, hbB, k0, k1, k2⟩ := JS.at_ (hR.out.j.grow hBw hBw.size) (k := k) hkl
              have hqb := (jbd hv'.out _ (List.getElem_mem hkl)).1
              have hqn := hv'.out.n1
              obtain ⟨L, hL⟩ : ∃ L, L = (R.js.take k).filterMap (prtJ f t) := ⟨_, rfl⟩
              rw [← hL] at hJ
              have hnl : n3 ≤ k := by
                have q1 := hJ.j.len
                have q2 := List.length_filterMap_le (prtJ f t) (R.js.take k)
                have q3 : (R.js.take k).length ≤ k := List.length_take_le ..
                rw [← hL] at q2
                omega
              have hnew : Hid ((R.js.take (k + 1)).filterMap (prtJ f t) = L ++ (prtJ f t R.js[k]).toList) := by
                show _ = _
                rw [List.take_succ_eq_append_getElem hkl, fm_snoc, ← hL]
              clear hL
              generalize R.js[k]'hkl = q at k0 k1 k2 hnew hqb
              obtain ⟨hq1, hq2⟩ := hqb
              have hwe : IntKind.i64.wrap (q.pos - f) = q.pos - f := IntWalk.i64_in _ (by omega)
              have bl := hJ.b.lt
              have hlA : ∀ a, A3 = some a → a.block < wr.heap.size := fun a ha => (hJ.j.lt ha).2
              have hlP : ∀ a, A1 = some a → a.block < wr.heap.size := fun a ha => (hJ.p.lt ha).2
              have hlC : ∀ a, A2 = some a → a.block < wr.heap.size := fun a ha => (hJ.c.lt ha).2
              have hi1 : (0 : Int) ≤ (k : Int) := by omega
              have hi2 : (k : Int) < (jn : Int) := by omega
              subst hA
              go_wp2_with fail
              refine wpCalls_wnamed (fun Wg hWg => ?_)
              have G9 : BK Wg wr.heap.size 89 #[.int .i64 q.pos, .int .i64 q.arms, .int .i64 q.way] := by rw [hWg]; exact BK.new wr _ _
              have hbg : Below wr.heap.size wr Wg := by rw [hWg]; exact (Below.refl _ wr).alloc (Nat.le_refl _) _
              have hJg := hJ.call hbg
              clear hWg k0 k1 k2 hJ bl x0
              refine (in_any _ _ _ _).mono ?_
              rintro e w' ⟨rfl, rfl⟩
              have g0 := G9.cell 0
              have g1 := G9.cell 1
              have g2 := G9.cell 2
              have gf := G9.frozen
              have gl := G9.lt
              simp only [List.getElem?_toArray, List.getElem?_cons_zero, List.getElem?_cons_succ] at g0 g1 g2
              cases hin : inR q.pos f t
              case true =>
                have hcase : Hid ((prtJ f t q).toList = [⟨q.pos - f, q.arms, q.way⟩]) := by show _ = _; rw [prtJ, if_pos hin]; rfl
                clear hin
                go_upto_region 25 with fail
                refine wp_wnamed (fun Wx hWx => ?_)
                have GX : BK Wx wr.heap.size 89 #[.int .i64 (q.pos - f), .int .i64 q.arms, .int .i64 q.way] := by rw [hWx]; exact G9.set_ 0 _
                have hbx : Below wr.heap.size wr Wx := by rw [hWx]; exact hbg.setCell (Nat.le_refl _) _
                have hJx : JB 26 52 87 89 (w.heap.size + 3) Wx (w.heap.size + 2) A1 n1 c1 (partR f t R).ps A2 n2 c2 (partR f t R).cs A3 n3 c3 L := by
                  rw [hWx]
                  exact hJg.off (p := ⟨wr.heap.size, 0, none⟩) (show w.heap.size + 2 ≠ wr.heap.size by omega) (fun a ha => Nat.ne_of_lt (hlP a ha)) (fun a ha => Nat.ne_of_lt (hlC a ha)) (fun a ha => Nat.ne_of_lt (hlA a ha)) _
                clear hWx g0 g1 g2 gf gl G9 hJg hbg
                have g0 := GX.cell 0
                have g1 := GX.cell 1
                have g2 := GX.cell 2
                have gl := GX.lt
                simp only [List.getElem?_toArray, List.getElem?_cons_zero, List.getElem?_cons_succ] at g0 g1 g2
                have b2 := hJx.b.cell 2
                have bl := hJx.b.lt
                have hN1 := BK.new Wx 89 #[.int .i64 (q.pos - f), .int .i64 q.arms, .int .i64 q.way]
                have hJa := hJx.alloc (.cells #[.int .i64 (q.pos - f), .int .i64 q.arms, .int .i64 q.way] 89)
                have HFZ : Hid (∀ w3 g c'', App1 jC 3 89 (w.heap.size + 3) (Wx.alloc (.cells #[.int .i64 (q.pos - f), .int .i64 q.arms, .int .i64 q.way] 89)) A3 n3 c3 L ⟨q.pos - f, q.arms, q.way⟩ g c'' w3 → w3.heap[w.heap.size + 2]? = (Wx.alloc (.cells #[.int .i64 (q.pos - f), .int .i64 q.arms, .int .i64 q.way] 89)).heap[w.heap.size + 2]?) := by
                  intro w3 g c'' hap
                  exact hap.far _ hJa.b.lt (fun b hb => BK.ne_row (.inr ⟨_, hJa.b⟩) hJa.j (by decide) hb)
                have hzw := hbx.size
                simp only [List.getElem?_toArray, List.getElem?_cons_zero, List.getElem?_cons_succ] at b2
                go_wp2_with (at_builtin; refine wpList_app rfl _ _ 24 rfl (w.heap.size + 3) 89 _ 3 24 Try.underlying24 infoJ rfl (by decide) jC A3 n3 c3 L rfl hJa.j ⟨q.pos - f, q.arms, q.way⟩ #[.int .i64 (q.pos - f), .int .i64 q.arms, .int .i64 q.way] rfl rfl 89 Wx.heap.size rfl hN1 (by simp [jC, Value.oneCell']) (by omega) (by omega) (by simp; omega) ?_; intro g' c'' w1 hap; have hw1 := HFZ.out _ _ _ hap; have hm1 := hJa.b.same hw1; have mf := hm1.frozen 2; have m2 := hm1.cell 2; have HAP := Lib.hid hap; clear hap)
                have hap := HAP.out
                have hJn := hJa.appJ (by decide) (by decide) (by decide) (by decide) (by decide) hap
                have hba := (Below.refl Wx.heap.size Wx).alloc (Nat.le_refl _) (.cells #[.int .i64 (q.pos - f), .int .i64 q.arms, .int .i64 q.way] 89)
                go_roundw
                case rel => exact ⟨k + 1, _, _, _, by omega, by go_num, by rw [hnew.out, hcase.out]; exact hJn, ((hb.trans (hbx.mono (by omega))).trans ((hba.mono (by omega)).trans (hap.bel.mono (by omega)))).setCell (by simp) _⟩
                case measure => simp [intOf]; omega
              case false =>
                have hcase : Hid ((prtJ f t q).toList = []) := by show _ = _; rw [prtJ, if_neg (by rw [hin]; simp)]; rfl
                clear hin
                go_wp2_with fail
                go_roundw
                case rel => exact ⟨k + 1, A3, n3, c3, by omega, by go_num, by rw [hnew.out, hcase.out, List.append_nil]; exact hJg, hb.trans (hbg.mono (by omega))⟩
                case measure => simp [intOf]; omega
            · obtain rfl : k = jn := by omega
              have hall : Hid ((R.js.take k).filterMap (prtJ f t) = (partR f t R).js) := by show _ = _; rw [HJ.out, List.take_length]; rfl
              rw [hall.out] at hJ
              have hZ := hZ0.below hb (show w.heap.size + 1 < w.heap.size + 2 by omega)
              have zf := hZ.frozen
              have zl := hZ.lt
              have z0 := hZ.cell 0
              have z1 := hZ.cell 1
              have z2 := hZ.cell 2
              have b0 := hJ.b.cell 0
              have b1 := hJ.b.cell 1
              have b2 := hJ.b.cell 2
              simp only [List.getElem?_toArray, List.getElem?_cons_zero, List.getElem?_cons_succ] at b0 b1 b2 z0 z1 z2
              have hP := hJ.p
              have hC := hJ.c
              have hQ := hJ.j
              have fP : ∀ a, A1 = some a → a.block ≠ w.heap.size + 1 := fun a ha => by have := (hP.lt ha).1; omega
              have fC : ∀ a, A2 = some a → a.block ≠ w.heap.size + 1 := fun a ha => by have := (hC.lt ha).1; omega
              have fQ : ∀ a, A3 = some a → a.block ≠ w.heap.size + 1 := fun a ha => by have := (hQ.lt ha).1; omega
              obtain ⟨WF, hWF⟩ : ∃ WF, WF = ((wr.setCell ⟨w.heap.size + 1, 0, none⟩ (.slice A1 n1 c1)).setCell ⟨w.heap.size + 1, 1, none⟩ (.slice A2 n2 c2)).setCell ⟨w.heap.size + 1, 2, none⟩ (.slice A3 n3 c3) := ⟨_, rfl⟩
              have hZF : BK WF (w.heap.size + 1) 26 #[.slice A1 n1 c1, .slice A2 n2 c2, .slice A3 n3 c3] := by rw [hWF]; exact ((hZ.set_ 0 _).set_ 1 _).set_ 2 _
              have FF : (OW pC 5 52 w.heap.size WF A1 n1 c1 (partR f t R).ps ∧ OW cC 2 87 w.heap.size WF A2 n2 c2 (partR f t R).cs ∧ OW jC 3 89 w.heap.size WF A3 n3 c3 (partR f t R).js) ∧ Below w.heap.size w WF := by
                rw [hWF]
                exact ⟨⟨(((hP.setCell fP _).setCell fP _).setCell fP _).drop0 (by omega), (((hC.setCell fC _).setCell fC _).setCell fC _).drop0 (by omega), (((hQ.setCell fQ _).setCell fQ _).setCell fQ _).drop0 (by omega)⟩, ((hBw.setCell (by simp) _).setCell (by simp) _).setCell (by simp) _⟩
              have HFF := Lib.hid FF
              clear FF hP hC hQ fP fC fQ hJ
              go_wp2_with fail
              rw [← hWF]
              have z0 := hZF.cell 0
              have z1 := hZF.cell 1
              have z2 := hZF.cell 2
              simp only [List.getElem?_toArray, List.getElem?_cons_zero, List.getElem?_cons_succ] at z0 z1 z2
              refine bodyPost_ret (v := .agg #[.slice A1 n1 c1, .slice A2 n2 c2, .slice A3 n3 c3]) (by simp [results, Try.results45, go_sem, z0, z1, z2]) rfl ⟨A1, n1, c1, A2, n2, c2, A3, n3, c3, rfl, HFF.out⟩
end Go.Proofs.Ytomloklckpcaiaa
