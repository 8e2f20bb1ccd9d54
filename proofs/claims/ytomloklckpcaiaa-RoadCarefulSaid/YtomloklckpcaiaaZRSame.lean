/- road.Compare: where two surveys differ, by stretches. -/
import Derived.Test.YtomloklckpcaiaaZStr
import Derived.Test.YtomloklckpcaiaaZBackM
import Derived.Test.YtomloklckpcaiaaZRCorn
import Derived.Test.YtomloklckpcaiaaZReg
import Derived.Test.YtomloklckpcaiaaZConc
import Derived.Test.YtomloklckpcaiaaZBound
import Derived.Test.YtomloklckpcaiaaZCorn
namespace Go.Proofs.Ytomloklckpcaiaa
open Go.RowKit Go.Shelf Go.Sort Go.Proofs

attribute [local go_sem] Oper.semAt_some

/-- A piece is stored in a block made for it. -/
theorem store_piece (p : Piece) (d x : Tmp) (a : Act) (w : World) (b : Nat) (h1 : a.eval (.tmp d) = .pointer (some ⟨b, 0, none⟩)) (h2 : a.eval (.tmp x) = .agg #[.int .i64 p.len, .int .i64 p.turn, .int .i64 p.rad, .int .i64 p.wid, .int .i64 p.sur]) (h3 : BK w b 52 #[.int .i64 0, .int .i64 0, .int .i64 0, .int .i64 0, .int .i64 0]) (o : Oper) (ho : o.op = .store 52 (.tmp d) (.tmp x)) :
    ∃ w', (execOp a.eval o).run Try.prog w = .ok .skip w' ∧ BK w' b 52 #[.int .i64 p.len, .int .i64 p.turn, .int .i64 p.rad, .int .i64 p.wid, .int .i64 p.sur] ∧ Below b w w' ∧ w'.heap.size = w.heap.size ∧ ∀ k, k ≠ b → w'.heap[k]? = w.heap[k]? := by
  have c0 := h3.cell 0
  have c1 := h3.cell 1
  have c2 := h3.cell 2
  have c3 := h3.cell 3
  have c4 := h3.cell 4
  have f := h3.frozen
  have hl := h3.lt
  simp only [List.getElem?_toArray, List.getElem?_cons_zero, List.getElem?_cons_succ] at c0 c1 c2 c3 c4
  refine ⟨((((w.setCell ⟨b, 0, none⟩ (.int .i64 p.len)).setCell ⟨b, 1, none⟩ (.int .i64 p.turn)).setCell ⟨b, 2, none⟩ (.int .i64 p.rad)).setCell ⟨b, 3, none⟩ (.int .i64 p.wid)).setCell ⟨b, 4, none⟩ (.int .i64 p.sur), ?_, ((((h3.set_ 0 _).set_ 1 _).set_ 2 _).set_ 3 _).set_ 4 _, ((((((Below.refl b w).setCell (Nat.le_refl _) _).setCell (Nat.le_refl _) _).setCell (Nat.le_refl _) _).setCell (Nat.le_refl _) _).setCell (Nat.le_refl _) _), by simp, fun k hk => ?_⟩
  · unfold execOp
    rw [ho]
    simp only [h1, h2]
    go_simp
  · rw [Below.heap_setCell _ _ _ _ hk, Below.heap_setCell _ _ _ _ hk, Below.heap_setCell _ _ _ _ hk, Below.heap_setCell _ _ _ _ hk, Below.heap_setCell _ _ _ _ hk]
/-- A frame gets a name. -/
theorem wpIn_named {F : Fence} {n : Nat} {P : Program} {c : Code} {Q : Exit → Act → World → Prop} {a : Act} {w : World} (h : ∀ a0, a0 = a → c.wpIn F n P Q a0 w) : c.wpIn F n P Q a w := h a rfl
theorem owg_own {α β : Type} (B g base : Nat) (t e : TypeId) (cf : α → List Value) (sz : Nat) (f : β → List α) : OwnFrom B (fun s W => ∃ A n c, BK W g t #[.slice A n c] ∧ OW cf sz e base W A n c (f s)) := by
  intro s W W' row hs hg hr
  obtain ⟨A, n, c, h1, h2⟩ := hs
  refine ⟨A, n, c, bk_own B g t (fun _ : Unit => _) () W W' row h1 hg hr, h2.keep (fun b hb => hg.block b.block (h2.lt hb).2 (fun e => ?_))⟩
  obtain ⟨_, o, ho, hc⟩ := hr _ e.symm
  subst hb
  rcases h2.1.2 with ⟨h3, _⟩ | ⟨g', cap, cur, h3, _, hg', _⟩
  · cases h3
  · injection h3 with h3
    injection h3 with h3
    subst h3
    rw [hg'] at ho
    cases ho
    cases hc
end Go.Proofs.Ytomloklckpcaiaa

/- road.Compare: the error. -/
namespace Go.Proofs.Ytomloklckpcaiaa
open Go.RowKit Go.Shelf Go.Sort Go.Proofs

end Go.Proofs.Ytomloklckpcaiaa

/- A reversed road is as defined. Plain; no program in sight. -/
namespace Go.Proofs.Ytomloklckpcaiaa
open Go.RowKit Go.Proofs

theorem getE_pw {α : Type} (f : α → Int) : ∀ (l : List α), (∀ i, i < l.length → ∀ c d, l[i]? = some c → 0 < i → l[i-1]? = some d → f d < f c) → l.Pairwise fun a b => f a < f b
  | [], _ => List.Pairwise.nil
  | [_], _ => List.pairwise_singleton ..
  | a :: b :: l, h => by
    have ih := getE_pw f (b :: l) (fun i hi c d hc h0 hd => h (i + 1) (by simp at hi ⊢; omega) c d (by simpa using hc) (by omega) (by
      obtain ⟨j, rfl⟩ : ∃ j, i = j + 1 := ⟨i - 1, by omega⟩
      simpa using hd))
    have hab := h 1 (by simp) b a rfl (by omega) rfl
    refine List.pairwise_cons.2 ⟨fun x hx => ?_, ih⟩
    rcases List.mem_cons.1 hx with rfl | hx
    · exact hab
    · have := (List.pairwise_cons.1 ih).1 x hx; omega
theorem pw_getE {α : Type} {f : α → Int} {l : List α} (h : l.Pairwise fun a b => f a < f b) (i : Nat) {c d : α} (hc : l[i]? = some c) (h0 : 0 < i) (hd : l[i-1]? = some d) : f d < f c := by
  obtain ⟨h1, rfl⟩ := List.getElem?_eq_some_iff.1 hc
  obtain ⟨h2, rfl⟩ := List.getElem?_eq_some_iff.1 hd
  exact List.pairwise_iff_getElem.1 h (i-1) i h2 h1 (by omega)
theorem crests_iff (n : Int) (cs : List Crest) : (∀ i, i < cs.length → cAt n cs i) ↔ (∀ c ∈ cs, inR c.pos 0 n = true ∧ inR c.siz 1 3 = true) ∧ cs.Pairwise fun a b => a.pos < b.pos := by
  constructor
  · intro h
    refine ⟨fun c hc => ?_, getE_pw Crest.pos cs (fun i hi c d hc h0 hd => (h i hi c hc).2.2 d h0 hd)⟩
    obtain ⟨i, hi, rfl⟩ := List.getElem_of_mem hc
    have := h i hi _ (List.getElem?_eq_getElem hi)
    exact ⟨this.1, this.2.1⟩
  · rintro ⟨h1, h2⟩ i hi c hc
    have hm := h1 c (List.mem_of_getElem? hc)
    exact ⟨hm.1, hm.2, fun d h0 hd => pw_getE (f := Crest.pos) h2 i hc h0 hd⟩
theorem juncs_iff (n : Int) (js : List Junc) : (∀ i, i < js.length → jAt n js i) ↔ (∀ c ∈ js, inR c.pos 0 n = true ∧ inR c.arms 2 6 = true ∧ inR c.way 1 c.arms = true) ∧ js.Pairwise fun a b => a.pos < b.pos := by
  constructor
  · intro h
    refine ⟨fun c hc => ?_, getE_pw Junc.pos js (fun i hi c d hc h0 hd => (h i hi c hc).2.2.2 d h0 hd)⟩
    obtain ⟨i, hi, rfl⟩ := List.getElem_of_mem hc
    have := h i hi _ (List.getElem?_eq_getElem hi)
    exact ⟨this.1, this.2.1, this.2.2.1⟩
  · rintro ⟨h1, h2⟩ i hi c hc
    have hm := h1 c (List.mem_of_getElem? hc)
    exact ⟨hm.1, hm.2.1, hm.2.2, fun d h0 hd => pw_getE (f := Junc.pos) h2 i hc h0 hd⟩
end Go.Proofs.Ytomloklckpcaiaa

/- road.Join, walked. -/
namespace Go.Proofs.Ytomloklckpcaiaa
open Go.RowKit Go.Shelf Go.Sort Go.Proofs

/-- A world gets a name. -/
theorem wp_wnamed {P : Program} {c : Code} {Q : Exit → Act → World → Prop} {a : Act} {w : World} (h : ∀ W, W = w → c.wp P Q a W) : c.wp P Q a w := h w rfl
end Go.Proofs.Ytomloklckpcaiaa

/- hairpinref01.Part, walked. -/
namespace Go.Proofs.Ytomloklckpcaiaa
open Go.RowKit Go.Shelf Go.Sort Go.Proofs

/-- A store elsewhere. -/
theorem JB.off {tR tP tC tJ : TypeId} {base : Nat} {w : World} {tb : Nat} {A1 : Option Addr} {n1 c1 : Nat} {ps : List Piece} {A2 : Option Addr} {n2 c2 : Nat} {cs : List Crest} {A3 : Option Addr} {n3 c3 : Nat} {js : List Junc}
    (h : JB tR tP tC tJ base w tb A1 n1 c1 ps A2 n2 c2 cs A3 n3 c3 js) {p : Addr} (hb : tb ≠ p.block) (h1 : ∀ a, A1 = some a → a.block ≠ p.block) (h2 : ∀ a, A2 = some a → a.block ≠ p.block) (h3 : ∀ a, A3 = some a → a.block ≠ p.block) (v : Value) :
    JB tR tP tC tJ base (w.setCell p v) tb A1 n1 c1 ps A2 n2 c2 cs A3 n3 c3 js :=
  ⟨h.b.far hb v, h.p.setCell h1 v, h.c.setCell h2 v, h.j.setCell h3 v⟩
end Go.Proofs.Ytomloklckpcaiaa

/- road.Part, walked. -/
namespace Go.Proofs.Ytomloklckpcaiaa
open Go.RowKit Go.Shelf Go.Sort Go.Proofs

attribute [local go_sem] Oper.semAt_some

/-- The record of deferred calls stays. -/
def DK (w : World) (D : Nat) : Prop := w.heap[D]? = some (.deferred (some []))
theorem DK.lt {w : World} {D : Nat} (h : DK w D) : D < w.heap.size := (Array.getElem?_eq_some_iff.1 h).1
theorem DK.alloc {w : World} {D : Nat} (h : DK w D) (o : Obj) : DK (w.alloc o) D := (Below.heap_alloc w o D h.lt).trans h
theorem DK.far {w : World} {D : Nat} (h : DK w D) {p : Addr} (hp : D ≠ p.block) (u : Value) : DK (w.setCell p u) D := (Below.heap_setCell w p u D hp).trans h
theorem DK.below {w w' : World} {D B : Nat} (h : DK w D) (hb : Below B w w') (hg : D < B) : DK w' D := (hb.block D hg).trans h
theorem DK.ne_row {α : Type} {f : α → List Value} {sz : Nat} {e : TypeId} {base : Nat} {w : World} {D : Nat} {A : Option Addr} {n c : Nat} {l : List α} (h : DK w D) (ho : OW f sz e base w A n c l) : ∀ g, A = some g → g.block ≠ D := fun g hg he => by
  subst hg
  rcases ho.1.2 with ⟨h3, _⟩ | ⟨g', cap, cur, h3, _, hg', _⟩
  · cases h3
  · injection h3 with h3
    injection h3 with h3
    subst h3
    unfold DK at h
    rw [show D = g' from he.symm, hg'] at h
    cases h
end Go.Proofs.Ytomloklckpcaiaa

/- hairpinref01.fits, hairpinref01.Join, walked. -/
namespace Go.Proofs.Ytomloklckpcaiaa
open Go.RowKit Go.Shelf Go.Sort Go.Proofs

set_option maxRecDepth 100000 in
set_option maxHeartbeats 2000000 in
theorem fits_any (pa : Option Addr) (pn pc : Nat) (ca : Option Addr) (cn cc : Nat) (ja : Option Addr) (jn jc : Nat) (R : Road) (w : World)
    (h : RD w w.heap.size pa pn ca cn ja jn R) (hk : ∀ p ∈ R.ps, pOk p = true) (hl : pn ≤ 20000) :
    Calls Try.prog 77 #[.agg #[.slice pa pn pc, .slice ca cn cc, .slice ja jn jc]] w fun e w' => e = .returned (.bool (fitsR R)) ∧ Below w.heap.size w w' := by
  have hR := Lib.hid h
  have hk' := Lib.hid hk
  have hfit : fitsR R = (decide ((pn : Int) ≤ 2000) && (decide ((cn : Int) ≤ 1000) && (decide ((jn : Int) ≤ 200) && decide (sumL R.ps ≤ 100000)))) := by
    have q1 : decide (pn ≤ 2000) = decide ((pn : Int) ≤ 2000) := by rw [decide_eq_decide]; omega
    have q2 : decide (cn ≤ 1000) = decide ((cn : Int) ≤ 1000) := by rw [decide_eq_decide]; omega
    have q3 : decide (jn ≤ 200) = decide ((jn : Int) ≤ 200) := by rw [decide_eq_decide]; omega
    rw [fitsR, ← h.p.1, ← h.c.1, ← h.j.1, q1, q2, q3]
  clear h hk
  rw [hfit]
  clear hfit
  obtain ⟨W0, hW0⟩ : ∃ W0, W0 = w.alloc (.cells #[.slice pa pn pc, .slice ca cn cc, .slice ja jn jc] 26) := ⟨_, rfl⟩
  have hB0 : Below w.heap.size w W0 := by rw [hW0]; exact (Below.refl w.heap.size w).alloc (Nat.le_refl _) _
  go_enter Try.func77, Try.ntmps77
  cases e1 : decide ((pn : Int) ≤ 2000)
  · go_wp2_with fail
    go_ret
    exact ⟨by simp, by rw [← hW0]; exact hB0⟩
  cases e2 : decide ((cn : Int) ≤ 1000)
  · go_wp2_with fail
    go_ret
    exact ⟨by simp, by rw [← hW0]; exact hB0⟩
  cases e3 : decide ((jn : Int) ≤ 200)
  · go_wp2_with fail
    go_ret
    exact ⟨by simp, by rw [← hW0]; exact hB0⟩
  go_wp2_with fail
  rw [← hW0]
  refine (rLength_any pa pn pc ca cn cc ja jn jc R _ (hR.out.grow hB0 hB0.size) hk'.out (by omega)).mono ?_
  rintro e W1 ⟨rfl, hb1⟩
  go_wp2_with fail
  go_ret
  exact ⟨by simp, hB0.trans (hb1.mono hB0.size)⟩
end Go.Proofs.Ytomloklckpcaiaa

/- The law function RoadMany, walked: it returns true. -/
namespace Go.Proofs.Ytomloklckpcaiaa
open Go.RowKit Go.Shelf Go.Sort Go.Proofs

set_option maxRecDepth 100000 in
theorem none_any (A1 : Option Addr) (n1 c1 : Nat) (A2 : Option Addr) (n2 c2 : Nat) (A3 : Option Addr) (n3 c3 : Nat) (w : World) (h1 : n1 ≤ 1000000) (h2 : n2 ≤ 1000000) (h3 : n3 ≤ 1000000) :
    Calls Try.prog 41 #[.agg #[.slice A1 n1 c1, .slice A2 n2 c2, .slice A3 n3 c3]] w fun e w' => e = .returned (.bool ((n1 : Int) + n2 + n3 == 0)) ∧ Below w.heap.size w w' := by
  have hw1 : IntKind.i64.wrap ((n1 : Int) + (n2 : Int)) = (n1 : Int) + (n2 : Int) := IntWalk.i64_in _ (by omega)
  have hw2 : IntKind.i64.wrap ((n1 : Int) + (n2 : Int) + (n3 : Int)) = (n1 : Int) + (n2 : Int) + (n3 : Int) := IntWalk.i64_in _ (by omega)
  have hb : Below w.heap.size w (w.alloc (.cells #[.slice A1 n1 c1, .slice A2 n2 c2, .slice A3 n3 c3] 26)) := (Below.refl _ _).alloc (Nat.le_refl _) _
  go_enter Try.func41, Try.ntmps41
  go_wp2_with fail
  go_ret
  exact ⟨by simp, hb⟩
end Go.Proofs.Ytomloklckpcaiaa

/- hairpinref01.Same: two roads that are one road. -/
namespace Go.Proofs.Ytomloklckpcaiaa
open Go.RowKit Go.Shelf Go.Sort Go.Proofs

set_option maxRecDepth 100000 in
set_option maxHeartbeats 4000000 in
theorem rSame_true (pa : Option Addr) (pn pc : Nat) (ca : Option Addr) (cn cc : Nat) (ja : Option Addr) (jn jc : Nat) (pa' : Option Addr) (pc' : Nat) (ca' : Option Addr) (cc' : Nat) (ja' : Option Addr) (jc' : Nat) (R : Road) (w : World)
    (h : RD w w.heap.size pa pn ca cn ja jn R) (h' : RD w w.heap.size pa' pn ca' cn ja' jn R) (hpn : pn ≤ 20000) (hcn : cn ≤ 20000) (hjn : jn ≤ 20000) :
    Calls Try.prog 36 #[.agg #[.slice pa pn pc, .slice ca cn cc, .slice ja jn jc], .agg #[.slice pa' pn pc', .slice ca' cn cc', .slice ja' jn jc']] w fun e w' => e = .returned (.bool true) ∧ Below w.heap.size w w' := by
  have hR := Lib.hid h
  have hR' := Lib.hid h'
  have HL0 := Lib.hid h.p.1
  have HL1 := Lib.hid h.c.1
  have HL2 := Lib.hid h.j.1
  clear h h'
  obtain ⟨W0, hW0⟩ : ∃ W0, W0 = (w.alloc (.cells #[.slice pa pn pc, .slice ca cn cc, .slice ja jn jc] 26)).alloc (.cells #[.slice pa' pn pc', .slice ca' cn cc', .slice ja' jn jc'] 26) := ⟨_, rfl⟩
  have hb : Below w.heap.size w W0 := by rw [hW0]; exact ((Below.refl w.heap.size w).alloc (Nat.le_refl _) _).alloc (by simp) _
  have hX : BK W0 w.heap.size 26 #[.slice pa pn pc, .slice ca cn cc, .slice ja jn jc] := by rw [hW0]; exact (BK.new w _ _).alloc _
  have hY : BK W0 (w.heap.size + 1) 26 #[.slice pa' pn pc', .slice ca' cn cc', .slice ja' jn jc'] := by rw [hW0]; have := BK.new (w.alloc (.cells #[.slice pa pn pc, .slice ca cn cc, .slice ja jn jc] 26)) 26 #[.slice pa' pn pc', .slice ca' cn cc', .slice ja' jn jc']; rw [World.size_alloc] at this; exact this
  go_enter Try.func36, Try.ntmps36
  go_wp2_with fail
  rw [← hW0]
  clear hW0
  obtain ⟨V0, hV0⟩ : ∃ V, V = W0 := ⟨_, rfl⟩
  rw [← hV0] at hX hY hb ⊢
  clear hV0
  have hs0 := hb.size
  have HX0 := Lib.hid hX
  have HY0 := Lib.hid hY
  have HB0 := Lib.hid hb
  clear hX hY hb
  go_loopw [5] (fun i wr => ∃ k : Nat, k ≤ pn ∧ i = .int .i64 k ∧ Below V0.heap.size V0 wr)
    (fun i _ => pn - (intOf i).toNat)
  case atStart => exact ⟨0, Nat.zero_le _, rfl, Below.refl _ _⟩
  case round =>
    obtain ⟨k, hk0, rfl, hbr⟩ := hrel
    have hX := HX0.out.below hbr HX0.out.lt
    have hY := HY0.out.below hbr HY0.out.lt
    have hb := HB0.out.trans (hbr.mono hs0)
    have hsz := hb.size
    have x0 := hX.cell 0
    have x1 := hX.cell 1
    have x2 := hX.cell 2
    have y0 := hY.cell 0
    have y1 := hY.cell 1
    have y2 := hY.cell 2
    simp only [List.getElem?_toArray, List.getElem?_cons_zero, List.getElem?_cons_succ] at x0 x1 x2 y0 y1 y2
    by_cases hlt0 : k < pn
    · have hkl : k < R.ps.length := by rw [← HL0.out]; exact hlt0
      obtain ⟨b, off, hA, hbB, c0, c1, c2, c3, c4⟩ := PS.at_ (hR.out.p.grow hb hsz) (k := k) hkl
      obtain ⟨b', off', hA', hbB', d0, d1, d2, d3, d4⟩ := PS.at_ (hR'.out.p.grow hb hsz) (k := k) hkl
      generalize R.ps[k]'hkl = x at c0 c1 c2 c3 c4 d0 d1 d2 d3 d4
      clear hkl
      have hi1 : (0 : Int) ≤ (k : Int) := by omega
      have hi2 : (k : Int) < (pn : Int) := by omega
      have HXX := Lib.hid hX
      have HYY := Lib.hid hY
      clear hX hY
      subst hA
      subst hA'
      go_wp2_with fail
      go_quiet (fail)
      go_wp2_with fail
      go_roundw
      case rel => exact ⟨k + 1, by omega, by go_num, below_drewN hbr _⟩
      case measure => simp [intOf]; omega
    · obtain rfl : k = pn := by omega
      go_wp2_with fail
      clear x0 x1 x2 y0 y1 y2
      clear hbr
      obtain ⟨V1, hV1⟩ : ∃ V, V = wr := ⟨_, rfl⟩
      rw [← hV1] at hX hY hb ⊢
      clear hV1
      have hs1 := hb.size
      have HX1 := Lib.hid hX
      have HY1 := Lib.hid hY
      have HB1 := Lib.hid hb
      clear hX hY hb
      go_loopw [6] (fun i wr => ∃ m : Nat, m ≤ cn ∧ i = .int .i64 m ∧ Below V1.heap.size V1 wr)
        (fun i _ => cn - (intOf i).toNat)
      case atStart => exact ⟨0, Nat.zero_le _, rfl, Below.refl _ _⟩
      case round =>
        obtain ⟨m, hk1, rfl, hbr⟩ := hrel
        have hX := HX1.out.below hbr HX1.out.lt
        have hY := HY1.out.below hbr HY1.out.lt
        have hb := HB1.out.trans (hbr.mono hs1)
        have hsz := hb.size
        have x0 := hX.cell 0
        have x1 := hX.cell 1
        have x2 := hX.cell 2
        have y0 := hY.cell 0
        have y1 := hY.cell 1
        have y2 := hY.cell 2
        simp only [List.getElem?_toArray, List.getElem?_cons_zero, List.getElem?_cons_succ] at x0 x1 x2 y0 y1 y2
        by_cases hlt1 : m < cn
        · have hkl : m < R.cs.length := by rw [← HL1.out]; exact hlt1
          obtain ⟨b, off, hA, hbB, c0, c1⟩ := CS.at_ (hR.out.c.grow hb hsz) (k := m) hkl
          obtain ⟨b', off', hA', hbB', d0, d1⟩ := CS.at_ (hR'.out.c.grow hb hsz) (k := m) hkl
          generalize R.cs[m]'hkl = x at c0 c1 d0 d1
          clear hkl
          have hi1 : (0 : Int) ≤ (m : Int) := by omega
          have hi2 : (m : Int) < (cn : Int) := by omega
          have HXX := Lib.hid hX
          have HYY := Lib.hid hY
          clear hX hY
          subst hA
          subst hA'
          go_wp2_with fail
          go_quiet (fail)
          go_wp2_with fail
          go_roundw
          case rel => exact ⟨m + 1, by omega, by go_num, below_drewN hbr _⟩
          case measure => simp [intOf]; omega
        · obtain rfl : m = cn := by omega
          go_wp2_with fail
          clear x0 x1 x2 y0 y1 y2
          clear hbr
          obtain ⟨V2, hV2⟩ : ∃ V, V = wr := ⟨_, rfl⟩
          rw [← hV2] at hX hY hb ⊢
          clear hV2
          have hs2 := hb.size
          have HX2 := Lib.hid hX
          have HY2 := Lib.hid hY
          have HB2 := Lib.hid hb
          clear hX hY hb
          go_loopw [7] (fun i wr => ∃ q : Nat, q ≤ jn ∧ i = .int .i64 q ∧ Below V2.heap.size V2 wr)
            (fun i _ => jn - (intOf i).toNat)
          case atStart => exact ⟨0, Nat.zero_le _, rfl, Below.refl _ _⟩
          case round =>
            obtain ⟨q, hk2, rfl, hbr⟩ := hrel
            have hX := HX2.out.below hbr HX2.out.lt
            have hY := HY2.out.below hbr HY2.out.lt
            have hb := HB2.out.trans (hbr.mono hs2)
            have hsz := hb.size
            have x0 := hX.cell 0
            have x1 := hX.cell 1
            have x2 := hX.cell 2
            have y0 := hY.cell 0
            have y1 := hY.cell 1
            have y2 := hY.cell 2
            simp only [List.getElem?_toArray, List.getElem?_cons_zero, List.getElem?_cons_succ] at x0 x1 x2 y0 y1 y2
            by_cases hlt2 : q < jn
            · have hkl : q < R.js.length := by rw [← HL2.out]; exact hlt2
              obtain ⟨b, off, hA, hbB, c0, c1, c2⟩ := JS.at_ (hR.out.j.grow hb hsz) (k := q) hkl
              obtain ⟨b', off', hA', hbB', d0, d1, d2⟩ := JS.at_ (hR'.out.j.grow hb hsz) (k := q) hkl
              generalize R.js[q]'hkl = x at c0 c1 c2 d0 d1 d2
              clear hkl
              have hi1 : (0 : Int) ≤ (q : Int) := by omega
              have hi2 : (q : Int) < (jn : Int) := by omega
              have HXX := Lib.hid hX
              have HYY := Lib.hid hY
              clear hX hY
              subst hA
              subst hA'
              go_wp2_with fail
              go_quiet (fail)
              go_wp2_with fail
              go_roundw
              case rel => exact ⟨q + 1, by omega, by go_num, below_drewN hbr _⟩
              case measure => simp [intOf]; omega
            · obtain rfl : q = jn := by omega
              go_wp2_with fail
              go_ret
              exact ⟨rfl, hb⟩
end Go.Proofs.Ytomloklckpcaiaa

/- The law function RoadJoins, walked: it returns true. -/
namespace Go.Proofs.Ytomloklckpcaiaa
open Go.RowKit Go.Shelf Go.Sort Go.Proofs

theorem sum_le40 : ∀ {l : List Piece}, (∀ p ∈ l, p.len ≤ 40) → sumL l ≤ 40 * l.length
  | [], _ => by simp [sumL]
  | p :: l, h => by
    have h1 := h p (List.mem_cons_self ..)
    have h2 := sum_le40 (l := l) (fun q hq => h q (List.mem_cons_of_mem _ hq))
    rw [sumL_cons, List.length_cons]; omega
theorem sml_bd {R : Road} (hv : OK R) (h : sml R = true) : R.ps.length ≤ 20 ∧ R.cs.length ≤ 20 ∧ R.js.length ≤ 20 ∧ sumL R.ps ≤ 800 := by
  simp only [sml, Bool.and_eq_true, decide_eq_true_eq, List.all_eq_true] at h
  obtain ⟨h1, h2, h3, h4⟩ := h
  have h5 := sum_le40 (l := R.ps) (fun p hp => by
    have q1 := h4 p hp
    have q2 := pOk_len (hv.pk p hp)
    simp at q1
    omega)
  exact ⟨h1, h2, h3, by omega⟩
end Go.Proofs.Ytomloklckpcaiaa
