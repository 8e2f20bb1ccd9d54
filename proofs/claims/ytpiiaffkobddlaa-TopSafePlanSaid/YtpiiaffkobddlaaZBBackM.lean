/- The way back, plainly: the corners of a reversed road. No program in sight. -/
import Derived.Test.YtpiiaffkobddlaaZBCorn
import Derived.Test.YtpiiaffkobddlaaZBFind
import Derived.Test.YtpiiaffkobddlaaZBReg
import Derived.Test.YtpiiaffkobddlaaZBPG
namespace Go.Proofs.Ytpiiaffkobddlaa
open Go.RowKit Go.Proofs

def neg (p : Piece) : Piece := { p with turn := -p.turn }
end Go.Proofs.Ytpiiaffkobddlaa

/- road.Reverse, walked. -/
namespace Go.Proofs.Ytpiiaffkobddlaa
open Go.RowKit Go.Shelf Go.Sort Go.Proofs

section
variable {α β : Type} {f : α → List Value} {f' : β → List Value} {sz sz' : Nat} {e e' : TypeId} {base base' : Nat} {w w' : World} {A A' : Option Addr} {n c n' c' : Nat} {xs : List α} {ys : List β}
/-- Rows of different element types never share a block. -/
theorem OW.ty (h : OW f sz e base w A n c xs) {a : Addr} (ha : A = some a) : ∃ cur, w.heap[a.block]? = some (.cells cur e (0, 0)) := by
  subst ha
  rcases h.1.2 with ⟨h3, _⟩ | ⟨g', cap, cur, h3, _, hg', _⟩
  · cases h3
  · injection h3 with h3
    injection h3 with h3
    subst h3
    exact ⟨cur, hg'⟩
theorem BK.ne_row (hb : BK w n' e' #[] ∨ ∃ cs, BK w n' e' cs) (h : OW f sz e base w A n c xs) (hne : e ≠ e') {a : Addr} (ha : A = some a) : a.block ≠ n' := by
  intro q
  obtain ⟨c1, h1⟩ := h.ty ha
  rcases hb with hb | ⟨cs, hb⟩
  · rw [q, show w.heap[n']? = _ from hb] at h1
    injection h1 with h1
    injection h1 with _ h1
    exact hne h1.symm
  · rw [q, show w.heap[n']? = _ from hb] at h1
    injection h1 with h1
    injection h1 with _ h1
    exact hne h1.symm
/-- A list whose first k elements are changed. -/
def mid (g : α → α) (l : List α) (k : Nat) : List α := (l.take k).map g ++ l.drop k
end

end Go.Proofs.Ytpiiaffkobddlaa

/- Two roads joined, plainly; and a road that a call builds in a box: its three rows, and what becomes of them when one grows. -/
namespace Go.Proofs.Ytpiiaffkobddlaa
open Go.RowKit Go.Shelf Go.Sort Go.Proofs

/-! ### A road in a box -/
/-- The box tb holds three rows of the call's own. -/
structure JB (tR tP tC tJ : TypeId) (base : Nat) (w : World) (tb : Nat) (A1 : Option Addr) (n1 c1 : Nat) (ps : List Piece) (A2 : Option Addr) (n2 c2 : Nat) (cs : List Crest) (A3 : Option Addr) (n3 c3 : Nat) (js : List Junc) : Prop where
  b : BK w tb tR #[.slice A1 n1 c1, .slice A2 n2 c2, .slice A3 n3 c3]
  p : OW pC 5 tP base w A1 n1 c1 ps
  c : OW cC 2 tC base w A2 n2 c2 cs
  j : OW jC 3 tJ base w A3 n3 c3 js
section
variable {tR tP tC tJ : TypeId} {base : Nat} {w w' : World} {tb : Nat} {A1 : Option Addr} {n1 c1 : Nat} {ps : List Piece} {A2 : Option Addr} {n2 c2 : Nat} {cs : List Crest} {A3 : Option Addr} {n3 c3 : Nat} {js : List Junc}
theorem JB.call (h : JB tR tP tC tJ base w tb A1 n1 c1 ps A2 n2 c2 cs A3 n3 c3 js) (hb : Below w.heap.size w w') : JB tR tP tC tJ base w' tb A1 n1 c1 ps A2 n2 c2 cs A3 n3 c3 js :=
  ⟨h.b.below hb h.b.lt, h.p.call hb, h.c.call hb, h.j.call hb⟩
theorem JB.alloc (h : JB tR tP tC tJ base w tb A1 n1 c1 ps A2 n2 c2 cs A3 n3 c3 js) (o : Obj) : JB tR tP tC tJ base (w.alloc o) tb A1 n1 c1 ps A2 n2 c2 cs A3 n3 c3 js :=
  ⟨h.b.alloc o, h.p.alloc o, h.c.alloc o, h.j.alloc o⟩
variable (h : JB tR tP tC tJ base w tb A1 n1 c1 ps A2 n2 c2 cs A3 n3 c3 js)
include h
end
end Go.Proofs.Ytpiiaffkobddlaa

/- bounded: a road that is not too long, or the error. -/
namespace Go.Proofs.Ytpiiaffkobddlaa
open Go.RowKit Go.Shelf Go.Sort Go.Proofs

def fitsR (R : Road) : Bool := decide (R.ps.length ≤ 2000) && (decide (R.cs.length ≤ 1000) && (decide (R.js.length ≤ 200) && decide (sumL R.ps ≤ 100000)))
/-- What bounded gives. -/
def boundV (pa : Option Addr) (pn pc : Nat) (ca : Option Addr) (cn cc : Nat) (ja : Option Addr) (jn jc : Nat) (R : Road) : Value :=
  if fitsR R = true then .tuple #[.agg #[.slice pa pn pc, .slice ca cn cc, .slice ja jn jc], .int .i64 0] else .tuple #[.agg #[.slice none 0 0, .slice none 0 0, .slice none 0 0], .int .i64 4]
set_option maxRecDepth 100000 in
theorem bounded_any (pa : Option Addr) (pn pc : Nat) (ca : Option Addr) (cn cc : Nat) (ja : Option Addr) (jn jc : Nat) (R : Road) (w : World)
    (h : RD w w.heap.size pa pn ca cn ja jn R) (hk : ∀ p ∈ R.ps, pOk p = true) (hl : pn ≤ 20000) :
    Calls Try.prog 29 #[.agg #[.slice pa pn pc, .slice ca cn cc, .slice ja jn jc]] w fun e w' => e = .returned (boundV pa pn pc ca cn cc ja jn jc R) ∧ Below w.heap.size w w' := by
  have hR := Lib.hid h
  have hk' := Lib.hid hk
  have hS := sumL_bd R.ps hk
  have hfit : fitsR R = (decide (pn ≤ 2000) && (decide (cn ≤ 1000) && (decide (jn ≤ 200) && decide (sumL R.ps ≤ 100000)))) := by rw [fitsR, h.p.1, h.c.1, h.j.1]
  have hpe := h.p.1
  obtain ⟨S, hSe⟩ : ∃ S, S = sumL R.ps := ⟨_, rfl⟩
  have HS := Lib.hid hSe
  rw [← hSe] at hS hfit
  obtain ⟨s1, s2⟩ : 0 ≤ S ∧ S ≤ 100000000 := by omega
  clear h hk hSe hS hpe
  obtain ⟨w0, hw0⟩ : ∃ w0, w0 = (w.alloc (.cells #[.slice pa pn pc, .slice ca cn cc, .slice ja jn jc] 26)).alloc (.cells #[.slice none 0 0, .slice none 0 0, .slice none 0 0] 26) := ⟨_, rfl⟩
  have hB0 : Below w.heap.size w w0 := by rw [hw0]; exact ((Below.refl w.heap.size w).alloc (Nat.le_refl _) _).alloc (by simp) _
  have hX0 : BK w0 w.heap.size 26 #[.slice pa pn pc, .slice ca cn cc, .slice ja jn jc] := by rw [hw0]; exact (BK.new w _ _).alloc _
  have hY0 : BK w0 (w.heap.size + 1) 26 #[.slice none 0 0, .slice none 0 0, .slice none 0 0] := by rw [hw0]; have := BK.new (w.alloc (.cells #[.slice pa pn pc, .slice ca cn cc, .slice ja jn jc] 26)) 26 #[.slice none 0 0, .slice none 0 0, .slice none 0 0]; rw [World.size_alloc] at this; exact this
  have hB0' : Hid (Below w.heap.size w ((w.alloc (.cells #[.slice pa pn pc, .slice ca cn cc, .slice ja jn jc] 26)).alloc (.cells #[.slice none 0 0, .slice none 0 0, .slice none 0 0] 26))) := hw0 ▸ hB0
  by_cases g1 : pn ≤ 2000
  · by_cases g2 : cn ≤ 1000
    · by_cases g3 : jn ≤ 200
      · have hfit' : Hid (fitsR R = decide (S ≤ 100000)) := by show _ = _; simpa [g1, g2, g3] using hfit
        clear hfit
        go_enter Try.func29, Try.ntmps29
        go_wp2_with fail
        rw [← hw0]
        clear hw0 hB0'
        refine (measure_any _ _ _ _ _ _ _ _ _ R _ (hR.out.grow hB0 hB0.size) hk'.out (by omega)).mono ?_
        rintro e w2 ⟨g, ba, bq, rfl, hM, hg, hk1⟩
        have hB2 := hB0.trans (hk1.mono hB0.size)
        have hX2 := hX0.below hk1 hX0.lt
        have hY2 := hY0.below hk1 hY0.lt
        clear hB0 hX0 hY0
        go_wp2_with fail
        refine (mlength_any _ _ _ _ _ _ _ _ _ _ _ _ R _ _ hM (by omega)).mono ?_
        rintro e w3' ⟨rfl, nd, hw3⟩
        obtain ⟨w3, hw3e⟩ : ∃ w3, w3 = w3' := ⟨_, rfl⟩
        rw [← hw3e] at hw3 ⊢
        have hk2 : Below w2.heap.size w2 w3 := by rw [hw3]; exact below_drewN (Below.refl _ _) _
        clear hw3 hw3e hM
        rw [← HS.out]
        have hB3 := hB2.trans (hk2.mono hB2.size)
        have hX3 := hX2.below hk2 hX2.lt
        have hY3 := hY2.below hk2 hY2.lt
        have hz3 : w.heap.size + 1 < w3.heap.size := hY3.lt
        have x0 := hX3.cell 0
        have x1 := hX3.cell 1
        have x2 := hX3.cell 2
        have yf := hY3.frozen
        have y0 := hY3.cell 0
        have y1 := hY3.cell 1
        have y2 := hY3.cell 2
        simp only [List.getElem?_toArray, List.getElem?_cons_zero, List.getElem?_cons_succ] at x0 x1 x2 y0 y1 y2
        clear hk1 hk2 hB2 hX2 hY2
        by_cases hle : S ≤ 100000
        · have hV : Hid (boundV pa pn pc ca cn cc ja jn jc R = .tuple #[.agg #[.slice pa pn pc, .slice ca cn cc, .slice ja jn jc], .int .i64 0]) := by
            unfold boundV; rw [hfit'.out, if_pos (by simpa using hle)]; exact rfl
          go_wp2_with fail
          have hYF := ((hY3.set_ 0 (.slice pa pn pc)).set_ 1 (.slice ca cn cc)).set_ 2 (.slice ja jn jc)
          have hBF := ((hB3.setCell (p := ⟨w.heap.size + 1, 0, none⟩) (by simp) (.slice pa pn pc)).setCell (p := ⟨w.heap.size + 1, 1, none⟩) (by simp) (.slice ca cn cc)).setCell (p := ⟨w.heap.size + 1, 2, none⟩) (by simp) (.slice ja jn jc)
          obtain ⟨wF, hwF⟩ : ∃ wF, wF = ((w3.setCell ⟨w.heap.size + 1, 0, none⟩ (.slice pa pn pc)).setCell ⟨w.heap.size + 1, 1, none⟩ (.slice ca cn cc)).setCell ⟨w.heap.size + 1, 2, none⟩ (.slice ja jn jc) := ⟨_, rfl⟩
          rw [← hwF] at hYF hBF ⊢
          clear hwF
          have z0 := hYF.cell 0
          have z1 := hYF.cell 1
          have z2 := hYF.cell 2
          simp at z0 z1 z2
          refine bodyPost_ret (v := .tuple #[.agg #[.slice pa pn pc, .slice ca cn cc, .slice ja jn jc], .int .i64 0]) (by simp [results, Try.results29, go_sem, z0, z1, z2]) rfl ⟨by rw [hV.out], hBF⟩
        · have hV : Hid (boundV pa pn pc ca cn cc ja jn jc R = .tuple #[.agg #[.slice none 0 0, .slice none 0 0, .slice none 0 0], .int .i64 4]) := by
            unfold boundV; rw [hfit'.out, if_neg (by simpa using hle)]; exact rfl
          go_wp2_with fail
          have hYF := ((hY3.set_ 0 (.slice none 0 0)).set_ 1 (.slice none 0 0)).set_ 2 (.slice none 0 0)
          have hBF := ((hB3.setCell (p := ⟨w.heap.size + 1, 0, none⟩) (by simp) (.slice none 0 0)).setCell (p := ⟨w.heap.size + 1, 1, none⟩) (by simp) (.slice none 0 0)).setCell (p := ⟨w.heap.size + 1, 2, none⟩) (by simp) (.slice none 0 0)
          obtain ⟨wF, hwF⟩ : ∃ wF, wF = ((w3.setCell ⟨w.heap.size + 1, 0, none⟩ (.slice none 0 0)).setCell ⟨w.heap.size + 1, 1, none⟩ (.slice none 0 0)).setCell ⟨w.heap.size + 1, 2, none⟩ (.slice none 0 0) := ⟨_, rfl⟩
          rw [← hwF] at hYF hBF ⊢
          clear hwF
          have z0 := hYF.cell 0
          have z1 := hYF.cell 1
          have z2 := hYF.cell 2
          simp at z0 z1 z2
          refine bodyPost_ret (v := .tuple #[.agg #[.slice none 0 0, .slice none 0 0, .slice none 0 0], .int .i64 4]) (by simp [results, Try.results29, go_sem, z0, z1, z2]) rfl ⟨by rw [hV.out], hBF⟩
      · have hV : Hid (boundV pa pn pc ca cn cc ja jn jc R = .tuple #[.agg #[.slice none 0 0, .slice none 0 0, .slice none 0 0], .int .i64 4]) := by
          unfold boundV; rw [hfit, if_neg (by simp [g3])]; exact rfl
        clear hfit hw0 hB0 hX0 hY0
        go_enter Try.func29, Try.ntmps29
        have q0 : ¬ (2000 : Int) < pn := by omega
        have q1 : ¬ (1000 : Int) < cn := by omega
        have q2 : (200 : Int) < jn := by omega
        clear g1 g2 g3
        go_wp2_with fail
        refine bodyPost_ret (v := .tuple #[.agg #[.slice none 0 0, .slice none 0 0, .slice none 0 0], .int .i64 4]) (by simp [results, Try.results29, go_sem]) rfl ⟨by rw [hV.out], hB0'.out⟩
    · have hV : Hid (boundV pa pn pc ca cn cc ja jn jc R = .tuple #[.agg #[.slice none 0 0, .slice none 0 0, .slice none 0 0], .int .i64 4]) := by
        unfold boundV; rw [hfit, if_neg (by simp [g2])]; exact rfl
      clear hfit hw0 hB0 hX0 hY0
      go_enter Try.func29, Try.ntmps29
      have q0 : ¬ (2000 : Int) < pn := by omega
      have q1 : (1000 : Int) < cn := by omega
      clear g1 g2
      go_wp2_with fail
      refine bodyPost_ret (v := .tuple #[.agg #[.slice none 0 0, .slice none 0 0, .slice none 0 0], .int .i64 4]) (by simp [results, Try.results29, go_sem]) rfl ⟨by rw [hV.out], hB0'.out⟩
  · have hV : Hid (boundV pa pn pc ca cn cc ja jn jc R = .tuple #[.agg #[.slice none 0 0, .slice none 0 0, .slice none 0 0], .int .i64 4]) := by
      unfold boundV; rw [hfit, if_neg (by simp [g1])]; exact rfl
    clear hfit hw0 hB0 hX0 hY0
    go_enter Try.func29, Try.ntmps29
    have q0 : (2000 : Int) < pn := by omega
    clear g1
    go_wp2_with fail
    refine bodyPost_ret (v := .tuple #[.agg #[.slice none 0 0, .slice none 0 0, .slice none 0 0], .int .i64 4]) (by simp [results, Try.results29, go_sem]) rfl ⟨by rw [hV.out], hB0'.out⟩
end Go.Proofs.Ytpiiaffkobddlaa

/- A reversed road is as defined. Plain; no program in sight. -/
namespace Go.Proofs.Ytpiiaffkobddlaa
open Go.RowKit Go.Proofs

theorem getE_pw {α : Type} (f : α → Int) : ∀ (l : List α), (∀ i, i < l.length → ∀ c d, l[i]? = some c → 0 < i → l[i-1]? = some d → f d < f c) → l.Pairwise fun a b => f a < f b
  | [], _ => List.Pairwise.nil
  | [_], _ => List.pairwise_singleton ..
  | a :: b :: l, h => by
    have ih := getE_pw f (b :: l) (fun i hi c d hc h0 hd => h (i + 1) (by simp at hi ⊢; omega) c d (by simpa using hc) (by omega) (by
      obtain ⟨j, rfl⟩ : ∃ j, i = j + 1 := ⟨i - 1, by omega⟩
      simpa using hd))
    have hab := h 1 (by simp) b a rfl (by omega) rfl
    refine List.pairwise_cons.2 ⟨fun x hx => ?_, ih⟩
    rcases List.mem_cons.1 hx with rfl | hx
    · exact hab
    · have := (List.pairwise_cons.1 ih).1 x hx; omega
theorem pw_getE {α : Type} {f : α → Int} {l : List α} (h : l.Pairwise fun a b => f a < f b) (i : Nat) {c d : α} (hc : l[i]? = some c) (h0 : 0 < i) (hd : l[i-1]? = some d) : f d < f c := by
  obtain ⟨h1, rfl⟩ := List.getElem?_eq_some_iff.1 hc
  obtain ⟨h2, rfl⟩ := List.getElem?_eq_some_iff.1 hd
  exact List.pairwise_iff_getElem.1 h (i-1) i h2 h1 (by omega)
theorem crests_iff (n : Int) (cs : List Crest) : (∀ i, i < cs.length → cAt n cs i) ↔ (∀ c ∈ cs, inR c.pos 0 n = true ∧ inR c.siz 1 3 = true) ∧ cs.Pairwise fun a b => a.pos < b.pos := by
  constructor
  · intro h
    refine ⟨fun c hc => ?_, getE_pw Crest.pos cs (fun i hi c d hc h0 hd => (h i hi c hc).2.2 d h0 hd)⟩
    obtain ⟨i, hi, rfl⟩ := List.getElem_of_mem hc
    have := h i hi _ (List.getElem?_eq_getElem hi)
    exact ⟨this.1, this.2.1⟩
  · rintro ⟨h1, h2⟩ i hi c hc
    have hm := h1 c (List.mem_of_getElem? hc)
    exact ⟨hm.1, hm.2, fun d h0 hd => pw_getE (f := Crest.pos) h2 i hc h0 hd⟩
theorem juncs_iff (n : Int) (js : List Junc) : (∀ i, i < js.length → jAt n js i) ↔ (∀ c ∈ js, inR c.pos 0 n = true ∧ inR c.arms 2 6 = true ∧ inR c.way 1 c.arms = true) ∧ js.Pairwise fun a b => a.pos < b.pos := by
  constructor
  · intro h
    refine ⟨fun c hc => ?_, getE_pw Junc.pos js (fun i hi c d hc h0 hd => (h i hi c hc).2.2.2 d h0 hd)⟩
    obtain ⟨i, hi, rfl⟩ := List.getElem_of_mem hc
    have := h i hi _ (List.getElem?_eq_getElem hi)
    exact ⟨this.1, this.2.1, this.2.2.1⟩
  · rintro ⟨h1, h2⟩ i hi c hc
    have hm := h1 c (List.mem_of_getElem? hc)
    exact ⟨hm.1, hm.2.1, hm.2.2, fun d h0 hd => pw_getE (f := Junc.pos) h2 i hc h0 hd⟩
end Go.Proofs.Ytpiiaffkobddlaa
