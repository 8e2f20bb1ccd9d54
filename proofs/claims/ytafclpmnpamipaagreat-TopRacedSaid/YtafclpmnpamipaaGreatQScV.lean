/- Package score: what Results knows while it goes through the cars. Printed by genscv.py. -/
import Derived.Test.YtafclpmnpamipaaGreatQScI
import Derived.Test.YtafclpmnpamipaaGreatQScH
import Derived.Test.YtafclpmnpamipaaGreatQScU
namespace Go.Proofs.YtafclpmnpamipaaGreat
open Go.RowKit Go.Shelf Go.Sort Go.Proofs

theorem fill_congr {n k : Nat} {f g : Nat → Value} (z : Value) (h : ∀ j, j < k → f j = g j) : fillA n f z k = fillA n g z k := by
  unfold fillA
  congr 1
  refine List.map_congr_left fun j _ => ?_
  by_cases hj : j < k
  · rw [if_pos hj, if_pos hj, h j hj]
  · rw [if_neg hj, if_neg hj]
def tV (ts : List Int) (j : Nat) : Value := .int .i64 (ts.getD j 0)
/-- A car wins a stage if nobody was faster. -/
def wnF (ts : List Int) (j : Nat) : Int := if ts.getD j 0 = (srtL ts).getD 0 0 then 1 else 0
def wV (ts : List Int) (j : Nat) : Value := .int .i64 (wnF ts j)
def sV (sg : List (Nat × Nat)) (j : Nat) : Value := slV (sg.getD j (0, 0))
/-- Where things lie. -/
structure LP where (TA WA SA tb wb sb xb pb eb w2s w4s : Nat)
/-- That they lie apart. -/
structure LN (P : LP) : Prop where
  ds : [P.TA, P.WA, P.SA, P.tb, P.wb, P.sb].Nodup
  lo : ∀ b ∈ [P.TA, P.WA, P.SA, P.tb, P.wb, P.sb], P.w2s ≤ b ∧ b < P.w4s
  xb : P.xb < P.w2s
  pb : P.pb < P.w2s
structure LS (P : LP) (w : World) (L : PlF) (ca : Option Addr) (cn cc : Nat) (oa : Option Addr) (oc : Nat) (xs : List CdV) (ts : List Int) (W : World) (kt kw ks : Nat) (A : Option Addr) (n c : Nat) (sg : List (Nat × Nat)) : Prop where
  T : BK W P.TA 3 (fillA cn (tV ts) (.int .i64 0) kt)
  V : BK W P.WA 3 (fillA cn (wV ts) (.int .i64 0) kw)
  S : BK W P.SA 28 (fillA cn (sV sg) (.slice none 0 0) ks)
  t : BK W P.tb 28 #[.slice (some ⟨P.TA, 0, none⟩) cn cn]
  v : BK W P.wb 28 #[.slice (some ⟨P.WA, 0, none⟩) cn cn]
  s : BK W P.sb 114 #[.slice (some ⟨P.SA, 0, none⟩) cn cn]
  q : BK W P.xb 111 #[.pointer (some ⟨P.eb, 0, none⟩)]
  x : BK W P.pb 42 #[.slice (some ⟨L.ib, 0, none⟩) 1 L.ic, .int .i64 1, .int .i64 0, .int .i64 0, .int .i64 L.ml, .int .i64 L.ll, .slice (some ⟨L.jb, 0, none⟩) 1 L.jc, .bool false, .int .i64 0, .int .i64 1, .int .i64 100, .int .i64 L.pow, .slice L.pa L.ps.length L.pc, .slice none 0 0]
  e : EV W P.w2s P.eb L ca cn cc oa oc xs
  o : OW iC 1 3 P.w4s W A n c (rng n)
  g : ∀ (j : Nat) (p : Nat × Nat), sg[j]? = some p → P.w4s ≤ p.1 ∧ p.1 < W.heap.size ∧ W.cell? ⟨p.1, 0, none⟩ = some (tV ts j)
  b : Below w.heap.size w W
  z : P.w4s ≤ W.heap.size
  y : w.heap.size ≤ P.w2s
  N : LN P
section
variable {P : LP} {w : World} {L : PlF} {ca oa : Option Addr} {cn cc oc : Nat} {xs : List CdV} {ts : List Int} {W W' : World} {kt kw ks : Nat} {A : Option Addr} {n c : Nat} {sg : List (Nat × Nat)}
theorem LN.ne (h : LN P) : (P.TA ≠ P.WA ∧ P.TA ≠ P.SA ∧ P.TA ≠ P.tb ∧ P.TA ≠ P.wb ∧ P.TA ≠ P.sb) ∧ (P.WA ≠ P.SA ∧ P.WA ≠ P.tb ∧ P.WA ≠ P.wb ∧ P.WA ≠ P.sb) ∧ (P.SA ≠ P.tb ∧ P.SA ≠ P.wb ∧ P.SA ≠ P.sb) := by
  have := h.ds
  simp only [List.nodup_cons, List.mem_cons, List.not_mem_nil, or_false, not_or] at this
  obtain ⟨⟨a1, a2, a3, a4, a5⟩, ⟨b1, b2, b3, b4⟩, ⟨c1, c2, c3⟩, _⟩ := this
  exact ⟨⟨a1, a2, a3, a4, a5⟩, ⟨b1, b2, b3, b4⟩, ⟨c1, c2, c3⟩⟩
theorem LN.a (h : LN P) : P.w2s ≤ P.TA ∧ P.TA < P.w4s := h.lo _ (by simp)
theorem LN.u (h : LN P) : P.w2s ≤ P.WA ∧ P.WA < P.w4s := h.lo _ (by simp)
theorem LN.r (h : LN P) : P.w2s ≤ P.SA ∧ P.SA < P.w4s := h.lo _ (by simp)
/-- A call that leaves old memory as it was. -/
theorem LS.call (h : LS P w L ca cn cc oa oc xs ts W kt kw ks A n c sg) (hb : Below W.heap.size W W') : LS P w L ca cn cc oa oc xs ts W' kt kw ks A n c sg where
  T := h.T.below hb h.T.lt
  V := h.V.below hb h.V.lt
  S := h.S.below hb h.S.lt
  t := h.t.below hb h.t.lt
  v := h.v.below hb h.v.lt
  s := h.s.below hb h.s.lt
  q := h.q.below hb h.q.lt
  x := h.x.below hb h.x.lt
  e := h.e.grow (hb.mono (by have := h.z; have := h.N.a; omega)) (Nat.le_refl _)
  o := h.o.call hb
  g j p hp := let q := h.g j p hp; ⟨q.1, Nat.lt_of_lt_of_le q.2.1 hb.size, (bc hb q.2.1).trans q.2.2⟩
  b := h.b.trans (hb.mono h.b.size)
  z := Nat.le_trans h.z hb.size
  y := h.y
  N := h.N
theorem LS.o_ne (h : LS P w L ca cn cc oa oc xs ts W kt kw ks A n c sg) {b : Nat} (hb : b < P.w4s) : ∀ g, A = some g → g.block ≠ b := fun g hg => by have := (h.o.lt hg).1; omega
theorem LS.setT (h : LS P w L ca cn cc oa oc xs ts W kt kw ks A n c sg) : LS P w L ca cn cc oa oc xs ts (W.setCell ⟨P.TA, kt, none⟩ (tV ts kt)) (kt + 1) kw ks A n c sg where
  T := by rw [← fill_set]; exact h.T.set_ kt _
  V := h.V.far (p := ⟨P.TA, kt, none⟩) (by have := h.N.ne; show P.WA ≠ P.TA; exact Ne.symm this.1.1) _
  S := h.S.far (p := ⟨P.TA, kt, none⟩) (by have := h.N.ne; show P.SA ≠ P.TA; exact Ne.symm this.1.2.1) _
  t := h.t.far (p := ⟨P.TA, kt, none⟩) (by have := h.N.ne; show P.tb ≠ P.TA; exact Ne.symm this.1.2.2.1) _
  v := h.v.far (p := ⟨P.TA, kt, none⟩) (by have := h.N.ne; show P.wb ≠ P.TA; exact Ne.symm this.1.2.2.2.1) _
  s := h.s.far (p := ⟨P.TA, kt, none⟩) (by have := h.N.ne; show P.sb ≠ P.TA; exact Ne.symm this.1.2.2.2.2) _
  q := h.q.far (p := ⟨P.TA, kt, none⟩) (by have := h.N.xb; have := h.N.a; show P.xb ≠ P.TA; omega) _
  x := h.x.far (p := ⟨P.TA, kt, none⟩) (by have := h.N.pb; have := h.N.a; show P.pb ≠ P.TA; omega) _
  e := h.e.grow ((Below.refl P.w2s W).setCell (p := ⟨P.TA, kt, none⟩) h.N.a.1 _) (Nat.le_refl _)
  o := h.o.setCell (fun g hg => h.o_ne h.N.a.2 g hg) _
  g j p hp := let q := h.g j p hp; ⟨q.1, by simpa using q.2.1, (World.cell?_of_block (Below.heap_setCell _ _ _ p.1 (by have := h.N.a; show p.1 ≠ P.TA; omega))).trans q.2.2⟩
  b := h.b.setCell (p := ⟨P.TA, kt, none⟩) (by have := h.N.a; have := h.y; show w.heap.size ≤ P.TA; omega) _
  z := by simpa using h.z
  y := h.y
  N := h.N
theorem LS.setV (h : LS P w L ca cn cc oa oc xs ts W kt kw ks A n c sg) : LS P w L ca cn cc oa oc xs ts (W.setCell ⟨P.WA, kw, none⟩ (wV ts kw)) kt (kw + 1) ks A n c sg where
  T := h.T.far (p := ⟨P.WA, kw, none⟩) (by have := h.N.ne; show P.TA ≠ P.WA; exact this.1.1) _
  V := by rw [← fill_set]; exact h.V.set_ kw _
  S := h.S.far (p := ⟨P.WA, kw, none⟩) (by have := h.N.ne; show P.SA ≠ P.WA; exact Ne.symm this.2.1.1) _
  t := h.t.far (p := ⟨P.WA, kw, none⟩) (by have := h.N.ne; show P.tb ≠ P.WA; exact Ne.symm this.2.1.2.1) _
  v := h.v.far (p := ⟨P.WA, kw, none⟩) (by have := h.N.ne; show P.wb ≠ P.WA; exact Ne.symm this.2.1.2.2.1) _
  s := h.s.far (p := ⟨P.WA, kw, none⟩) (by have := h.N.ne; show P.sb ≠ P.WA; exact Ne.symm this.2.1.2.2.2) _
  q := h.q.far (p := ⟨P.WA, kw, none⟩) (by have := h.N.xb; have := h.N.u; show P.xb ≠ P.WA; omega) _
  x := h.x.far (p := ⟨P.WA, kw, none⟩) (by have := h.N.pb; have := h.N.u; show P.pb ≠ P.WA; omega) _
  e := h.e.grow ((Below.refl P.w2s W).setCell (p := ⟨P.WA, kw, none⟩) h.N.u.1 _) (Nat.le_refl _)
  o := h.o.setCell (fun g hg => h.o_ne h.N.u.2 g hg) _
  g j p hp := let q := h.g j p hp; ⟨q.1, by simpa using q.2.1, (World.cell?_of_block (Below.heap_setCell _ _ _ p.1 (by have := h.N.u; show p.1 ≠ P.WA; omega))).trans q.2.2⟩
  b := h.b.setCell (p := ⟨P.WA, kw, none⟩) (by have := h.N.u; have := h.y; show w.heap.size ≤ P.WA; omega) _
  z := by simpa using h.z
  y := h.y
  N := h.N
theorem LS.setS (h : LS P w L ca cn cc oa oc xs ts W kt kw ks A n c sg) : LS P w L ca cn cc oa oc xs ts (W.setCell ⟨P.SA, ks, none⟩ (sV sg ks)) kt kw (ks + 1) A n c sg where
  T := h.T.far (p := ⟨P.SA, ks, none⟩) (by have := h.N.ne; show P.TA ≠ P.SA; exact this.1.2.1) _
  V := h.V.far (p := ⟨P.SA, ks, none⟩) (by have := h.N.ne; show P.WA ≠ P.SA; exact this.2.1.1) _
  S := by rw [← fill_set]; exact h.S.set_ ks _
  t := h.t.far (p := ⟨P.SA, ks, none⟩) (by have := h.N.ne; show P.tb ≠ P.SA; exact Ne.symm this.2.2.1) _
  v := h.v.far (p := ⟨P.SA, ks, none⟩) (by have := h.N.ne; show P.wb ≠ P.SA; exact Ne.symm this.2.2.2.1) _
  s := h.s.far (p := ⟨P.SA, ks, none⟩) (by have := h.N.ne; show P.sb ≠ P.SA; exact Ne.symm this.2.2.2.2) _
  q := h.q.far (p := ⟨P.SA, ks, none⟩) (by have := h.N.xb; have := h.N.r; show P.xb ≠ P.SA; omega) _
  x := h.x.far (p := ⟨P.SA, ks, none⟩) (by have := h.N.pb; have := h.N.r; show P.pb ≠ P.SA; omega) _
  e := h.e.grow ((Below.refl P.w2s W).setCell (p := ⟨P.SA, ks, none⟩) h.N.r.1 _) (Nat.le_refl _)
  o := h.o.setCell (fun g hg => h.o_ne h.N.r.2 g hg) _
  g j p hp := let q := h.g j p hp; ⟨q.1, by simpa using q.2.1, (World.cell?_of_block (Below.heap_setCell _ _ _ p.1 (by have := h.N.r; show p.1 ≠ P.SA; omega))).trans q.2.2⟩
  b := h.b.setCell (p := ⟨P.SA, ks, none⟩) (by have := h.N.r; have := h.y; show w.heap.size ≤ P.SA; omega) _
  z := by simpa using h.z
  y := h.y
  N := h.N
/-- A further stage row, before it is entered. -/
theorem LS.more (h : LS P w L ca cn cc oa oc xs ts W kt kw ks A n c sg) (hks : ks = sg.length) (p : Nat × Nat) (h1 : P.w4s ≤ p.1) (h2 : p.1 < W.heap.size) (h3 : W.cell? ⟨p.1, 0, none⟩ = some (tV ts sg.length)) : LS P w L ca cn cc oa oc xs ts W kt kw ks A n c (sg ++ [p]) where
  T := h.T
  V := h.V
  S := by
    have := h.S
    rw [fill_congr (g := sV (sg ++ [p])) _ (fun j hj => by unfold sV; rw [List.getD_eq_getElem?_getD, List.getD_eq_getElem?_getD, List.getElem?_append_left (by omega)])] at this
    exact this
  t := h.t
  v := h.v
  s := h.s
  q := h.q
  x := h.x
  e := h.e
  o := h.o
  g j q hq := by
    by_cases hj : j < sg.length
    · rw [List.getElem?_append_left hj] at hq
      exact h.g j q hq
    · rw [List.getElem?_append_right (by omega)] at hq
      have h0 : j - sg.length = 0 := by
        have := (List.getElem?_eq_some_iff.1 hq).1
        simp at this
        omega
      rw [h0] at hq
      have hqp : p = q := by simpa using hq
      subst hqp
      have hjl : j = sg.length := by omega
      subst hjl
      exact ⟨h1, h2, h3⟩
  b := h.b
  z := h.z
  y := h.y
  N := h.N
/-- A further car that counts. -/
theorem LS.app (h : LS P w L ca cn cc oa oc xs ts W kt kw ks A n c sg) (hpos : ∀ j, j < sg.length → 1 ≤ ts.getD j 0) (hsn : sg.length ≤ n) {A' : Option Addr} {c' : Nat} (hO : OW iC 1 3 P.w4s W' A' (n + 1) c' (rng (n + 1))) (hb : Below P.w4s W W') (hf : ∀ k, k < W.heap.size → (∀ g, A = some g → g.block ≠ k) → W'.heap[k]? = W.heap[k]?) :
    LS P w L ca cn cc oa oc xs ts W' kt kw ks A' (n + 1) c' sg where
  T := (hf _ h.T.lt (h.o_ne h.N.a.2)).trans h.T
  V := (hf _ h.V.lt (h.o_ne h.N.u.2)).trans h.V
  S := (hf _ h.S.lt (h.o_ne h.N.r.2)).trans h.S
  t := (hf _ h.t.lt (h.o_ne (h.N.lo _ (by simp)).2)).trans h.t
  v := (hf _ h.v.lt (h.o_ne (h.N.lo _ (by simp)).2)).trans h.v
  s := (hf _ h.s.lt (h.o_ne (h.N.lo _ (by simp)).2)).trans h.s
  q := (hf _ h.q.lt (h.o_ne (by have := h.N.xb; have := h.N.a; omega))).trans h.q
  x := (hf _ h.x.lt (h.o_ne (by have := h.N.pb; have := h.N.a; omega))).trans h.x
  e := h.e.grow (hb.mono (by have := h.N.a; omega)) (Nat.le_refl _)
  o := hO
  g j p hp := by
    have q := h.g j p hp
    have hjl : j < sg.length := (List.getElem?_eq_some_iff.1 hp).1
    refine ⟨q.1, Nat.lt_of_lt_of_le q.2.1 hb.size, (World.cell?_of_block (hf p.1 q.2.1 (fun g hg e => ?_))).trans q.2.2⟩
    obtain ⟨b, e2, _, _, _, hc⟩ := h.o.at_ iC_len g hg
    have h0 := hc 0 0 (by rw [List.getElem?_eq_getElem (by rw [rng_len]; omega), rng_at]; rfl) 0 (.int .i64 0) rfl
    have hbp : b = p.1 := by rw [← e, e2]
    rw [hbp] at h0
    have h1 : W.cell? ⟨p.1, 0, none⟩ = some (.int .i64 0) := by simpa using h0
    rw [q.2.2] at h1
    have h2 := hpos j hjl
    unfold tV at h1
    injection h1 with h1
    injection h1 with _ h1
    omega
  b := h.b.trans (hb.mono (by have := h.y; have := h.N.a; omega))
  z := Nat.le_trans h.z hb.size
  y := h.y
  N := h.N
/-- The stage rows are not the row of the cars that count. -/
theorem LS.g_ne (h : LS P w L ca cn cc oa oc xs ts W kt kw ks A n c sg) (hpos : ∀ j, j < sg.length → 1 ≤ ts.getD j 0) (hsn : sg.length ≤ n) {j : Nat} {p : Nat × Nat} (hp : sg[j]? = some p) {g : Addr} (hA : A = some g) : p.1 ≠ g.block := by
  have q := h.g j p hp
  have hjl : j < sg.length := (List.getElem?_eq_some_iff.1 hp).1
  intro e
  obtain ⟨b, e2, _, _, _, hc⟩ := h.o.at_ iC_len g hA
  have h0 := hc 0 0 (by rw [List.getElem?_eq_getElem (by rw [rng_len]; omega), rng_at]; rfl) 0 (.int .i64 0) rfl
  have hbp : b = p.1 := by rw [e, e2]
  rw [hbp] at h0
  have h1 : W.cell? ⟨p.1, 0, none⟩ = some (.int .i64 0) := by simpa using h0
  rw [q.2.2] at h1
  have h2 := hpos j hjl
  unfold tV at h1
  injection h1 with h1
  injection h1 with _ h1
  omega
def wnL (ts : List Int) (n : Nat) : List Int := (List.range n).map (wnF ts)
theorem range_map_tV (ts : List Int) : (List.range ts.length).map (tV ts) = ts.map fun x => .int .i64 x := by
  refine List.ext_getElem (by simp) fun i h1 h2 => ?_
  have hi : i < ts.length := by simpa using h2
  simp [tV, List.getD_eq_getElem?_getD, hi]
theorem range_map_sV (sg : List (Nat × Nat)) : (List.range sg.length).map (sV sg) = sg.map slV := by
  refine List.ext_getElem (by simp) fun i h1 h2 => ?_
  have hi : i < sg.length := by simpa using h2
  simp [sV, List.getD_eq_getElem?_getD, hi]
theorem wnL_at {ts : List Int} {n k : Nat} (h : k < n) : (wnL ts n).getD k 0 = wnF ts k := by
  simp [wnL, List.getD_eq_getElem?_getD, h]
/-- What the comparison wants, when the loop is over. -/
theorem LS.rk (h : LS P w L ca cn cc oa oc xs ts W cn cn cn A cn c sg) (hpos : ∀ j, j < sg.length → 1 ≤ ts.getD j 0) (hsg : sg.length = cn) (hts : ts.length = cn) {bA ob fb : Nat} (hA : A = some ⟨bA, 0, none⟩) (ho : CN W bA ob [.slice (some ⟨fb, 0, none⟩) 4 4])
    (hf : CN W bA fb [.func (.func 47) #[] #[.pointer (some ⟨P.tb, 0, none⟩)], .func (.func 49) #[] #[.pointer (some ⟨P.wb, 0, none⟩)], .func (.func 50) #[] #[.pointer (some ⟨P.sb, 0, none⟩)], .func (.func 52) #[] #[]]) :
    RK W bA ob fb P.tb P.TA P.wb P.WA P.sb P.SA cn ts (wnL ts cn) sg where
  fo := ho
  ff := hf
  ft := CN.of_bk h.t (by have := h.o_ne (b := P.tb) (h.N.lo _ (by simp)).2 _ hA; exact Ne.symm this)
  fT := by have q := CN.of_bk h.T (Ne.symm (h.o_ne h.N.a.2 _ hA)); rw [fill_all, ← hts, range_map_tV] at q; exact q
  fw := CN.of_bk h.v (by have := h.o_ne (b := P.wb) (h.N.lo _ (by simp)).2 _ hA; exact Ne.symm this)
  fW := by
    have q := CN.of_bk h.V (Ne.symm (h.o_ne h.N.u.2 _ hA))
    rw [fill_all] at q
    have e : (wnL ts cn).map (fun x => Value.int .i64 x) = (List.range cn).map (wV ts) := by unfold wnL; rw [List.map_map]; rfl
    rw [e]
    exact q
  fs := CN.of_bk h.s (by have := h.o_ne (b := P.sb) (h.N.lo _ (by simp)).2 _ hA; exact Ne.symm this)
  fS := by have q := CN.of_bk h.S (Ne.symm (h.o_ne h.N.r.2 _ hA)); rw [fill_all, ← hsg, range_map_sV] at q; exact q
  fg j p t hp ht := by
    have q := h.g j p hp
    refine ⟨h.g_ne hpos (by omega) hp hA, q.2.1, fun i v hv => ?_⟩
    have h0 : i = 0 := by
      have := (List.getElem?_eq_some_iff.1 hv).1
      simp at this
      exact this
    subst h0
    have e : tV ts j = v := by
      unfold tV
      rw [List.getD_eq_getElem?_getD, ht]
      simpa using hv
    rw [← e]
    exact q.2.2
  lt := hts
  lw := by simp [wnL]
  ls := hsg
  eq a b ha hb hab := by
    rw [wnL_at ha, wnL_at hb]
    unfold wnF
    rw [hab]
end
end Go.Proofs.YtafclpmnpamipaaGreat
