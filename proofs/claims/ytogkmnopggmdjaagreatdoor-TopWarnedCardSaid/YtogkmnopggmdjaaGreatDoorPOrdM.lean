/- append of a whole slice onto a row of the call's own. Plain theorems over any program. -/
import Derived.Test.YtogkmnopggmdjaaGreatDoorPGrouped
import Derived.Test.YtogkmnopggmdjaaGreatDoorRows
import Derived.Test.YtogkmnopggmdjaaGreatDoorPBase
import Derived.ProofKit
import Derived.OpenShut
import Derived.ChangeOld
import Derived.Deep.Slices
import Derived.Deep.Fields
import Derived.Lib.SmallJoins
import Derived.LoopNIn
import Derived.Laws.EntriesVeiled
import Derived.LoopIn
import Derived.TacticsInMore
import Derived.Test.YtogkmnopggmdjaaGreatDoorPIter
import Derived.Test.YtogkmnopggmdjaaGreatDoorPCorn
import Derived.Test.YtogkmnopggmdjaaGreatDoorPValid
import Derived.Test.YtogkmnopggmdjaaGreatDoorPReg7
import Derived.Test.YtogkmnopggmdjaaGreatDoorPReg
namespace Go.Proofs.YtogkmnopggmdjaaGreatDoor
open Go.RowKit Go.Proofs

section
variable {α : Type} {P : Program} {f : α → List Value} {sz : Nat} {e : TypeId} {base : Nat} {W : World} {A A2 : Option Addr} {n c m c2 B : Nat} {xs ys : List α}
theorem flat_of (hf : ∀ x, (f x).length = sz) (hsz : 0 < sz) : ∀ (ys : List α) (j : Nat) (u : Value), (ys.flatMap f)[j]? = some u → ∃ y, ys[j / sz]? = some y ∧ (f y)[j % sz]? = some u
  | [], j, u, h => by simp at h
  | y :: ys, j, u, h => by
    rw [List.flatMap_cons] at h
    rcases Nat.lt_or_ge j sz with hj | hj
    · rw [List.getElem?_append_left (by rw [hf]; exact hj)] at h
      exact ⟨y, by rw [Nat.div_eq_of_lt hj]; rfl, by rw [Nat.mod_eq_of_lt hj]; exact h⟩
    · rw [List.getElem?_append_right (by rw [hf]; exact hj), hf] at h
      obtain ⟨y', h1, h2⟩ := flat_of hf hsz ys (j - sz) u h
      refine ⟨y', ?_, ?_⟩
      · rw [show j / sz = (j - sz) / sz + 1 by rw [Nat.div_eq_sub_div hsz hj]]
        simpa using h1
      · rw [← h2, Nat.mod_eq_sub_mod hj]
/-- The cells of a slice that reads as ys. -/
theorem SL.cells (hy : SL f sz W B A2 m ys) (hf : ∀ x, (f x).length = sz) (hsz : 0 < sz) {ad : Addr} (hA : A2 = some ad) : ∀ j u, (ys.flatMap f)[j]? = some u → W.cell? (ad.add j) = some u := by
  intro j u hj
  obtain ⟨y, h1, h2⟩ := flat_of hf hsz ys j u hj
  have hl := (List.getElem?_eq_some_iff.1 h1).1
  obtain ⟨b, off, e1, hb, hc⟩ := hy.2 (by rw [hy.1]; exact Nat.lt_of_le_of_lt (Nat.zero_le _) hl)
  rw [hA] at e1
  cases e1
  have := hc (j / sz) y h1 (j % sz) u h2
  have e0 : ((⟨b, off, none⟩ : Addr).add j) = ⟨b, off + (j / sz) * sz + j % sz, none⟩ := by
    have hj : j / sz * sz + j % sz = j := by rw [Nat.mul_comm]; exact Nat.div_add_mod j sz
    unfold Addr.add
    split
    · rename_i hj0
      have hj0' : j = 0 := by simpa using hj0
      subst hj0'
      simp
    · rw [Nat.add_assoc, hj]
  rw [e0]
  exact this
end
end Go.Proofs.YtogkmnopggmdjaaGreatDoor

/- A road that came in as an argument: its three slices, opened to lists. -/
namespace Go.Proofs.YtogkmnopggmdjaaGreatDoor
open Go.ChangeShapes Go.WideShapes Go.ChangeAt Go.RowKit Go.Deep Go.Joins

theorem own : ownKnob Tryz.prog.godebug = none := by kernel_rfl
theorem laidOut : laidOutB Tryz.prog = true := by kernel_rfl
section
variable {H : Type} {enc : TypeId × Value → H} {P : Program} {w : World} {base : Nat} {spare : Nat → Bool} {held : Bool}
/-- A slice of structs whose fields are all ints, of whatever number. -/
theorem open_rows {t e : TypeId} {fs : Array Field} {fuel : Nat} {c : Value} {x : DataW H × List MemPlace} (ht : P.underlying t = some (.slice e)) (he : P.underlying e = some (.struct fs))
    (hone : oneCellFields P fs = true) (hC : P.cellsOf e = fs.size) (hint : ∀ (j : Nat) (f : Field), fs[j]? = some f → P.underlying f.type = some (.int .i64)) (hpos : 0 < fs.size) (h : DataW.trod enc P w base spare held fuel t [c] = some x) :
    ∃ (A : Option Addr) (n cp : Nat) (F : Nat → Nat → Int), c = .slice A n cp ∧ (0 < n → ∃ b off, A = some ⟨b, off, none⟩ ∧ b < w.heap.size ∧
      ∀ i, i < n → ∀ j, j < fs.size → w.cell? ⟨b, off + i * fs.size + j, none⟩ = some (.int .i64 (F i j))) := by
  rcases open_slice ht h with ⟨h0, _⟩ | ⟨a, len, cap, m, n, D, Pl, hcs, hb, hl, hm, hmm, hx, hi⟩
  · simp at h0
    exact ⟨none, 0, 0, fun _ _ => 0, h0, fun q => absurd q (by omega)⟩
  · have hlm : len ≤ m := by rw [hmm]; split <;> omega
    have key : ∀ i, i < len → ∃ G : Nat → Int, ∀ j, j < fs.size → w.cell? (a.add (i * fs.size + j)) = some (.int .i64 (G j)) := by
      intro i hil
      obtain ⟨cs', hc, ht'⟩ := hi i (by omega)
      rw [hC] at hc
      obtain ⟨ys, n', hn', hy, hlen, hyl, hf⟩ := DataW.trod_struct he ht'
      obtain ⟨_, hcl, hat⟩ := World.cells?_some hc
      refine choose_lt (α := Int) (p := fun j q => w.cell? (a.add (i * fs.size + j)) = some (.int .i64 q)) fun j hj => ?_
      obtain ⟨ho, hk⟩ := hone_of hone j fs[j] (Array.getElem?_eq_getElem hj)
      have hcell := hat j hj
      have h1 := hf j fs[j] (Array.getElem?_eq_getElem hj)
      rw [ho, hk] at h1
      have hone' : (cs'.drop j).take 1 = [cs'[j]'(by omega)] := by
        rw [List.drop_eq_getElem_cons (by omega)]
        rfl
      rw [hone'] at h1
      have hys : ys[j]? = some (ys[j]'(by omega)) := List.getElem?_eq_getElem (by omega)
      obtain ⟨q, hq, _, _⟩ := DataW.trod_int (hint j _ (Array.getElem?_eq_getElem hj)) (h1.trans hys)
      refine ⟨q, ?_⟩
      rw [← Go.Deep.add_add, hcell, List.getElem?_eq_getElem (by omega)]
      simpa using hq
    obtain ⟨F, hF⟩ := choose_lt (α := Nat → Int) (p := fun i G => ∀ j, j < fs.size → w.cell? (a.add (i * fs.size + j)) = some (.int .i64 (G j))) key
    simp at hcs
    subst hcs
    refine ⟨some a, len, cap, F, rfl, fun hn => ?_⟩
    have h0 := hF 0 hn 0 hpos
    have hbl := block_lt_of_cell h0
    have hsp := World.cell?_spot h0
    obtain ⟨b, off, sp⟩ := a
    simp only [Nat.zero_mul, Nat.add_zero] at h0 hbl hsp
    have hsp' : sp = none := by simpa [Addr.add] using hsp
    subst hsp'
    refine ⟨b, off, rfl, by simpa [Addr.add] using hbl, fun i hi' j hj => ?_⟩
    have := hF i hi' j hj
    have e0 : ((⟨b, off, none⟩ : Addr).add (i * fs.size + j)) = ⟨b, off + i * fs.size + j, none⟩ := by unfold Addr.add; split <;> simp_all [Nat.add_assoc]
    rwa [e0] at this
variable {r : Reach} {b0 : Nat}
theorem sl_of_rows {α : Type} {f : α → List Value} {sz n : Nat} {A : Option Addr} (F : Nat → Nat → Int) (mk : (Nat → Int) → α) (hf : ∀ G, ∀ j v, (f (mk G))[j]? = some v → j < sz ∧ v = .int .i64 (G j))
    (h : 0 < n → ∃ b off, A = some ⟨b, off, none⟩ ∧ b < w.heap.size ∧ ∀ i, i < n → ∀ j, j < sz → w.cell? ⟨b, off + i * sz + j, none⟩ = some (.int .i64 (F i j))) :
    SL f sz w w.heap.size A n ((List.range n).map fun i => mk (F i)) := by
  refine ⟨by simp, fun hn => ?_⟩
  obtain ⟨b, off, e, hb, hc⟩ := h hn
  refine ⟨b, off, e, hb, fun i x hx j v hv => ?_⟩
  have hi : i < n := by have := (List.getElem?_eq_some_iff.1 hx).1; simpa using this
  rw [List.getElem?_map, List.getElem?_range hi] at hx
  cases hx
  obtain ⟨hj, rfl⟩ := hf _ j v hv
  exact hc i hi j hj
set_option maxRecDepth 100000 in
/-- A road by value. -/
theorem open_road {v : Value} {d : DataW H} {p : List MemPlace} (hv : Value.okWide Tryz.prog w r b0 26 v) (h : DataW.Trod enc Tryz.prog w base spare held 26 v d p) :
    ∃ pa pn pc ca cn cc ja jn jc R, v = .agg #[.slice pa pn pc, .slice ca cn cc, .slice ja jn jc] ∧ RD w w.heap.size pa pn ca cn ja jn R := by
  obtain ⟨v0, v1, v2, y0, y1, y2, n, rfl, _, _, h0, h1, h2⟩ := open_agg3 Tryz.underlying26 (by kernel_rfl) (by kernel_rfl) hv h
  obtain ⟨pa, pn, pc, F0, rfl, q0⟩ := open_rows Tryz.underlying22 Tryz.underlying77 (by kernel_rfl) (by kernel_rfl) (fun j f hj => by
    match j, hj with
    | 0, hj | 1, hj | 2, hj | 3, hj | 4, hj => cases hj; exact Tryz.underlying3
    | j + 5, hj => cases hj) (by decide) h0
  obtain ⟨ca, cn, cc, F1, rfl, q1⟩ := open_rows Tryz.underlying23 Tryz.underlying81 (by kernel_rfl) (by kernel_rfl) (fun j f hj => by
    match j, hj with
    | 0, hj | 1, hj => cases hj; exact Tryz.underlying3
    | j + 2, hj => cases hj) (by decide) h1
  obtain ⟨ja, jn, jc, F2, rfl, q2⟩ := open_rows Tryz.underlying24 Tryz.underlying83 (by kernel_rfl) (by kernel_rfl) (fun j f hj => by
    match j, hj with
    | 0, hj | 1, hj | 2, hj => cases hj; exact Tryz.underlying3
    | j + 3, hj => cases hj) (by decide) h2
  refine ⟨pa, pn, pc, ca, cn, cc, ja, jn, jc, ⟨_, _, _⟩, rfl,
    sl_of_rows F0 (fun G => (⟨G 0, G 1, G 2, G 3, G 4⟩ : Piece)) (fun G j v hv => ?_) q0,
    sl_of_rows F1 (fun G => (⟨G 0, G 1⟩ : Crest)) (fun G j v hv => ?_) q1,
    sl_of_rows F2 (fun G => (⟨G 0, G 1, G 2⟩ : Junc)) (fun G j v hv => ?_) q2⟩
  · match j, hv with
    | 0, hv | 1, hv | 2, hv | 3, hv | 4, hv => cases hv; exact ⟨by decide, rfl⟩
    | j + 5, hv => cases hv
  · match j, hv with
    | 0, hv | 1, hv => cases hv; exact ⟨by decide, rfl⟩
    | j + 2, hv => cases hv
  · match j, hv with
    | 0, hv | 1, hv | 2, hv => cases hv; exact ⟨by decide, rfl⟩
    | j + 3, hv => cases hv
end
end Go.Proofs.YtogkmnopggmdjaaGreatDoor

/- What a round of an iterator with boxes of its own must keep. -/
namespace Go.Proofs.YtogkmnopggmdjaaGreatDoor
open Go.RowKit Go.Shelf Go.Proofs

/-- What a round must keep for the iterator: what lay below n0, and every block of cells from s0 on. -/
def KM (n0 s0 : Nat) (W W' : World) : Prop := Below n0 W W' ∧ ∀ (b : Nat) (o : Obj), s0 ≤ b → W.heap[b]? = some o → o.isCells = true → W'.heap[b]? = some o
theorem KM.refl (n0 s0 : Nat) (W : World) : KM n0 s0 W W := ⟨Below.refl _ _, fun _ _ _ h _ => h⟩
theorem KM.t {n0 s0 : Nat} {A B C : World} (h : KM n0 s0 A B) (k : KM n0 s0 B C) : KM n0 s0 A C := ⟨h.1.trans k.1, fun b o h0 h1 h2 => k.2 b o h0 (h.2 b o h0 h1 h2) h2⟩
theorem KM.b {n0 s0 : Nat} {w : World} (hn : n0 ≤ w.heap.size) (W : World) (l : Nat) (o o' : Obj) (hl : w.heap.size ≤ l) (h : W.heap[l]? = some o) (h1 : o.isCells = false) (h2 : o.isWalk = false) : KM n0 s0 W (W.putObj l o') :=
  ⟨belowK_b hn W l o o' hl h h1 h2, fun b u _ hb hc => (World.putObj_heap_other (fun e => by subst e; rw [h] at hb; cases hb; rw [h1] at hc; cases hc)).trans hb⟩
theorem KM.of_below {n0 s0 : Nat} {W W' : World} (h : Below W.heap.size W W') (hn : n0 ≤ W.heap.size) : KM n0 s0 W W' :=
  ⟨h.mono hn, fun b _ _ hb _ => (h.block b (Array.getElem?_eq_some_iff.1 hb).1).trans hb⟩
theorem KM.setCell {n0 s0 : Nat} {W W' : World} (h : KM n0 s0 W W') {p : Addr} (h1 : n0 ≤ p.block) (h2 : p.block < s0 ∨ W.heap.size ≤ p.block) (u : Value) : KM n0 s0 W (W'.setCell p u) :=
  ⟨h.1.setCell h1 u, fun b o h0 hb hc => (Below.heap_setCell _ _ _ b (fun e => by have := (Array.getElem?_eq_some_iff.1 hb).1; omega)).trans (h.2 b o h0 hb hc)⟩
theorem KM.bk {n0 s0 : Nat} {W W' : World} (h : KM n0 s0 W W') {b : Nat} {t : TypeId} {cs : Array Value} (hb : BK W b t cs) (h0 : s0 ≤ b) : BK W' b t cs := h.2 b _ h0 hb rfl
end Go.Proofs.YtogkmnopggmdjaaGreatDoor

/- What corners are like: in order, apart, each turns one way and as much as it says. Plain; no program in sight. -/
namespace Go.Proofs.YtogkmnopggmdjaaGreatDoor
open Go.RowKit Go.Proofs

theorem its_pw : ∀ (ps : List Piece) (b : Int), (∀ p ∈ ps, 0 ≤ p.len) → (its b ps).Pairwise fun x y => x.1 + x.2.len ≤ y.1
  | [], _, _ => by simp [its]
  | p :: ps, b, h => by
    simp only [its, List.pairwise_cons]
    exact ⟨fun e he => (its_mem ps (b + p.len) e (fun q hq => h q (List.mem_cons_of_mem _ hq)) he).1, its_pw ps (b + p.len) (fun q hq => h q (List.mem_cons_of_mem _ hq))⟩
theorem lens {R : Road} (hv : OK R) : ∀ p ∈ R.ps, 0 ≤ p.len := fun p hp => by have := pOk_len (hv.pk p hp); omega
theorem bds_pw {R : Road} (hv : OK R) : (bds (its 0 R.ps)).Pairwise fun x y => x.1 + x.2.len ≤ y.1 := (its_pw R.ps 0 (lens hv)).filter _
/-- The groups, one behind the other; the bends of a group, one behind the other. -/
theorem grp_pw {R : Road} (hv : OK R) (gap : Int) : (∀ g ∈ grp gap (bds (its 0 R.ps)), g.Pairwise fun x y => x.1 + x.2.len ≤ y.1) ∧
    (grp gap (bds (its 0 R.ps))).Pairwise fun g g' => ∀ x ∈ g, ∀ y ∈ g', x.1 + x.2.len ≤ y.1 := by
  have := bds_pw hv
  rw [← grp_flat gap (bds (its 0 R.ps)), List.pairwise_flatten] at this
  exact this
/-- All bends of a group turn to one side. -/
theorem addB_turn (gap : Int) (gs : List (List Bd)) (x : Bd) (h : ∀ g ∈ gs, ∀ e ∈ g, ∀ d ∈ g, e.2.turn = d.2.turn) : ∀ g ∈ addB gap gs x, ∀ e ∈ g, ∀ d ∈ g, e.2.turn = d.2.turn := by
  intro g hg
  unfold addB at hg
  have new : ∀ e ∈ [x], ∀ d ∈ [x], e.2.turn = d.2.turn := by intro e he d hd; simp at he hd; rw [he, hd]
  split at hg
  · rename_i y hy
    split at hg
    · rename_i ht
      rcases List.mem_append.1 hg with h1 | h1
      · exact h g (List.dropLast_subset _ h1)
      · simp at h1
        cases hl : gs.getLast? with
        | none => rw [hl] at hy; cases hy
        | some G =>
          rw [hl] at hy h1
          simp only [Option.bind_some] at hy
          simp only [Option.getD_some] at h1
          subst h1
          have hG : G ∈ gs := List.mem_of_getLast? hl
          have hyG : y ∈ G := List.mem_of_getLast? hy
          simp only [tog, Bool.and_eq_true, decide_eq_true_eq] at ht
          intro e he d hd
          rcases List.mem_append.1 he with h1 | h1 <;> rcases List.mem_append.1 hd with h2 | h2
          · exact h G hG e h1 d h2
          · simp at h2; rw [h2]; exact (h G hG e h1 y hyG).trans ht.1
          · simp at h1; rw [h1]; exact ht.1.symm.trans (h G hG y hyG d h2)
          · simp at h1 h2; rw [h1, h2]
    · rcases List.mem_append.1 hg with h1 | h1
      · exact h g h1
      · simp at h1; subst h1; exact new
  · rcases List.mem_append.1 hg with h1 | h1
    · exact h g h1
    · simp at h1; subst h1; exact new
theorem grp_same (gap : Int) (l : List Bd) : ∀ g ∈ grp gap l, ∀ e ∈ g, ∀ d ∈ g, e.2.turn = d.2.turn := by
  have key : ∀ (l : List Bd) (gs : List (List Bd)), (∀ g ∈ gs, ∀ e ∈ g, ∀ d ∈ g, e.2.turn = d.2.turn) → ∀ g ∈ l.foldl (addB gap) gs, ∀ e ∈ g, ∀ d ∈ g, e.2.turn = d.2.turn := by
    intro l
    induction l with
    | nil => intro gs h; exact h
    | cons x l ih => intro gs h; exact ih _ (addB_turn gap gs x h)
  exact key l [] (by simp)
theorem minR_le0 (b : Int) (g : List Bd) : minR b g ≤ b := by
  have h := minR_min b b g
  rw [show min b b = b by omega] at h
  omega
theorem angS_side {t : Int} : ∀ (g : List Bd), (∀ e ∈ g, e.2.turn = t) → (∀ e ∈ g, pOk e.2 = true) → ∃ s, 0 ≤ s ∧ angS g = t * s
  | [], _, _ => ⟨0, by omega, by simp [angS]⟩
  | e :: g, h, hp => by
    obtain ⟨s, h0, h1⟩ := angS_side g (fun d hd => h d (List.mem_cons_of_mem _ hd)) (fun d hd => hp d (List.mem_cons_of_mem _ hd))
    have he := h e (List.mem_cons_self ..)
    have hl := pOk_len (hp e (List.mem_cons_self ..))
    have ht := pOk_tOk (hp e (List.mem_cons_self ..))
    have e1 : angS (e :: g) = trn e.2 e.2.len + angS g := by simp [angS]
    by_cases h2 : e.2.turn = 0
    · refine ⟨s, h0, ?_⟩
      rw [e1, h1, trn, if_pos h2]; omega
    · have hr := ht.2.2 h2
      have hq : 0 ≤ rnd (1000 * e.2.len) e.2.rad := by
        unfold rnd
        rw [if_neg (by omega)]
        exact Int.ediv_nonneg (by omega) (by omega)
      refine ⟨rnd (1000 * e.2.len) e.2.rad + s, by omega, ?_⟩
      rw [e1, h1, trn, if_neg h2, he, Int.mul_add]
/-- Where a place lies: the piece there, with its beginning. -/
theorem at_its {R : Road} {x : Int} {i : Nat} (h : At R.ps x i) : ∃ e, e ∈ its 0 R.ps ∧ R.ps[i]? = some e.2 ∧ e.1 ≤ x ∧ x < e.1 + e.2.len := by
  obtain ⟨h1, h2, h3⟩ := h
  have h4 := its_at 0 R.ps i h1
  rw [sumL_take R.ps i h1] at h3
  exact ⟨_, List.mem_of_getElem? h4, List.getElem?_eq_getElem h1, by show 0 + _ ≤ x; omega, by show x < 0 + sumL (R.ps.take i) + R.ps[i].len; omega⟩
/-- A corner, as the law wants it. -/
structure Fine (R : Road) (least : Int) (c : Corner) : Prop where
  lt : c.fr < c.til
  lo : 0 ≤ c.fr
  hi : c.til ≤ sumL R.ps
  ang : least ≤ c.ang
  big : c.ang ≤ 800000000000
  inn : c.rad ≤ c.inn
  out : c.rad ≤ c.out
  side : c.turn = 1 ∨ c.turn = -1
  tur : upt R.ps c.til - upt R.ps c.fr = c.turn * c.ang
  first : ∀ i p, At R.ps c.fr i → R.ps[i]? = some p → p.turn = c.turn
  last : ∀ i p, At R.ps (c.til - 1) i → R.ps[i]? = some p → p.turn = c.turn
  none_ : ∀ x i p, c.fr ≤ x → x < c.til → At R.ps x i → R.ps[i]? = some p → p.turn ≠ -c.turn
theorem its_inj {R : Road} (hv : OK R) {d e : Int × Piece} (hd : d ∈ its 0 R.ps) (he : e ∈ its 0 R.ps) {x : Int} (h1 : d.1 ≤ x) (h2 : x < d.1 + d.2.len) (h3 : e.1 ≤ x) (h4 : x < e.1 + e.2.len) : d = e := by
  obtain ⟨i, hi, rfl⟩ := List.getElem_of_mem hd
  obtain ⟨j, hj, rfl⟩ := List.getElem_of_mem he
  have hpw := List.pairwise_iff_getElem.1 (its_pw R.ps 0 (lens hv))
  rcases Nat.lt_trichotomy i j with h | h | h
  · have := hpw i j hi hj h; omega
  · subst h; rfl
  · have := hpw j i hj hi h; omega
theorem crn_fine {R : Road} (hv : OK R) {gap least : Int} {c : Corner} (h : c ∈ crns gap least R) : Fine R least c := by
  obtain ⟨h1, h2⟩ := List.mem_filter.1 h
  obtain ⟨g, hg, rfl⟩ := List.mem_map.1 h1
  obtain ⟨x, gt, gi, y, e0, e1⟩ := ends (grp_ne _ _ g hg)
  have hx : x ∈ g := by rw [e0]; simp
  have hy : y ∈ g := by rw [e1]; simp
  have bx := bds_mem hv (grp_mem hg hx)
  have bY := bds_mem hv (grp_mem hg hy)
  have lx := pOk_len bx.2.1
  have ly := pOk_len bY.2.1
  have hsame := grp_same gap _ g hg
  obtain ⟨s, hs0, hs1⟩ := angS_side (t := y.2.turn) g (fun e he => hsame e he y hy) (fun e he => (bds_mem hv (grp_mem hg he)).2.1)
  have htok := pOk_tOk bY.2.1
  have hside : y.2.turn = 1 ∨ y.2.turn = -1 := by have := htok.1; have := htok.2.1; have := bY.2.2; omega
  have hc := crn_of e0 e1
  have htn := grp_turn hv hg
  have hpwg := (grp_pw hv gap).1 g hg
  have hfirst : x.1 ≤ y.1 := by
    rcases Classical.em (g = [x]) with h | h
    · rw [h] at hy; simp at hy; subst hy; omega
    · cases gt with
      | nil => exact absurd e0 h
      | cons z gt =>
        have hyg : y ∈ z :: gt := by
          have : (x :: z :: gt).getLast? = some y := by rw [← e0, e1]; simp
          rw [List.getLast?_cons_cons] at this
          exact List.mem_of_getLast? this
        rw [e0] at hpwg
        have := (List.pairwise_cons.1 hpwg).1 y hyg
        omega
  have hangb := angS_bd g (fun e he => (bds_mem hv (grp_mem hg he)).2.1)
  have hgl := grp_part gap _ hg
  have hbl := bds_len R
  have hp2 := hv.p2
  have hxi : x ∈ its 0 R.ps := (List.mem_filter.1 (grp_mem hg hx)).1
  have hyi : y ∈ its 0 R.ps := (List.mem_filter.1 (grp_mem hg hy)).1
  rw [hc] at htn h2 ⊢
  simp only [decide_eq_true_eq] at h2
  simp only at htn
  have hmax : max (angS g) (-(angS g)) = s := by rw [hs1]; rcases hside with h | h <;> rw [h] <;> omega
  refine ⟨by show x.1 < y.1 + y.2.len; omega, bx.1.1, by show y.1 + y.2.len ≤ _; omega, h2, by show max _ _ ≤ _; omega, minR_le _ _ hx, minR_le0 _ _, hside, ?_, ?_, ?_, ?_⟩
  · show upt R.ps (y.1 + y.2.len) - upt R.ps x.1 = y.2.turn * max (angS g) (-(angS g))
    rw [htn, hmax, hs1]
  · intro i p hi hp
    obtain ⟨e, he, hep, h3, h4⟩ := at_its hi
    have : e = x := its_inj hv he hxi h3 h4 (Int.le_refl _) (by show x.1 < _; omega)
    subst this
    rw [hp] at hep; cases hep
    exact hsame _ hx _ hy
  · intro i p hi hp
    obtain ⟨e, he, hep, h3, h4⟩ := at_its hi
    have : e = y := its_inj hv he hyi h3 h4 (by show y.1 ≤ y.1 + y.2.len - 1; omega) (by show y.1 + y.2.len - 1 < _; omega)
    subst this
    rw [hp] at hep; cases hep
    rfl
  · intro q i p hq1 hq2 hi hp
    obtain ⟨e, he, hep, h3, h4⟩ := at_its hi
    rw [hp] at hep; cases hep
    show e.2.turn ≠ -y.2.turn
    by_cases ht : e.2.turn = 0
    · omega
    · have heb : e ∈ bds (its 0 R.ps) := List.mem_filter.2 ⟨he, by simpa using ht⟩
      obtain ⟨A, B, eAB⟩ := grp_part' hg
      have hpw := bds_pw hv
      rw [eAB] at heb hpw
      have hq1' : x.1 ≤ q := hq1
      have hq2' : q < y.1 + y.2.len := hq2
      rcases List.mem_append.1 heb with h | h
      · have := (List.pairwise_append.1 hpw).2.2 e h x (List.mem_append_left _ hx)
        omega
      · rcases List.mem_append.1 h with h | h
        · have := hsame e h y hy; omega
        · have := (List.pairwise_append.1 (List.pairwise_append.1 hpw).2.1).2.2 y hy e h
          omega
theorem crns_len (gap least : Int) (R : Road) : (crns gap least R).length ≤ R.ps.length := by
  have h1 := List.length_filter_le (fun c : Corner => decide (least ≤ c.ang)) ((grp gap (bds (its 0 R.ps))).map crn)
  have h2 := grp_len gap (bds (its 0 R.ps))
  have h3 := bds_len R
  rw [List.length_map] at h1
  exact Nat.le_trans h1 (Nat.le_trans h2 h3)
end Go.Proofs.YtogkmnopggmdjaaGreatDoor

/- Groups of pieces: plainly, and how they lie in memory. -/
namespace Go.Proofs.YtogkmnopggmdjaaGreatDoor
open Go.RowKit Go.Shelf Go.Sort Go.Proofs

/-- The groups gs in memory: a row of headers, a row for each group; the last group's row apart from the others, the headers' row apart from all. -/
structure GP (w : World) (base : Nat) (A : Option Addr) (n c : Nat) (gs : List (Hdr × List Piece)) : Prop where
  out : OW hC 1 22 base w A n c (gs.map (·.1))
  grp : ∀ p ∈ gs, OW pC 5 77 base w p.1.A p.1.n p.1.c p.2 ∧ p.2 ≠ []
  off : ∀ p ∈ gs, ∀ a b, p.1.A = some a → A = some b → a.block ≠ b.block
  last : ∀ ds q, gs = ds ++ [q] → ∀ p ∈ ds, ∀ a b, p.1.A = some a → q.1.A = some b → a.block ≠ b.block
theorem GP.nil_ (w : World) (base : Nat) : GP w base none 0 0 [] :=
  ⟨OW.nil_, fun p hp => (by cases hp), fun p hp => (by cases hp), fun ds q e => (by simp at e)⟩
section
variable {w w' : World} {base n c : Nat} {A : Option Addr} {gs ds : List (Hdr × List Piece)} {q : Hdr × List Piece}
theorem GP.call (h : GP w base A n c gs) (hb : Below w.heap.size w w') : GP w' base A n c gs :=
  ⟨h.out.call hb, fun p hp => ⟨(h.grp p hp).1.call hb, (h.grp p hp).2⟩, h.off, h.last⟩
/-- A new group behind. -/
theorem GP.push {x : Piece} {N g c' : Nat} (h : GP w base A n c gs) (hN : w.heap.size ≤ N) (hw : ∀ k, k < w.heap.size → (∀ b, A = some b → b.block ≠ k) → w'.heap[k]? = w.heap[k]?)
    (hx : OW pC 5 77 base w' (some ⟨N, 0, none⟩) 1 1 [x]) (ho : OW hC 1 22 base w' (some ⟨g, 0, none⟩) (n + 1) c' (gs.map (·.1) ++ [⟨some ⟨N, 0, none⟩, 1, 1⟩])) (hg : (∃ b, A = some b ∧ b.block = g) ∨ N < g) :
    GP w' base (some ⟨g, 0, none⟩) (n + 1) c' (gs ++ [(⟨some ⟨N, 0, none⟩, 1, 1⟩, [x])]) := by
  have hlt : ∀ p ∈ gs, ∀ a, p.1.A = some a → a.block < w.heap.size := fun p hp a ha => ((h.grp p hp).1.lt ha).2
  refine ⟨by simpa using ho, fun p hp => ?_, fun p hp a b ha hb => ?_, fun ds q e p hp a b ha hb => ?_⟩
  · rcases List.mem_append.1 hp with hp | hp
    · exact ⟨(h.grp p hp).1.keep (fun a ha => hw _ (hlt p hp a ha) (fun b hb => (h.off p hp a b ha hb).symm)), (h.grp p hp).2⟩
    · simp at hp; subst hp; exact ⟨hx, by simp⟩
  · cases hb
    rcases List.mem_append.1 hp with hp | hp
    · have h1 := hlt p hp a ha
      rcases hg with ⟨b, hb, rfl⟩ | hg
      · exact h.off p hp a b ha hb
      · show a.block ≠ g; omega
    · simp at hp; subst hp
      cases ha
      show N ≠ g
      rcases hg with ⟨b, hb, rfl⟩ | hg
      · have := (h.out.lt hb).2; omega
      · omega
  · obtain ⟨rfl, e2⟩ := List.append_inj' e rfl
    simp at e2
    subst e2
    cases hb
    have := hlt p hp a ha
    show a.block ≠ N; omega
/-- The last group grows. -/
theorem GP.more {x : Piece} {g c' : Nat} {w1 : World} (h : GP w base A n c (ds ++ [q])) (h1 : App1 pC 5 77 base w q.1.A q.1.n q.1.c q.2 x g c' w1) (b0 : Nat) (hA : A = some ⟨b0, 0, none⟩)
    (ho : OW hC 1 22 base w' A n c (ds.map (·.1) ++ [⟨some ⟨g, 0, none⟩, q.1.n + 1, c'⟩])) (hw : ∀ k, k ≠ b0 → w'.heap[k]? = w1.heap[k]?) :
    GP w' base A n c (ds ++ [(⟨some ⟨g, 0, none⟩, q.1.n + 1, c'⟩, q.2 ++ [x])]) := by
  have hlt : ∀ p ∈ ds ++ [q], ∀ a, p.1.A = some a → a.block < w.heap.size := fun p hp a ha => ((h.grp p hp).1.lt ha).2
  have hq : q ∈ ds ++ [q] := by simp
  have hds : ∀ p ∈ ds, p ∈ ds ++ [q] := fun p hp => List.mem_append_left _ hp
  have hbA := (h.out.lt hA).2
  have hgb : g ≠ b0 := by
    rcases h1.at_ with ⟨b, hb, rfl⟩ | hg
    · exact h.off q hq b _ hb hA
    · simp at hbA; omega
  have hgd : ∀ p ∈ ds, ∀ a, p.1.A = some a → a.block ≠ g := fun p hp a ha => by
    rcases h1.at_ with ⟨b, hb, rfl⟩ | hg
    · exact h.last ds q rfl p hp a b ha hb
    · have := hlt p (hds p hp) a ha; omega
  refine ⟨by simpa using ho, fun p hp => ?_, fun p hp a b ha hb => ?_, fun ds' q' e p hp a b ha hb => ?_⟩
  · rcases List.mem_append.1 hp with hp | hp
    · refine ⟨(h.grp p (hds p hp)).1.keep (fun a ha => ?_), (h.grp p (hds p hp)).2⟩
      rw [hw _ (by have := h.off p (hds p hp) a _ ha hA; exact this)]
      exact h1.far _ (hlt p (hds p hp) a ha) (fun b hb => (h.last ds q rfl p hp a b ha hb).symm)
    · simp at hp; subst hp
      exact ⟨h1.own.keep (fun a ha => by cases ha; exact hw _ hgb), by simp⟩
  · rcases List.mem_append.1 hp with hp | hp
    · exact h.off p (hds p hp) a b ha hb
    · simp at hp; subst hp
      cases ha
      rw [hA] at hb
      cases hb
      exact hgb
  · obtain ⟨rfl, e2⟩ := List.append_inj' e rfl
    simp at e2
    subst e2
    cases hb
    exact hgd p hp a ha
end
end Go.Proofs.YtogkmnopggmdjaaGreatDoor

/- The normal road, plainly. -/
namespace Go.Proofs.YtogkmnopggmdjaaGreatDoor
open Go.RowKit Go.Shelf Go.Sort Go.Proofs

/-- How many pieces of the greatest length a run has before its rest. -/
def cutk (n : Int) : Nat := ((n - 1) / 5000).toNat
def cut (p : Piece) : List Piece := List.replicate (cutk p.len) { p with len := 5000 } ++ [{ p with len := p.len - 5000 * cutk p.len }]
def one (p : Piece) : Piece := { p with len := 1 }
def units (ps : List Piece) : List Piece := ps.flatMap fun p => List.replicate p.len.toNat (one p)
theorem units_append (a b : List Piece) : units (a ++ b) = units a ++ units b := by simp [units]
theorem units_one (p : Piece) : units [p] = List.replicate p.len.toNat (one p) := by simp [units]
theorem units_cons (p : Piece) (l : List Piece) : units (p :: l) = List.replicate p.len.toNat (one p) ++ units l := by simp [units]
theorem sumL_cons (p : Piece) (l : List Piece) : sumL (p :: l) = p.len + sumL l := by simp [sumL]
theorem units_len : ∀ {ps : List Piece}, (∀ q ∈ ps, 0 ≤ q.len) → ((units ps).length : Int) = sumL ps
  | [], _ => rfl
  | p :: ps, h => by
    have hp := h p (List.mem_cons_self ..)
    rw [units_cons, List.length_append, List.length_replicate, sumL_cons, ← units_len (fun q hq => h q (List.mem_cons_of_mem _ hq))]
    omega
theorem units_mem {ps : List Piece} {x : Piece} (h : x ∈ units ps) : ∃ p ∈ ps, x = one p := by
  obtain ⟨p, hp, hq⟩ := List.mem_flatMap.1 h
  exact ⟨p, hp, List.eq_of_mem_replicate hq⟩
theorem pOk_one {p q : Piece} (h : pOk p = true) (e : one q = one p) (hl : 1 ≤ q.len ∧ q.len ≤ 5000) : pOk q = true := by
  obtain ⟨a, b, c, d, f⟩ := p
  obtain ⟨a', b', c', d', f'⟩ := q
  simp [one] at e
  obtain ⟨rfl, rfl, rfl, rfl⟩ := e
  simp only [pOk, Bool.and_eq_true] at h ⊢
  exact ⟨by simp [inR]; exact hl, h.2⟩
/-- A group as one run. -/
def hs : List Piece → Piece
  | [] => ⟨0, 0, 0, 0, 0⟩
  | x :: l => { x with len := sumL (x :: l) }
end Go.Proofs.YtogkmnopggmdjaaGreatDoor

/- The piece at a place, by unit pieces. -/
namespace Go.Proofs.YtogkmnopggmdjaaGreatDoor
open Go.RowKit Go.Shelf Go.Sort Go.Proofs

theorem at_units {ps : List Piece} (h : ∀ q ∈ ps, 0 ≤ q.len) {x : Int} {i : Nat} {p : Piece} (h0 : 0 ≤ x) (ha : At ps x i) (hp : ps[i]? = some p) : (units ps)[x.toNat]? = some (one p) := by
  obtain ⟨hi, h1, h2⟩ := ha
  have hpe : ps[i] = p := by rw [List.getElem?_eq_getElem hi] at hp; exact Option.some.inj hp
  have e := (List.take_append_drop i ps).symm
  rw [List.drop_eq_getElem_cons hi, hpe] at e
  have h3 : (units ps)[x.toNat]? = (units (ps.take i ++ p :: ps.drop (i + 1)))[x.toNat]? := congrArg (fun l => (units l)[x.toNat]?) e
  have h4 := units_len (ps := ps.take i) (fun q hq => h q (List.mem_of_mem_take hq))
  have h5 := sumL_take ps i hi
  rw [hpe] at h5
  rw [h3, units_append, units_cons, List.getElem?_append_right (by omega), List.getElem?_append_left (by rw [List.length_replicate]; omega), List.getElem?_replicate, if_pos (by omega)]
end Go.Proofs.YtogkmnopggmdjaaGreatDoor

/- How many meters a road has, plain. -/
namespace Go.Proofs.YtogkmnopggmdjaaGreatDoor
open Go.RowKit Go.Shelf Go.Sort Go.Proofs

theorem units_nat {ps : List Piece} (h : ∀ q ∈ ps, pOk q = true) : (units ps).length = (sumL ps).toNat := by
  have := units_len (ps := ps) (fun q hq => by have := (pOk_len (h q hq)).1; omega)
  omega
theorem units_ok {ps : List Piece} (h : ∀ q ∈ ps, pOk q = true) : ∀ q ∈ units ps, pOk q = true := by
  intro q hq
  obtain ⟨p, hp, rfl⟩ := units_mem hq
  exact pOk_one (h p hp) rfl (by simp [one])
/-- A frame gets a name. -/
theorem wpIn_named {F : Fence} {n : Nat} {P : Program} {c : Code} {Q : Exit → Act → World → Prop} {a : Act} {w : World} (h : ∀ a0, a0 = a → c.wpIn F n P Q a0 w) : c.wpIn F n P Q a w := h a rfl
end Go.Proofs.YtogkmnopggmdjaaGreatDoor

/- What the functions of package road answer for a road that is not as defined. -/
namespace Go.Proofs.YtogkmnopggmdjaaGreatDoor
open Go.RowKit Go.Shelf Go.Sort Go.Proofs

set_option maxRecDepth 100000 in
set_option maxHeartbeats 4000000 in
theorem Length_bad  (pa : Option Addr) (pn pc : Nat) (ca : Option Addr) (cn cc : Nat) (ja : Option Addr) (jn jc : Nat) (R : Road) (w : World) (h : RD w w.heap.size pa pn ca cn ja jn R) (hbad : ¬ OK R) :
    Calls Tryz.prog 60 #[.agg #[.slice pa pn pc, .slice ca cn cc, .slice ja jn jc]] w fun e w' => e = .returned (.tuple #[.int .i64 0, .int .i64 2]) ∧ Below w.heap.size w w' := by
  have hR := Lib.hid h
  have hc := Lib.hid (chk_bad hbad)
  clear h hbad
  obtain ⟨w0, hw0⟩ : ∃ w0, w0 = w.alloc (.cells #[.slice pa pn pc, .slice ca cn cc, .slice ja jn jc] 26) := ⟨_, rfl⟩
  have hB0 : Below w.heap.size w w0 := by rw [hw0]; exact (Below.refl w.heap.size w).alloc (Nat.le_refl _) _
  have hX0 : BK w0 (w.heap.size) 26 #[.slice pa pn pc, .slice ca cn cc, .slice ja jn jc] := by rw [hw0]; exact (BK.new w 26 #[.slice pa pn pc, .slice ca cn cc, .slice ja jn jc])
  go_enter Tryz.func60, Tryz.ntmps60
  go_wp2_with fail
  rw [← hw0]
  clear hw0
  refine (Check_any _ _ _ _ _ _ _ _ _ R _ (hR.out.grow hB0 hB0.size)).mono ?_
  rintro e w1 ⟨rfl, hk0⟩
  rw [hc.out]
  have hB1 := hB0.trans (hk0.mono hB0.size)
  go_wp2_with fail
  go_ret2
  exact ⟨rfl, hB1⟩
end Go.Proofs.YtogkmnopggmdjaaGreatDoor

/- note.within. -/
namespace Go.Proofs.YtogkmnopggmdjaaGreatDoor
open Go.RowKit Go.Shelf Go.Sort Go.Proofs
theorem nwithin_any (x lo hi : Int) (w : World) :
    Calls Tryz.prog 66 #[.int .i64 x, .int .i64 lo, .int .i64 hi] w fun e w' => e = .returned (.bool (decide (lo ≤ x) && decide (x ≤ hi))) ∧ w = w' := by
  by_cases h : lo ≤ x
  · have e : (decide (lo ≤ x) && decide (x ≤ hi)) = decide (x ≤ hi) := by simp [h]
    rw [e]; clear e
    go_enter Tryz.func66, Tryz.ntmps66
    go_wp2
    go_ret
    exact ⟨rfl, rfl⟩
  · have e : (decide (lo ≤ x) && decide (x ≤ hi)) = false := by simp [h]
    rw [e]; clear e
    go_enter Tryz.func66, Tryz.ntmps66
    go_wp2
    go_ret
    exact ⟨rfl, rfl⟩
end Go.Proofs.YtogkmnopggmdjaaGreatDoor

/- A value in the chain of a drawn region, wanted at its turn. -/
namespace Go.Proofs.YtogkmnopggmdjaaGreatDoor
open Go.RowKit Go.Shelf Go.Sort Go.Proofs
section
variable {P : Program} {ops : Array Oper} {C : World → Prop} {k : Nat} {ns ks : List Nat} {Lq : Act → Fact → Prop} {o : Oper} {rest : List Oper} {a : Act} {Φ : Fact}
/-- An operation of the chain that is no call of a function, with a guard that holds. -/
theorem wpC_vg {ι : Type} (v : ι → Value) (G : ι → Fact) (h1 : k ∉ ns) (h2 : k ∈ ks) (hg : Region.wanted o (yielded ops a.tmps) = true) (hst : stable Φ) (hG : ∀ i, stable (G i))
    (hc : ∀ w, C w → Φ w → ∃ i w', (execOp a.eval o).run P w = .ok (.value (v i)) w' ∧ G i w' ∧ Below w.heap.size w w') (h : ∀ i, stable (fun x => Φ x ∧ G i x) → wpC P ops C ns ks Lq (k + 1) rest (a.put o.dst (v i)) (fun x => Φ x ∧ G i x)) :
    wpC P ops C ns ks Lq k (o :: rest) a Φ := by
  unfold wpC
  rw [if_neg h1, if_pos hg, if_pos h2]
  intro w hw hp
  unfold callAt
  obtain ⟨i, w', hx, h3, h4⟩ := hc w hw hp
  rw [hx]
  have hs : stable (fun x => Φ x ∧ G i x) := fun x y hxy hb => ⟨hst x y hxy.1 hb, hG i x y hxy.2 hb⟩
  exact ⟨h4, _, hs, fun x hx => hx.1, ⟨hst w w' hp h4, h3⟩, h i hs⟩
end
end Go.Proofs.YtogkmnopggmdjaaGreatDoor
