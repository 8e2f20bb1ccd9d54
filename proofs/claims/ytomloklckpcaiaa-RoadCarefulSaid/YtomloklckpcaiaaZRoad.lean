/- Roads as plain data: pieces, crests, junctions; how each is laid out in cells; which are as defined. Plain definitions; no program in sight. -/
import Derived.Test.YtomloklckpcaiaaZBase
import Derived.Test.YtomloklckpcaiaaRows
import Derived.ProofKit
import Derived.OpenShut
import Derived.ChangeOld
import Derived.Deep.Slices
import Derived.Deep.Fields
import Derived.Lib.SmallJoins
namespace Go.Proofs.Ytomloklckpcaiaa
open Go.RowKit

structure Piece where
  len : Int
  turn : Int
  rad : Int
  wid : Int
  sur : Int
structure Crest where
  pos : Int
  siz : Int
structure Junc where
  pos : Int
  arms : Int
  way : Int
structure Road where
  ps : List Piece
  cs : List Crest
  js : List Junc
def pC (p : Piece) : List Value := [.int .i64 p.len, .int .i64 p.turn, .int .i64 p.rad, .int .i64 p.wid, .int .i64 p.sur]
def cC (c : Crest) : List Value := [.int .i64 c.pos, .int .i64 c.siz]
def jC (j : Junc) : List Value := [.int .i64 j.pos, .int .i64 j.arms, .int .i64 j.way]
theorem PS.at_ {w : World} {B n : Nat} {A : Option Addr} {xs : List Piece} (h : SL pC 5 w B A n xs) {k : Nat} (hk : k < xs.length) : ∃ b off, A = some ⟨b, off, none⟩ ∧ b < B ∧
    w.cell? ⟨b, off + k * 5, none⟩ = some (.int .i64 xs[k].len) ∧ w.cell? ⟨b, off + k * 5 + 1, none⟩ = some (.int .i64 xs[k].turn) ∧ w.cell? ⟨b, off + k * 5 + 2, none⟩ = some (.int .i64 xs[k].rad) ∧
    w.cell? ⟨b, off + k * 5 + 3, none⟩ = some (.int .i64 xs[k].wid) ∧ w.cell? ⟨b, off + k * 5 + 4, none⟩ = some (.int .i64 xs[k].sur) := by
  obtain ⟨b, off, e, hb, hc⟩ := h.at_ hk
  exact ⟨b, off, e, hb, hc 0 _ rfl, hc 1 _ rfl, hc 2 _ rfl, hc 3 _ rfl, hc 4 _ rfl⟩
theorem CS.at_ {w : World} {B n : Nat} {A : Option Addr} {xs : List Crest} (h : SL cC 2 w B A n xs) {k : Nat} (hk : k < xs.length) : ∃ b off, A = some ⟨b, off, none⟩ ∧ b < B ∧
    w.cell? ⟨b, off + k * 2, none⟩ = some (.int .i64 xs[k].pos) ∧ w.cell? ⟨b, off + k * 2 + 1, none⟩ = some (.int .i64 xs[k].siz) := by
  obtain ⟨b, off, e, hb, hc⟩ := h.at_ hk
  exact ⟨b, off, e, hb, hc 0 _ rfl, hc 1 _ rfl⟩
theorem JS.at_ {w : World} {B n : Nat} {A : Option Addr} {xs : List Junc} (h : SL jC 3 w B A n xs) {k : Nat} (hk : k < xs.length) : ∃ b off, A = some ⟨b, off, none⟩ ∧ b < B ∧
    w.cell? ⟨b, off + k * 3, none⟩ = some (.int .i64 xs[k].pos) ∧ w.cell? ⟨b, off + k * 3 + 1, none⟩ = some (.int .i64 xs[k].arms) ∧ w.cell? ⟨b, off + k * 3 + 2, none⟩ = some (.int .i64 xs[k].way) := by
  obtain ⟨b, off, e, hb, hc⟩ := h.at_ hk
  exact ⟨b, off, e, hb, hc 0 _ rfl, hc 1 _ rfl, hc 2 _ rfl⟩
abbrev PS := SL pC 5
abbrev CS := SL cC 2
abbrev JS := SL jC 3
/-- Three slices that read as the road R, below block B. -/
structure RD (w : World) (B : Nat) (pa : Option Addr) (pn : Nat) (ca : Option Addr) (cn : Nat) (ja : Option Addr) (jn : Nat) (R : Road) : Prop where
  p : PS w B pa pn R.ps
  c : CS w B ca cn R.cs
  j : JS w B ja jn R.js
def inR (x lo hi : Int) : Bool := decide (lo ≤ x) && decide (x ≤ hi)
/-- A piece that is as defined. -/
def pOk (p : Piece) : Bool :=
  inR p.len 1 5000 && (inR p.turn (-1) 1 && (inR p.wid 15 300 && (inR p.sur 1 9 && (if p.turn = 0 then decide (p.rad = 0) else inR p.rad 5 2000))))
def sumL (l : List Piece) : Int := (l.map Piece.len).sum
/-- Division with rounding, halves away from 0. -/
def rnd (a b : Int) : Int := if a < 0 then -((2 * (-a) + b) / (2 * b)) else (2*a+b)/(2*b)
/-- The turning of m meters of a piece. -/
def trn (p : Piece) (m : Int) : Int := if p.turn = 0 then 0 else p.turn * rnd (1000*m) p.rad
/-- Turn and radius as far as the turning wants them. -/
def tOk (p : Piece) : Prop := -1 ≤ p.turn ∧ p.turn ≤ 1 ∧ (p.turn ≠ 0 → 5 ≤ p.rad ∧ p.rad ≤ 2000)
theorem rnd_bd (a b : Int) (h0 : -100000000 ≤ a) (h1 : a ≤ 100000000) (h2 : 1 ≤ b) (h3 : b ≤ 100000000) : -200000000 ≤ rnd a b ∧ rnd a b ≤ 200000000 := by
  have key : ∀ c : Int, 0 ≤ c → c ≤ 100000000 → 0 ≤ (2 * c + b) / (2 * b) ∧ (2 * c + b) / (2 * b) ≤ 200000000 := fun c hc0 hc1 =>
    ⟨Int.ediv_nonneg (by omega) (by omega), Int.ediv_le_of_le_mul (by omega) (by omega)⟩
  unfold rnd
  split
  · have := key (-a) (by omega) (by omega); omega
  · have := key a (by omega) (by omega); omega
theorem trn_bd (p : Piece) (m : Int) (h0 : -10000 ≤ m) (h1 : m ≤ 10000) (ht : tOk p) : -200000000 ≤ trn p m ∧ trn p m ≤ 200000000 := by
  unfold trn
  split
  · omega
  · rename_i hn
    obtain ⟨a, b, c⟩ := ht
    obtain ⟨d, e⟩ := c hn
    have hq := rnd_bd (1000*m) p.rad (by omega) (by omega) (by omega) (by omega)
    rcases (show p.turn = 1 ∨ p.turn = -1 from by omega) with h | h <;> rw [h] <;> omega
theorem below_drewN {B : Nat} {a w : World} (h : Below B a w) (n : Nat) : Below B a (w.drewN n) := ⟨h.os, h.tape, h.output, h.size, h.block⟩
theorem pOk_tOk {p : Piece} (h : pOk p = true) : tOk p := by
  simp only [pOk, inR, Bool.and_eq_true, decide_eq_true_eq] at h
  obtain ⟨_, ⟨h1, h2⟩, _, _, h3⟩ := h
  refine ⟨h1, h2, fun hn => ?_⟩
  rw [if_neg hn] at h3
  simpa using h3
/-- The crest at i is as defined (and behind the one before it). -/
def cAt (n : Int) (cs : List Crest) (i : Nat) : Prop := ∀ c, cs[i]? = some c → inR c.pos 0 n = true ∧ inR c.siz 1 3 = true ∧ ∀ d, 0 < i → cs[i-1]? = some d → d.pos < c.pos
/-- The junction at i is as defined. -/
def jAt (n : Int) (js : List Junc) (i : Nat) : Prop := ∀ c, js[i]? = some c → inR c.pos 0 n = true ∧ inR c.arms 2 6 = true ∧ inR c.way 1 c.arms = true ∧ ∀ d, 0 < i → js[i-1]? = some d → d.pos < c.pos
def cAtB (n : Int) (cs : List Crest) (i : Nat) : Bool := (cs[i]?).all fun c => inR c.pos 0 n && (inR c.siz 1 3 && (i == 0 || (cs[i-1]?).all fun d => decide (d.pos < c.pos)))
def jAtB (n : Int) (js : List Junc) (i : Nat) : Bool := (js[i]?).all fun c => inR c.pos 0 n && (inR c.arms 2 6 && (inR c.way 1 c.arms && (i == 0 || (js[i-1]?).all fun d => decide (d.pos < c.pos))))
theorem cAtB_iff (n : Int) (cs : List Crest) (i : Nat) : cAtB n cs i = true ↔ cAt n cs i := by
  unfold cAtB cAt
  simp only [Option.all_eq_true, Bool.and_eq_true, Bool.or_eq_true, decide_eq_true_eq, beq_iff_eq]
  constructor
  · intro h c hc
    obtain ⟨a, b, d⟩ := h c hc
    exact ⟨a, b, fun e hi he => (d.resolve_left (by omega)) e he⟩
  · intro h c hc
    obtain ⟨a, b, d⟩ := h c hc
    exact ⟨a, b, (Nat.eq_zero_or_pos i).imp id fun hi e he => d e hi he⟩
theorem jAtB_iff (n : Int) (js : List Junc) (i : Nat) : jAtB n js i = true ↔ jAt n js i := by
  unfold jAtB jAt
  simp only [Option.all_eq_true, Bool.and_eq_true, Bool.or_eq_true, decide_eq_true_eq, beq_iff_eq]
  constructor
  · intro h c hc
    obtain ⟨a, b, b', d⟩ := h c hc
    exact ⟨a, b, b', fun e hi he => (d.resolve_left (by omega)) e he⟩
  · intro h c hc
    obtain ⟨a, b, b', d⟩ := h c hc
    exact ⟨a, b, b', (Nat.eq_zero_or_pos i).imp id fun hi e he => d e hi he⟩
/-- A road that is as defined. -/
structure OK (R : Road) : Prop where
  p1 : 1 ≤ R.ps.length
  p2 : R.ps.length ≤ 2000
  c1 : R.cs.length ≤ 1000
  j1 : R.js.length ≤ 200
  pk : ∀ p ∈ R.ps, pOk p = true
  n1 : sumL R.ps ≤ 100000
  ck : ∀ i, i < R.cs.length → cAt (sumL R.ps) R.cs i
  jk : ∀ i, i < R.js.length → jAt (sumL R.ps) R.js i
def val (R : Road) : Bool := decide (1 ≤ R.ps.length) && (decide (R.ps.length ≤ 2000) && (decide (R.cs.length ≤ 1000) && (decide (R.js.length ≤ 200) && (R.ps.all pOk && (decide (sumL R.ps ≤ 100000) &&
  ((List.range R.cs.length).all (cAtB (sumL R.ps) R.cs) && (List.range R.js.length).all (jAtB (sumL R.ps) R.js)))))))
def chk (R : Road) : Int := if val R = true then 0 else 2
theorem val_iff (R : Road) : val R = true ↔ OK R := by
  unfold val
  simp only [Bool.and_eq_true, decide_eq_true_eq, List.all_eq_true, List.mem_range, cAtB_iff, jAtB_iff]
  constructor
  · rintro ⟨a, b, c, d, e, f, g, h⟩; exact ⟨a, b, c, d, e, f, g, h⟩
  · rintro ⟨a, b, c, d, e, f, g, h⟩; exact ⟨a, b, c, d, e, f, g, h⟩
theorem val_ok {R : Road} (h : OK R) : val R = true := (val_iff R).2 h
theorem val_bad {R : Road} (h : ¬ OK R) : val R = false := by rw [Bool.eq_false_iff]; exact fun q => h ((val_iff R).1 q)
theorem chk_ok {R : Road} (h : OK R) : chk R = 0 := by unfold chk; rw [if_pos (val_ok h)]
theorem chk_bad {R : Road} (h : ¬ OK R) : chk R = 2 := by unfold chk; rw [if_neg (by rw [val_bad h]; simp)]
theorem sumL_nil : sumL [] = 0 := rfl
theorem sumL_snoc (l : List Piece) (p : Piece) : sumL (l ++ [p]) = sumL l + p.len := by simp [sumL]
theorem sumL_take (l : List Piece) (k : Nat) (h : k < l.length) : sumL (l.take (k + 1)) = sumL (l.take k) + l[k].len := by
  rw [List.take_succ_eq_append_getElem h, sumL_snoc]
theorem pOk_len {p : Piece} (h : pOk p = true) : 1 ≤ p.len ∧ p.len ≤ 5000 := by
  simp only [pOk, inR, Bool.and_eq_true, decide_eq_true_eq] at h
  exact h.1
theorem sumL_bd (l : List Piece) (h : ∀ p ∈ l, pOk p = true) : (l.length : Int) ≤ sumL l ∧ sumL l ≤ 5000 * l.length := by
  induction l with
  | nil => simp [sumL]
  | cons p l ih =>
    have := ih (fun q hq => h q (List.mem_cons_of_mem _ hq))
    have h1 := pOk_len (h p (List.mem_cons_self ..))
    have e : sumL (p :: l) = p.len + sumL l := by simp [sumL]
    rw [e, List.length_cons]; omega
theorem sumL_take_bd (l : List Piece) (k : Nat) (h : ∀ p ∈ l.take k, pOk p = true) (hk : l.length ≤ 2000) : 0 ≤ sumL (l.take k) ∧ sumL (l.take k) ≤ 10000000 := by
  have := sumL_bd _ h
  have h2 : (l.take k).length ≤ l.length := List.length_take_le' ..
  omega
theorem pC_len (p : Piece) : (pC p).length = 5 := rfl
theorem cC_len (p : Crest) : (cC p).length = 2 := rfl
theorem jC_len (p : Junc) : (jC p).length = 3 := rfl
def iC (n : Int) : List Value := [.int .i64 n]
theorem iC_len (n : Int) : (iC n).length = 1 := rfl
abbrev IS := SL iC 1
theorem IS.at_ {w : World} {B n : Nat} {A : Option Addr} {xs : List Int} (h : SL iC 1 w B A n xs) {k : Nat} (hk : k < xs.length) : ∃ b off, A = some ⟨b, off, none⟩ ∧ b < B ∧
    w.cell? ⟨b, off + k, none⟩ = some (.int .i64 xs[k]) := by
  obtain ⟨b, off, e, hb, hc⟩ := h.at_ hk
  have := hc 0 _ rfl
  rw [Nat.mul_one, Nat.add_zero] at this
  exact ⟨b, off, e, hb, this⟩
/-- The beginnings of the first k pieces. -/
def bgk (ps : List Piece) (k : Nat) : List Int := (List.range k).map fun i => sumL (ps.take i)
theorem bgk_succ (ps : List Piece) (k : Nat) : bgk ps (k + 1) = bgk ps k ++ [sumL (ps.take k)] := by simp [bgk, List.range_succ]
theorem bgk_len (ps : List Piece) (k : Nat) : (bgk ps k).length = k := by simp [bgk]
theorem bgk_at (ps : List Piece) (k i : Nat) (h : i < (bgk ps k).length) : (bgk ps k)[i] = sumL (ps.take i) := by simp [bgk]
/-- A road with its beginnings, behind the pointer to block g. -/
structure MS (w : World) (B g : Nat) (pa : Option Addr) (pn pc : Nat) (ca : Option Addr) (cn cc : Nat) (ja : Option Addr) (jn jc : Nat) (ba : Option Addr) (bc : Nat) (R : Road) : Prop where
  lt : g < B
  c0 : w.cell? ⟨g, 0, none⟩ = some (.slice pa pn pc)
  c1 : w.cell? ⟨g, 1, none⟩ = some (.slice ca cn cc)
  c2 : w.cell? ⟨g, 2, none⟩ = some (.slice ja jn jc)
  c3 : w.cell? ⟨g, 3, none⟩ = some (.slice ba (pn + 1) bc)
  r : RD w B pa pn ca cn ja jn R
  b : IS w B ba (pn + 1) (bgk R.ps (pn + 1))
theorem RD.grow {w w' : World} {B B' : Nat} {pa : Option Addr} {pn : Nat} {ca : Option Addr} {cn : Nat} {ja : Option Addr} {jn : Nat} {R : Road} (h : RD w B pa pn ca cn ja jn R) (hb : Below B w w') (hB : B ≤ B') :
    RD w' B' pa pn ca cn ja jn R := ⟨h.p.grow hb hB, h.c.grow hb hB, h.j.grow hb hB⟩
theorem MS.grow {w w' : World} {B B' g : Nat} {pa : Option Addr} {pn pc : Nat} {ca : Option Addr} {cn cc : Nat} {ja : Option Addr} {jn jc : Nat} {ba : Option Addr} {bc : Nat} {R : Road}
    (h : MS w B g pa pn pc ca cn cc ja jn jc ba bc R) (hb : Below B w w') (hB : B ≤ B') : MS w' B' g pa pn pc ca cn cc ja jn jc ba bc R :=
  ⟨by have := h.lt; omega, (Go.Proofs.Ytomloklckpcaiaa.bc hb h.lt).trans h.c0, (Go.Proofs.Ytomloklckpcaiaa.bc hb h.lt).trans h.c1, (Go.Proofs.Ytomloklckpcaiaa.bc hb h.lt).trans h.c2, (Go.Proofs.Ytomloklckpcaiaa.bc hb h.lt).trans h.c3, h.r.grow hb hB, h.b.grow hb hB⟩
theorem RD.drewN {w : World} {B : Nat} {pa : Option Addr} {pn : Nat} {ca : Option Addr} {cn : Nat} {ja : Option Addr} {jn : Nat} {R : Road} (h : RD w B pa pn ca cn ja jn R) (n : Nat) :
    RD (w.drewN n) B pa pn ca cn ja jn R := h.grow (below_drewN (Below.refl B w) n) (Nat.le_refl _)
theorem MS.drewN {w : World} {B g : Nat} {pa : Option Addr} {pn pc : Nat} {ca : Option Addr} {cn cc : Nat} {ja : Option Addr} {jn jc : Nat} {ba : Option Addr} {bc : Nat} {R : Road}
    (h : MS w B g pa pn pc ca cn cc ja jn jc ba bc R) (n : Nat) : MS (w.drewN n) B g pa pn pc ca cn cc ja jn jc ba bc R := h.grow (below_drewN (Below.refl B w) n) (Nat.le_refl _)
end Go.Proofs.Ytomloklckpcaiaa

/- A road that came in as an argument: its three slices, opened to lists. -/
namespace Go.Proofs.Ytomloklckpcaiaa
open Go.ChangeShapes Go.WideShapes Go.ChangeAt Go.RowKit Go.Deep Go.Joins

theorem own : ownKnob Try.prog.godebug = none := by kernel_rfl
theorem laidOut : laidOutB Try.prog = true := by kernel_rfl
section
variable {H : Type} {enc : TypeId × Value → H} {P : Program} {w : World} {base : Nat} {spare : Nat → Bool} {held : Bool}
/-- A slice of structs whose fields are all ints, of whatever number. -/
theorem open_rows {t e : TypeId} {fs : Array Field} {fuel : Nat} {c : Value} {x : DataW H × List MemPlace} (ht : P.underlying t = some (.slice e)) (he : P.underlying e = some (.struct fs))
    (hone : oneCellFields P fs = true) (hC : P.cellsOf e = fs.size) (hint : ∀ (j : Nat) (f : Field), fs[j]? = some f → P.underlying f.type = some (.int .i64)) (hpos : 0 < fs.size) (h : DataW.trod enc P w base spare held fuel t [c] = some x) :
    ∃ (A : Option Addr) (n cp : Nat) (F : Nat → Nat → Int), c = .slice A n cp ∧ (0 < n → ∃ b off, A = some ⟨b, off, none⟩ ∧ b < w.heap.size ∧
      ∀ i, i < n → ∀ j, j < fs.size → w.cell? ⟨b, off + i * fs.size + j, none⟩ = some (.int .i64 (F i j))) := by
  rcases open_slice ht h with ⟨h0, _⟩ | ⟨a, len, cap, m, n, D, Pl, hcs, hb, hl, hm, hmm, hx, hi⟩
  · simp at h0
    exact ⟨none, 0, 0, fun _ _ => 0, h0, fun q => absurd q (by omega)⟩
  · have hlm : len ≤ m := by rw [hmm]; split <;> omega
    have key : ∀ i, i < len → ∃ G : Nat → Int, ∀ j, j < fs.size → w.cell? (a.add (i * fs.size + j)) = some (.int .i64 (G j)) := by
      intro i hil
      obtain ⟨cs', hc, ht'⟩ := hi i (by omega)
      rw [hC] at hc
      obtain ⟨ys, n', hn', hy, hlen, hyl, hf⟩ := DataW.trod_struct he ht'
      obtain ⟨_, hcl, hat⟩ := World.cells?_some hc
      refine choose_lt (α := Int) (p := fun j q => w.cell? (a.add (i * fs.size + j)) = some (.int .i64 q)) fun j hj => ?_
      obtain ⟨ho, hk⟩ := hone_of hone j fs[j] (Array.getElem?_eq_getElem hj)
      have hcell := hat j hj
      have h1 := hf j fs[j] (Array.getElem?_eq_getElem hj)
      rw [ho, hk] at h1
      have hone' : (cs'.drop j).take 1 = [cs'[j]'(by omega)] := by
        rw [List.drop_eq_getElem_cons (by omega)]
        rfl
      rw [hone'] at h1
      have hys : ys[j]? = some (ys[j]'(by omega)) := List.getElem?_eq_getElem (by omega)
      obtain ⟨q, hq, _, _⟩ := DataW.trod_int (hint j _ (Array.getElem?_eq_getElem hj)) (h1.trans hys)
      refine ⟨q, ?_⟩
      rw [← Go.Deep.add_add, hcell, List.getElem?_eq_getElem (by omega)]
      simpa using hq
    obtain ⟨F, hF⟩ := choose_lt (α := Nat → Int) (p := fun i G => ∀ j, j < fs.size → w.cell? (a.add (i * fs.size + j)) = some (.int .i64 (G j))) key
    simp at hcs
    subst hcs
    refine ⟨some a, len, cap, F, rfl, fun hn => ?_⟩
    have h0 := hF 0 hn 0 hpos
    have hbl := block_lt_of_cell h0
    have hsp := World.cell?_spot h0
    obtain ⟨b, off, sp⟩ := a
    simp only [Nat.zero_mul, Nat.add_zero] at h0 hbl hsp
    have hsp' : sp = none := by simpa [Addr.add] using hsp
    subst hsp'
    refine ⟨b, off, rfl, by simpa [Addr.add] using hbl, fun i hi' j hj => ?_⟩
    have := hF i hi' j hj
    have e0 : ((⟨b, off, none⟩ : Addr).add (i * fs.size + j)) = ⟨b, off + i * fs.size + j, none⟩ := by unfold Addr.add; split <;> simp_all [Nat.add_assoc]
    rwa [e0] at this
variable {r : Reach} {b0 : Nat}
theorem sl_of_rows {α : Type} {f : α → List Value} {sz n : Nat} {A : Option Addr} (F : Nat → Nat → Int) (mk : (Nat → Int) → α) (hf : ∀ G, ∀ j v, (f (mk G))[j]? = some v → j < sz ∧ v = .int .i64 (G j))
    (h : 0 < n → ∃ b off, A = some ⟨b, off, none⟩ ∧ b < w.heap.size ∧ ∀ i, i < n → ∀ j, j < sz → w.cell? ⟨b, off + i * sz + j, none⟩ = some (.int .i64 (F i j))) :
    SL f sz w w.heap.size A n ((List.range n).map fun i => mk (F i)) := by
  refine ⟨by simp, fun hn => ?_⟩
  obtain ⟨b, off, e, hb, hc⟩ := h hn
  refine ⟨b, off, e, hb, fun i x hx j v hv => ?_⟩
  have hi : i < n := by have := (List.getElem?_eq_some_iff.1 hx).1; simpa using this
  rw [List.getElem?_map, List.getElem?_range hi] at hx
  cases hx
  obtain ⟨hj, rfl⟩ := hf _ j v hv
  exact hc i hi j hj
set_option maxRecDepth 100000 in
/-- A road by value. -/
theorem open_road {v : Value} {d : DataW H} {p : List MemPlace} (hv : Value.okWide Try.prog w r b0 26 v) (h : DataW.Trod enc Try.prog w base spare held 26 v d p) :
    ∃ pa pn pc ca cn cc ja jn jc R, v = .agg #[.slice pa pn pc, .slice ca cn cc, .slice ja jn jc] ∧ RD w w.heap.size pa pn ca cn ja jn R := by
  obtain ⟨v0, v1, v2, y0, y1, y2, n, rfl, _, _, h0, h1, h2⟩ := open_agg3 Try.underlying26 (by kernel_rfl) (by kernel_rfl) hv h
  obtain ⟨pa, pn, pc, F0, rfl, q0⟩ := open_rows Try.underlying22 Try.underlying52 (by kernel_rfl) (by kernel_rfl) (fun j f hj => by
    match j, hj with
    | 0, hj | 1, hj | 2, hj | 3, hj | 4, hj => cases hj; exact Try.underlying3
    | j + 5, hj => cases hj) (by decide) h0
  obtain ⟨ca, cn, cc, F1, rfl, q1⟩ := open_rows Try.underlying23 Try.underlying87 (by kernel_rfl) (by kernel_rfl) (fun j f hj => by
    match j, hj with
    | 0, hj | 1, hj => cases hj; exact Try.underlying3
    | j + 2, hj => cases hj) (by decide) h1
  obtain ⟨ja, jn, jc, F2, rfl, q2⟩ := open_rows Try.underlying24 Try.underlying89 (by kernel_rfl) (by kernel_rfl) (fun j f hj => by
    match j, hj with
    | 0, hj | 1, hj | 2, hj => cases hj; exact Try.underlying3
    | j + 3, hj => cases hj) (by decide) h2
  refine ⟨pa, pn, pc, ca, cn, cc, ja, jn, jc, ⟨_, _, _⟩, rfl,
    sl_of_rows F0 (fun G => (⟨G 0, G 1, G 2, G 3, G 4⟩ : Piece)) (fun G j v hv => ?_) q0,
    sl_of_rows F1 (fun G => (⟨G 0, G 1⟩ : Crest)) (fun G j v hv => ?_) q1,
    sl_of_rows F2 (fun G => (⟨G 0, G 1, G 2⟩ : Junc)) (fun G j v hv => ?_) q2⟩
  · match j, hv with
    | 0, hv | 1, hv | 2, hv | 3, hv | 4, hv => cases hv; exact ⟨by decide, rfl⟩
    | j + 5, hv => cases hv
  · match j, hv with
    | 0, hv | 1, hv => cases hv; exact ⟨by decide, rfl⟩
    | j + 2, hv => cases hv
  · match j, hv with
    | 0, hv | 1, hv | 2, hv => cases hv; exact ⟨by decide, rfl⟩
    | j + 3, hv => cases hv
end
end Go.Proofs.Ytomloklckpcaiaa
