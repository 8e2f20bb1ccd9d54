/- Roads as plain data: pieces, crests, junctions; how each is laid out in cells; which are as defined. Plain definitions; no program in sight. -/
import Derived.Test.YtafclpmnpamipaaGreatQBase
namespace Go.Proofs.YtafclpmnpamipaaGreat
open Go.RowKit

structure Piece where
  len : Int
  turn : Int
  rad : Int
  wid : Int
  sur : Int
structure Crest where
  pos : Int
  siz : Int
structure Junc where
  pos : Int
  arms : Int
  way : Int
structure Road where
  ps : List Piece
  cs : List Crest
  js : List Junc
def pC (p : Piece) : List Value := [.int .i64 p.len, .int .i64 p.turn, .int .i64 p.rad, .int .i64 p.wid, .int .i64 p.sur]
def cC (c : Crest) : List Value := [.int .i64 c.pos, .int .i64 c.siz]
def jC (j : Junc) : List Value := [.int .i64 j.pos, .int .i64 j.arms, .int .i64 j.way]
theorem PS.at_ {w : World} {B n : Nat} {A : Option Addr} {xs : List Piece} (h : SL pC 5 w B A n xs) {k : Nat} (hk : k < xs.length) : ∃ b off, A = some ⟨b, off, none⟩ ∧ b < B ∧
    w.cell? ⟨b, off + k * 5, none⟩ = some (.int .i64 xs[k].len) ∧ w.cell? ⟨b, off + k * 5 + 1, none⟩ = some (.int .i64 xs[k].turn) ∧ w.cell? ⟨b, off + k * 5 + 2, none⟩ = some (.int .i64 xs[k].rad) ∧
    w.cell? ⟨b, off + k * 5 + 3, none⟩ = some (.int .i64 xs[k].wid) ∧ w.cell? ⟨b, off + k * 5 + 4, none⟩ = some (.int .i64 xs[k].sur) := by
  obtain ⟨b, off, e, hb, hc⟩ := h.at_ hk
  exact ⟨b, off, e, hb, hc 0 _ rfl, hc 1 _ rfl, hc 2 _ rfl, hc 3 _ rfl, hc 4 _ rfl⟩
theorem CS.at_ {w : World} {B n : Nat} {A : Option Addr} {xs : List Crest} (h : SL cC 2 w B A n xs) {k : Nat} (hk : k < xs.length) : ∃ b off, A = some ⟨b, off, none⟩ ∧ b < B ∧
    w.cell? ⟨b, off + k * 2, none⟩ = some (.int .i64 xs[k].pos) ∧ w.cell? ⟨b, off + k * 2 + 1, none⟩ = some (.int .i64 xs[k].siz) := by
  obtain ⟨b, off, e, hb, hc⟩ := h.at_ hk
  exact ⟨b, off, e, hb, hc 0 _ rfl, hc 1 _ rfl⟩
theorem JS.at_ {w : World} {B n : Nat} {A : Option Addr} {xs : List Junc} (h : SL jC 3 w B A n xs) {k : Nat} (hk : k < xs.length) : ∃ b off, A = some ⟨b, off, none⟩ ∧ b < B ∧
    w.cell? ⟨b, off + k * 3, none⟩ = some (.int .i64 xs[k].pos) ∧ w.cell? ⟨b, off + k * 3 + 1, none⟩ = some (.int .i64 xs[k].arms) ∧ w.cell? ⟨b, off + k * 3 + 2, none⟩ = some (.int .i64 xs[k].way) := by
  obtain ⟨b, off, e, hb, hc⟩ := h.at_ hk
  exact ⟨b, off, e, hb, hc 0 _ rfl, hc 1 _ rfl, hc 2 _ rfl⟩
abbrev PS := SL pC 5
abbrev CS := SL cC 2
abbrev JS := SL jC 3
/-- Three slices that read as the road R, below block B. -/
structure RD (w : World) (B : Nat) (pa : Option Addr) (pn : Nat) (ca : Option Addr) (cn : Nat) (ja : Option Addr) (jn : Nat) (R : Road) : Prop where
  p : PS w B pa pn R.ps
  c : CS w B ca cn R.cs
  j : JS w B ja jn R.js
def inR (x lo hi : Int) : Bool := decide (lo ≤ x) && decide (x ≤ hi)
/-- A piece that is as defined. -/
def pOk (p : Piece) : Bool :=
  inR p.len 1 5000 && (inR p.turn (-1) 1 && (inR p.wid 15 300 && (inR p.sur 1 9 && (if p.turn = 0 then decide (p.rad = 0) else inR p.rad 5 2000))))
def sumL (l : List Piece) : Int := (l.map Piece.len).sum
/-- Division with rounding, halves away from 0. -/
def rnd (a b : Int) : Int := if a < 0 then -((2 * (-a) + b) / (2 * b)) else (2*a+b)/(2*b)
/-- The turning of m meters of a piece. -/
def trn (p : Piece) (m : Int) : Int := if p.turn = 0 then 0 else p.turn * rnd (1000*m) p.rad
theorem below_drewN {B : Nat} {a w : World} (h : Below B a w) (n : Nat) : Below B a (w.drewN n) := ⟨h.os, h.tape, h.output, h.size, h.block⟩
/-- The crest at i is as defined (and behind the one before it). -/
def cAt (n : Int) (cs : List Crest) (i : Nat) : Prop := ∀ c, cs[i]? = some c → inR c.pos 0 n = true ∧ inR c.siz 1 3 = true ∧ ∀ d, 0 < i → cs[i-1]? = some d → d.pos < c.pos
/-- The junction at i is as defined. -/
def jAt (n : Int) (js : List Junc) (i : Nat) : Prop := ∀ c, js[i]? = some c → inR c.pos 0 n = true ∧ inR c.arms 2 6 = true ∧ inR c.way 1 c.arms = true ∧ ∀ d, 0 < i → js[i-1]? = some d → d.pos < c.pos
def cAtB (n : Int) (cs : List Crest) (i : Nat) : Bool := (cs[i]?).all fun c => inR c.pos 0 n && (inR c.siz 1 3 && (i == 0 || (cs[i-1]?).all fun d => decide (d.pos < c.pos)))
def jAtB (n : Int) (js : List Junc) (i : Nat) : Bool := (js[i]?).all fun c => inR c.pos 0 n && (inR c.arms 2 6 && (inR c.way 1 c.arms && (i == 0 || (js[i-1]?).all fun d => decide (d.pos < c.pos))))
theorem cAtB_iff (n : Int) (cs : List Crest) (i : Nat) : cAtB n cs i = true ↔ cAt n cs i := by
  unfold cAtB cAt
  simp only [Option.all_eq_true, Bool.and_eq_true, Bool.or_eq_true, decide_eq_true_eq, beq_iff_eq]
  constructor
  · intro h c hc
    obtain ⟨a, b, d⟩ := h c hc
    exact ⟨a, b, fun e hi he => (d.resolve_left (by omega)) e he⟩
  · intro h c hc
    obtain ⟨a, b, d⟩ := h c hc
    exact ⟨a, b, (Nat.eq_zero_or_pos i).imp id fun hi e he => d e hi he⟩
theorem jAtB_iff (n : Int) (js : List Junc) (i : Nat) : jAtB n js i = true ↔ jAt n js i := by
  unfold jAtB jAt
  simp only [Option.all_eq_true, Bool.and_eq_true, Bool.or_eq_true, decide_eq_true_eq, beq_iff_eq]
  constructor
  · intro h c hc
    obtain ⟨a, b, b', d⟩ := h c hc
    exact ⟨a, b, b', fun e hi he => (d.resolve_left (by omega)) e he⟩
  · intro h c hc
    obtain ⟨a, b, b', d⟩ := h c hc
    exact ⟨a, b, b', (Nat.eq_zero_or_pos i).imp id fun hi e he => d e hi he⟩
/-- A road that is as defined. -/
structure OK (R : Road) : Prop where
  p1 : 1 ≤ R.ps.length
  p2 : R.ps.length ≤ 2000
  c1 : R.cs.length ≤ 1000
  j1 : R.js.length ≤ 200
  pk : ∀ p ∈ R.ps, pOk p = true
  n1 : sumL R.ps ≤ 100000
  ck : ∀ i, i < R.cs.length → cAt (sumL R.ps) R.cs i
  jk : ∀ i, i < R.js.length → jAt (sumL R.ps) R.js i
def val (R : Road) : Bool := decide (1 ≤ R.ps.length) && (decide (R.ps.length ≤ 2000) && (decide (R.cs.length ≤ 1000) && (decide (R.js.length ≤ 200) && (R.ps.all pOk && (decide (sumL R.ps ≤ 100000) &&
  ((List.range R.cs.length).all (cAtB (sumL R.ps) R.cs) && (List.range R.js.length).all (jAtB (sumL R.ps) R.js)))))))
def chk (R : Road) : Int := if val R = true then 0 else 2
theorem val_iff (R : Road) : val R = true ↔ OK R := by
  unfold val
  simp only [Bool.and_eq_true, decide_eq_true_eq, List.all_eq_true, List.mem_range, cAtB_iff, jAtB_iff]
  constructor
  · rintro ⟨a, b, c, d, e, f, g, h⟩; exact ⟨a, b, c, d, e, f, g, h⟩
  · rintro ⟨a, b, c, d, e, f, g, h⟩; exact ⟨a, b, c, d, e, f, g, h⟩
theorem val_ok {R : Road} (h : OK R) : val R = true := (val_iff R).2 h
theorem val_bad {R : Road} (h : ¬ OK R) : val R = false := by rw [Bool.eq_false_iff]; exact fun q => h ((val_iff R).1 q)
theorem chk_ok {R : Road} (h : OK R) : chk R = 0 := by unfold chk; rw [if_pos (val_ok h)]
theorem chk_bad {R : Road} (h : ¬ OK R) : chk R = 2 := by unfold chk; rw [if_neg (by rw [val_bad h]; simp)]
theorem sumL_nil : sumL [] = 0 := rfl
theorem sumL_snoc (l : List Piece) (p : Piece) : sumL (l ++ [p]) = sumL l + p.len := by simp [sumL]
theorem sumL_take (l : List Piece) (k : Nat) (h : k < l.length) : sumL (l.take (k + 1)) = sumL (l.take k) + l[k].len := by
  rw [List.take_succ_eq_append_getElem h, sumL_snoc]
theorem pOk_len {p : Piece} (h : pOk p = true) : 1 ≤ p.len ∧ p.len ≤ 5000 := by
  simp only [pOk, inR, Bool.and_eq_true, decide_eq_true_eq] at h
  exact h.1
theorem sumL_bd (l : List Piece) (h : ∀ p ∈ l, pOk p = true) : (l.length : Int) ≤ sumL l ∧ sumL l ≤ 5000 * l.length := by
  induction l with
  | nil => simp [sumL]
  | cons p l ih =>
    have := ih (fun q hq => h q (List.mem_cons_of_mem _ hq))
    have h1 := pOk_len (h p (List.mem_cons_self ..))
    have e : sumL (p :: l) = p.len + sumL l := by simp [sumL]
    rw [e, List.length_cons]; omega
theorem sumL_take_bd (l : List Piece) (k : Nat) (h : ∀ p ∈ l.take k, pOk p = true) (hk : l.length ≤ 2000) : 0 ≤ sumL (l.take k) ∧ sumL (l.take k) ≤ 10000000 := by
  have := sumL_bd _ h
  have h2 : (l.take k).length ≤ l.length := List.length_take_le' ..
  omega
theorem pC_len (p : Piece) : (pC p).length = 5 := rfl
def iC (n : Int) : List Value := [.int .i64 n]
theorem iC_len (n : Int) : (iC n).length = 1 := rfl
abbrev IS := SL iC 1
theorem IS.at_ {w : World} {B n : Nat} {A : Option Addr} {xs : List Int} (h : SL iC 1 w B A n xs) {k : Nat} (hk : k < xs.length) : ∃ b off, A = some ⟨b, off, none⟩ ∧ b < B ∧
    w.cell? ⟨b, off + k, none⟩ = some (.int .i64 xs[k]) := by
  obtain ⟨b, off, e, hb, hc⟩ := h.at_ hk
  have := hc 0 _ rfl
  rw [Nat.mul_one, Nat.add_zero] at this
  exact ⟨b, off, e, hb, this⟩
/-- The beginnings of the first k pieces. -/
def bgk (ps : List Piece) (k : Nat) : List Int := (List.range k).map fun i => sumL (ps.take i)
theorem bgk_succ (ps : List Piece) (k : Nat) : bgk ps (k + 1) = bgk ps k ++ [sumL (ps.take k)] := by simp [bgk, List.range_succ]
theorem bgk_len (ps : List Piece) (k : Nat) : (bgk ps k).length = k := by simp [bgk]
theorem bgk_at (ps : List Piece) (k i : Nat) (h : i < (bgk ps k).length) : (bgk ps k)[i] = sumL (ps.take i) := by simp [bgk]
/-- A road with its beginnings, behind the pointer to block g. -/
structure MS (w : World) (B g : Nat) (pa : Option Addr) (pn pc : Nat) (ca : Option Addr) (cn cc : Nat) (ja : Option Addr) (jn jc : Nat) (ba : Option Addr) (bc : Nat) (R : Road) : Prop where
  lt : g < B
  c0 : w.cell? ⟨g, 0, none⟩ = some (.slice pa pn pc)
  c1 : w.cell? ⟨g, 1, none⟩ = some (.slice ca cn cc)
  c2 : w.cell? ⟨g, 2, none⟩ = some (.slice ja jn jc)
  c3 : w.cell? ⟨g, 3, none⟩ = some (.slice ba (pn + 1) bc)
  r : RD w B pa pn ca cn ja jn R
  b : IS w B ba (pn + 1) (bgk R.ps (pn + 1))
theorem RD.grow {w w' : World} {B B' : Nat} {pa : Option Addr} {pn : Nat} {ca : Option Addr} {cn : Nat} {ja : Option Addr} {jn : Nat} {R : Road} (h : RD w B pa pn ca cn ja jn R) (hb : Below B w w') (hB : B ≤ B') :
    RD w' B' pa pn ca cn ja jn R := ⟨h.p.grow hb hB, h.c.grow hb hB, h.j.grow hb hB⟩
theorem MS.grow {w w' : World} {B B' g : Nat} {pa : Option Addr} {pn pc : Nat} {ca : Option Addr} {cn cc : Nat} {ja : Option Addr} {jn jc : Nat} {ba : Option Addr} {bc : Nat} {R : Road}
    (h : MS w B g pa pn pc ca cn cc ja jn jc ba bc R) (hb : Below B w w') (hB : B ≤ B') : MS w' B' g pa pn pc ca cn cc ja jn jc ba bc R :=
  ⟨by have := h.lt; omega, (Go.Proofs.YtafclpmnpamipaaGreat.bc hb h.lt).trans h.c0, (Go.Proofs.YtafclpmnpamipaaGreat.bc hb h.lt).trans h.c1, (Go.Proofs.YtafclpmnpamipaaGreat.bc hb h.lt).trans h.c2, (Go.Proofs.YtafclpmnpamipaaGreat.bc hb h.lt).trans h.c3, h.r.grow hb hB, h.b.grow hb hB⟩
theorem RD.drewN {w : World} {B : Nat} {pa : Option Addr} {pn : Nat} {ca : Option Addr} {cn : Nat} {ja : Option Addr} {jn : Nat} {R : Road} (h : RD w B pa pn ca cn ja jn R) (n : Nat) :
    RD (w.drewN n) B pa pn ca cn ja jn R := h.grow (below_drewN (Below.refl B w) n) (Nat.le_refl _)
theorem MS.drewN {w : World} {B g : Nat} {pa : Option Addr} {pn pc : Nat} {ca : Option Addr} {cn cc : Nat} {ja : Option Addr} {jn jc : Nat} {ba : Option Addr} {bc : Nat} {R : Road}
    (h : MS w B g pa pn pc ca cn cc ja jn jc ba bc R) (n : Nat) : MS (w.drewN n) B g pa pn pc ca cn cc ja jn jc ba bc R := h.grow (below_drewN (Below.refl B w) n) (Nat.le_refl _)
end Go.Proofs.YtafclpmnpamipaaGreat
