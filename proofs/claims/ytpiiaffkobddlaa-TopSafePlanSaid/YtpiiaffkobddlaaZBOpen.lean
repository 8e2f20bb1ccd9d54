/- A road that came in as an argument: its three slices, opened to lists. -/
import Derived.Test.YtpiiaffkobddlaaRows
import Derived.Test.YtpiiaffkobddlaaZBRoad
import Derived.ProofKit
import Derived.OpenShut
import Derived.ChangeOld
import Derived.Deep.Slices
import Derived.Deep.Fields
import Derived.Lib.SmallJoins
import Derived.Test.YtpiiaffkobddlaaZBReg
import Derived.Test.YtpiiaffkobddlaaZBBase
import Derived.Test.YtpiiaffkobddlaaZBLeaf
import Derived.Test.YtpiiaffkobddlaaZBFind
import Derived.Test.YtpiiaffkobddlaaZBCheck
import Derived.Test.YtpiiaffkobddlaaZBValid
import Derived.Test.YtpiiaffkobddlaaZBCorn
import Derived.Test.YtpiiaffkobddlaaZBBackM
import Derived.Test.YtpiiaffkobddlaaZBSortM
import Derived.Test.YtpiiaffkobddlaaZBSwR
import Derived.Test.YtpiiaffkobddlaaZBRot
import Derived.Test.YtpiiaffkobddlaaZBIns
import Derived.Test.YtpiiaffkobddlaaZBSymA
import Derived.Test.YtpiiaffkobddlaaZBSymM
import Derived.Test.YtpiiaffkobddlaaZBStab
import Derived.Test.YtpiiaffkobddlaaZBDel
import Derived.Test.YtpiiaffkobddlaaZBBoth
import Derived.Test.YtpiiaffkobddlaaZBConc
import Derived.Test.YtpiiaffkobddlaaZBMrgd
import Derived.Test.YtpiiaffkobddlaaZBPG
import Derived.Test.YtpiiaffkobddlaaZBStr
import Derived.Test.YtpiiaffkobddlaaZBSurv
import Derived.Test.YtpiiaffkobddlaaZBSfr
import Derived.Test.YtpiiaffkobddlaaZBPGrouped
import Derived.Test.YtpiiaffkobddlaaZBRuns
import Derived.Test.YtpiiaffkobddlaaZBSafM
import Derived.Test.YtpiiaffkobddlaaZBRfOk
import Derived.Test.YtpiiaffkobddlaaZBSafe
namespace Go.Proofs.Ytpiiaffkobddlaa
open Go.ChangeShapes Go.WideShapes Go.ChangeAt Go.RowKit Go.Deep Go.Joins

theorem own : ownKnob Try.prog.godebug = none := by kernel_rfl
theorem laidOut : laidOutB Try.prog = true := by kernel_rfl
section
variable {H : Type} {enc : TypeId × Value → H} {P : Program} {w : World} {base : Nat} {spare : Nat → Bool} {held : Bool}
/-- A slice of structs whose fields are all ints, of whatever number. -/
theorem open_rows {t e : TypeId} {fs : Array Field} {fuel : Nat} {c : Value} {x : DataW H × List MemPlace} (ht : P.underlying t = some (.slice e)) (he : P.underlying e = some (.struct fs))
    (hone : oneCellFields P fs = true) (hC : P.cellsOf e = fs.size) (hint : ∀ (j : Nat) (f : Field), fs[j]? = some f → P.underlying f.type = some (.int .i64)) (hpos : 0 < fs.size) (h : DataW.trod enc P w base spare held fuel t [c] = some x) :
    ∃ (A : Option Addr) (n cp : Nat) (F : Nat → Nat → Int), c = .slice A n cp ∧ (0 < n → ∃ b off, A = some ⟨b, off, none⟩ ∧ b < w.heap.size ∧
      ∀ i, i < n → ∀ j, j < fs.size → w.cell? ⟨b, off + i * fs.size + j, none⟩ = some (.int .i64 (F i j))) := by
  rcases open_slice ht h with ⟨h0, _⟩ | ⟨a, len, cap, m, n, D, Pl, hcs, hb, hl, hm, hmm, hx, hi⟩
  · simp at h0
    exact ⟨none, 0, 0, fun _ _ => 0, h0, fun q => absurd q (by omega)⟩
  · have hlm : len ≤ m := by rw [hmm]; split <;> omega
    have key : ∀ i, i < len → ∃ G : Nat → Int, ∀ j, j < fs.size → w.cell? (a.add (i * fs.size + j)) = some (.int .i64 (G j)) := by
      intro i hil
      obtain ⟨cs', hc, ht'⟩ := hi i (by omega)
      rw [hC] at hc
      obtain ⟨ys, n', hn', hy, hlen, hyl, hf⟩ := DataW.trod_struct he ht'
      obtain ⟨_, hcl, hat⟩ := World.cells?_some hc
      refine choose_lt (α := Int) (p := fun j q => w.cell? (a.add (i * fs.size + j)) = some (.int .i64 q)) fun j hj => ?_
      obtain ⟨ho, hk⟩ := hone_of hone j fs[j] (Array.getElem?_eq_getElem hj)
      have hcell := hat j hj
      have h1 := hf j fs[j] (Array.getElem?_eq_getElem hj)
      rw [ho, hk] at h1
      have hone' : (cs'.drop j).take 1 = [cs'[j]'(by omega)] := by
        rw [List.drop_eq_getElem_cons (by omega)]
        rfl
      rw [hone'] at h1
      have hys : ys[j]? = some (ys[j]'(by omega)) := List.getElem?_eq_getElem (by omega)
      obtain ⟨q, hq, _, _⟩ := DataW.trod_int (hint j _ (Array.getElem?_eq_getElem hj)) (h1.trans hys)
      refine ⟨q, ?_⟩
      rw [← Go.Deep.add_add, hcell, List.getElem?_eq_getElem (by omega)]
      simpa using hq
    obtain ⟨F, hF⟩ := choose_lt (α := Nat → Int) (p := fun i G => ∀ j, j < fs.size → w.cell? (a.add (i * fs.size + j)) = some (.int .i64 (G j))) key
    simp at hcs
    subst hcs
    refine ⟨some a, len, cap, F, rfl, fun hn => ?_⟩
    have h0 := hF 0 hn 0 hpos
    have hbl := block_lt_of_cell h0
    have hsp := World.cell?_spot h0
    obtain ⟨b, off, sp⟩ := a
    simp only [Nat.zero_mul, Nat.add_zero] at h0 hbl hsp
    have hsp' : sp = none := by simpa [Addr.add] using hsp
    subst hsp'
    refine ⟨b, off, rfl, by simpa [Addr.add] using hbl, fun i hi' j hj => ?_⟩
    have := hF i hi' j hj
    have e0 : ((⟨b, off, none⟩ : Addr).add (i * fs.size + j)) = ⟨b, off + i * fs.size + j, none⟩ := by unfold Addr.add; split <;> simp_all [Nat.add_assoc]
    rwa [e0] at this
variable {r : Reach} {b0 : Nat}
theorem sl_of_rows {α : Type} {f : α → List Value} {sz n : Nat} {A : Option Addr} (F : Nat → Nat → Int) (mk : (Nat → Int) → α) (hf : ∀ G, ∀ j v, (f (mk G))[j]? = some v → j < sz ∧ v = .int .i64 (G j))
    (h : 0 < n → ∃ b off, A = some ⟨b, off, none⟩ ∧ b < w.heap.size ∧ ∀ i, i < n → ∀ j, j < sz → w.cell? ⟨b, off + i * sz + j, none⟩ = some (.int .i64 (F i j))) :
    SL f sz w w.heap.size A n ((List.range n).map fun i => mk (F i)) := by
  refine ⟨by simp, fun hn => ?_⟩
  obtain ⟨b, off, e, hb, hc⟩ := h hn
  refine ⟨b, off, e, hb, fun i x hx j v hv => ?_⟩
  have hi : i < n := by have := (List.getElem?_eq_some_iff.1 hx).1; simpa using this
  rw [List.getElem?_map, List.getElem?_range hi] at hx
  cases hx
  obtain ⟨hj, rfl⟩ := hf _ j v hv
  exact hc i hi j hj
set_option maxRecDepth 100000 in
/-- A road by value. -/
theorem open_road {v : Value} {d : DataW H} {p : List MemPlace} (hv : Value.okWide Try.prog w r b0 26 v) (h : DataW.Trod enc Try.prog w base spare held 26 v d p) :
    ∃ pa pn pc ca cn cc ja jn jc R, v = .agg #[.slice pa pn pc, .slice ca cn cc, .slice ja jn jc] ∧ RD w w.heap.size pa pn ca cn ja jn R := by
  obtain ⟨v0, v1, v2, y0, y1, y2, n, rfl, _, _, h0, h1, h2⟩ := open_agg3 Try.underlying26 (by kernel_rfl) (by kernel_rfl) hv h
  obtain ⟨pa, pn, pc, F0, rfl, q0⟩ := open_rows Try.underlying22 Try.underlying53 (by kernel_rfl) (by kernel_rfl) (fun j f hj => by
    match j, hj with
    | 0, hj | 1, hj | 2, hj | 3, hj | 4, hj => cases hj; exact Try.underlying3
    | j + 5, hj => cases hj) (by decide) h0
  obtain ⟨ca, cn, cc, F1, rfl, q1⟩ := open_rows Try.underlying23 Try.underlying80 (by kernel_rfl) (by kernel_rfl) (fun j f hj => by
    match j, hj with
    | 0, hj | 1, hj => cases hj; exact Try.underlying3
    | j + 2, hj => cases hj) (by decide) h1
  obtain ⟨ja, jn, jc, F2, rfl, q2⟩ := open_rows Try.underlying24 Try.underlying87 (by kernel_rfl) (by kernel_rfl) (fun j f hj => by
    match j, hj with
    | 0, hj | 1, hj | 2, hj => cases hj; exact Try.underlying3
    | j + 3, hj => cases hj) (by decide) h2
  refine ⟨pa, pn, pc, ca, cn, cc, ja, jn, jc, ⟨_, _, _⟩, rfl,
    sl_of_rows F0 (fun G => (⟨G 0, G 1, G 2, G 3, G 4⟩ : Piece)) (fun G j v hv => ?_) q0,
    sl_of_rows F1 (fun G => (⟨G 0, G 1⟩ : Crest)) (fun G j v hv => ?_) q1,
    sl_of_rows F2 (fun G => (⟨G 0, G 1, G 2⟩ : Junc)) (fun G j v hv => ?_) q2⟩
  · match j, hv with
    | 0, hv | 1, hv | 2, hv | 3, hv | 4, hv => cases hv; exact ⟨by decide, rfl⟩
    | j + 5, hv => cases hv
  · match j, hv with
    | 0, hv | 1, hv => cases hv; exact ⟨by decide, rfl⟩
    | j + 2, hv => cases hv
  · match j, hv with
    | 0, hv | 1, hv | 2, hv => cases hv; exact ⟨by decide, rfl⟩
    | j + 3, hv => cases hv
end
end Go.Proofs.Ytpiiaffkobddlaa

/- A region whose head makes three blocks, beside calls (x, y, z := three calls' results). A plain theorem over any program. -/
namespace Go.Proofs.Ytpiiaffkobddlaa
open Go.RowKit Go.Sort

section
variable {P : Program}
variable {ops : Array Oper} {C : World → Prop} {k : Nat} {ns ks : List Nat} {Lq : Act → Fact → Prop} {o : Oper} {rest : List Oper} {a : Act} {Φ : Fact}
/-- An operation of the chain whose guard fails is passed over. -/
theorem wpC_off (h1 : k ∉ ns) (hg : Region.wanted o (yielded ops a.tmps) = false) (h : wpC P ops C ns ks Lq (k + 1) rest (a.put o.dst undef) Φ) : wpC P ops C ns ks Lq k (o :: rest) a Φ := by
  unfold wpC
  rw [if_neg h1, if_neg (by rw [hg]; decide)]
  exact h
end
end Go.Proofs.Ytpiiaffkobddlaa

/- Speeds: the table as three slices' worth of values, whether it is as defined, how long a meter of a piece takes, and the sums up to each place. No program in sight. -/
namespace Go.Proofs.Ytpiiaffkobddlaa
open Go.RowKit Go.Shelf Go.Sort Go.Proofs

structure SpRow where
  rad : Int
  least : Int
  most : Int
structure Spd where
  least : Int
  most : Int
  rows : List SpRow
  surf : List Int
def spC (r : SpRow) : List Value := [.int .i64 r.rad, .int .i64 r.least, .int .i64 r.most]
theorem spC_len (r : SpRow) : (spC r).length = 3 := rfl
/-- Two slices that read as the table S, below block B. -/
structure SD (w : World) (B : Nat) (ra : Option Addr) (rn : Nat) (sa : Option Addr) (sn : Nat) (S : Spd) : Prop where
  r : SL spC 3 w B ra rn S.rows
  s : SL iC 1 w B sa sn S.surf
theorem SD.grow {w w' : World} {B B' : Nat} {ra : Option Addr} {rn : Nat} {sa : Option Addr} {sn : Nat} {S : Spd} (h : SD w B ra rn sa sn S) (hb : Below B w w') (hB : B ≤ B') :
    SD w' B' ra rn sa sn S := ⟨h.r.grow hb hB, h.s.grow hb hB⟩
theorem SR.at_ {w : World} {B n : Nat} {A : Option Addr} {xs : List SpRow} (h : SL spC 3 w B A n xs) {k : Nat} (hk : k < xs.length) : ∃ b off, A = some ⟨b, off, none⟩ ∧ b < B ∧
    w.cell? ⟨b, off + k * 3, none⟩ = some (.int .i64 xs[k].rad) ∧ w.cell? ⟨b, off + k * 3 + 1, none⟩ = some (.int .i64 xs[k].least) ∧ w.cell? ⟨b, off + k * 3 + 2, none⟩ = some (.int .i64 xs[k].most) := by
  obtain ⟨b, off, e, hb, hc⟩ := h.at_ hk
  exact ⟨b, off, e, hb, hc 0 _ rfl, hc 1 _ rfl, hc 2 _ rfl⟩
def bdB (l h : Int) : Bool := decide (1 ≤ l) && (decide (l ≤ h) && decide (h ≤ 700))
/-- The row at i is as defined (and above the one before it). -/
def rAt (rs : List SpRow) (i : Nat) : Prop := ∀ r, rs[i]? = some r → bdB r.least r.most = true ∧ r.rad ≤ 2000 ∧ ∀ q, 0 < i → rs[i-1]? = some q → q.rad < r.rad
def rAtB (rs : List SpRow) (i : Nat) : Bool := (rs[i]?).all fun r => bdB r.least r.most && (decide (r.rad ≤ 2000) && (i == 0 || (rs[i-1]?).all fun q => decide (q.rad < r.rad)))
theorem rAtB_iff (rs : List SpRow) (i : Nat) : rAtB rs i = true ↔ rAt rs i := by
  unfold rAtB rAt
  simp only [Option.all_eq_true, Bool.and_eq_true, Bool.or_eq_true, decide_eq_true_eq, beq_iff_eq]
  constructor
  · intro h c hc
    obtain ⟨a, b, d⟩ := h c hc
    exact ⟨a, b, fun e hi he => (d.resolve_left (by omega)) e he⟩
  · intro h c hc
    obtain ⟨a, b, d⟩ := h c hc
    exact ⟨a, b, (Nat.eq_zero_or_pos i).imp id fun hi e he => d e hi he⟩
/-- Speeds that are as defined. -/
structure SOK (S : Spd) : Prop where
  b : bdB S.least S.most = true
  r1 : 1 ≤ S.rows.length
  r2 : S.rows.length ≤ 30
  s9 : S.surf.length = 9
  r0 : ∀ r, S.rows[0]? = some r → r.rad = 5
  rk : ∀ i, i < S.rows.length → rAt S.rows i
  sk : ∀ p ∈ S.surf, inR p 1 100 = true
def spB (S : Spd) : Bool := bdB S.least S.most && (decide (1 ≤ S.rows.length) && (decide (S.rows.length ≤ 30) && (decide (S.surf.length = 9) && (((S.rows[0]?).all fun r => decide (r.rad = 5)) &&
  ((List.range S.rows.length).all (rAtB S.rows) && S.surf.all fun p => inR p 1 100)))))
theorem spB_iff (S : Spd) : spB S = true ↔ SOK S := by
  unfold spB
  simp only [Bool.and_eq_true, decide_eq_true_eq, List.all_eq_true, List.mem_range, rAtB_iff, Option.all_eq_true]
  constructor
  · rintro ⟨a, b, c, d, e, f, g⟩; exact ⟨a, b, c, d, e, f, g⟩
  · rintro ⟨a, b, c, d, e, f, g⟩; exact ⟨a, b, c, d, e, f, g⟩
theorem spB_ok {S : Spd} (h : SOK S) : spB S = true := (spB_iff S).2 h
theorem spB_bad {S : Spd} (h : ¬ SOK S) : spB S = false := by rw [Bool.eq_false_iff]; exact fun q => h ((spB_iff S).1 q)
def spE (S : Spd) : Int := if spB S = true then 0 else 2
theorem spE_ok {S : Spd} (h : SOK S) : spE S = 0 := by unfold spE; rw [if_pos (spB_ok h)]
theorem spE_bad {S : Spd} (h : ¬ SOK S) : spE S = 2 := by unfold spE; rw [if_neg (by rw [spB_bad h]; simp)]
/-- The last row whose radius is not above r. -/
def rowF (rs : List SpRow) (r : Int) : Option SpRow := rs.foldl (fun o x => if x.rad ≤ r then some x else o) none
/-- The bounds of speed for a piece, without its surface. -/
def rowS (S : Spd) (p : Piece) : Int × Int :=
  if p.turn = 0 then (S.least, S.most) else match rowF S.rows p.rad with | some x => (x.least, x.most) | none => (S.least, S.most)
def surS (S : Spd) (p : Piece) : Int := S.surf.getD (p.sur - 1).toNat 0
/-- The least and the most time of a meter of a piece. -/
def mQ (S : Spd) (p : Piece) : Int := 10000000 / (((rowS S p).2 * surS S p + 99) / 100)
def mSl (S : Spd) (p : Piece) : Int := (10000000 + max 1 ((rowS S p).1 * surS S p / 100) - 1) / max 1 ((rowS S p).1 * surS S p / 100)
/-- The sums of the least (most) times of the first k meters. -/
def tQ (S : Spd) (ps : List Piece) (k : Nat) : Int := (((units ps).take k).map (mQ S)).sum
def tSl (S : Spd) (ps : List Piece) (k : Nat) : Int := (((units ps).take k).map (mSl S)).sum
theorem mQ_one (S : Spd) (p : Piece) : mQ S (one p) = mQ S p := rfl
theorem mSl_one (S : Spd) (p : Piece) : mSl S (one p) = mSl S p := rfl
theorem rowF_snoc (rs : List SpRow) (x : SpRow) (r : Int) : rowF (rs ++ [x]) r = if x.rad ≤ r then some x else rowF rs r := by simp [rowF]
theorem rowF_acc {r : Int} {x : SpRow} : ∀ (rs : List SpRow) (o : Option SpRow), rs.foldl (fun o y => if y.rad ≤ r then some y else o) o = some x → (x ∈ rs ∧ x.rad ≤ r) ∨ o = some x
  | [], _, h => .inr h
  | y :: rs, o, h => by
    rcases rowF_acc rs _ h with h | h
    · exact .inl ⟨List.mem_cons_of_mem _ h.1, h.2⟩
    · dsimp only at h
      by_cases hy : y.rad ≤ r
      · rw [if_pos hy] at h
        cases h
        exact .inl ⟨List.mem_cons_self .., hy⟩
      · rw [if_neg hy] at h
        exact .inr h
theorem rowF_mem {rs : List SpRow} {r : Int} {x : SpRow} (h : rowF rs r = some x) : x ∈ rs ∧ x.rad ≤ r := (rowF_acc rs none h).resolve_right (by simp)
theorem bdB_iff {l h : Int} : bdB l h = true ↔ 1 ≤ l ∧ l ≤ h ∧ h ≤ 700 := by simp [bdB]
theorem rowS_bd {S : Spd} (h : SOK S) (p : Piece) : 1 ≤ (rowS S p).1 ∧ (rowS S p).1 ≤ (rowS S p).2 ∧ (rowS S p).2 ≤ 700 := by
  have h0 := bdB_iff.1 h.b
  unfold rowS
  split
  · exact h0
  · cases hr : rowF S.rows p.rad with
    | none => exact h0
    | some x =>
      obtain ⟨hm, -⟩ := rowF_mem hr
      obtain ⟨i, hi, rfl⟩ := List.getElem_of_mem hm
      exact bdB_iff.1 (h.rk i hi _ (List.getElem?_eq_getElem hi)).1
theorem surS_bd {S : Spd} (h : SOK S) {p : Piece} (hp : pOk p = true) : 1 ≤ surS S p ∧ surS S p ≤ 100 := by
  simp only [pOk, inR, Bool.and_eq_true, decide_eq_true_eq] at hp
  have h9 := h.s9
  have hi : (p.sur - 1).toNat < S.surf.length := by omega
  have := h.sk _ (List.getElem_mem hi)
  simp only [inR, Bool.and_eq_true, decide_eq_true_eq] at this
  unfold surS
  rw [List.getD, List.getElem?_eq_getElem hi]
  exact this
theorem mQ_bd {S : Spd} (h : SOK S) {p : Piece} (hp : pOk p = true) : 0 ≤ mQ S p ∧ mQ S p ≤ 10000000 := by
  obtain ⟨a1, a2, a3⟩ := rowS_bd h p
  obtain ⟨b1, b2⟩ := surS_bd h hp
  unfold mQ
  generalize (rowS S p).2 = m at *
  generalize surS S p = s at *
  have h1 : 1 ≤ m * s := by have := Int.mul_le_mul (show 1 ≤ m by omega) b1 (by omega) (by omega); omega
  have h2 : 1 ≤ (m * s + 99) / 100 := by omega
  generalize (m * s + 99) / 100 = d at h2
  exact ⟨Int.ediv_nonneg (by omega) (by omega), Int.ediv_le_self _ (by omega)⟩
theorem mSl_bd {S : Spd} (h : SOK S) {p : Piece} (hp : pOk p = true) : 1 ≤ mSl S p ∧ mSl S p ≤ 10000700 := by
  obtain ⟨a1, a2, a3⟩ := rowS_bd h p
  obtain ⟨b1, b2⟩ := surS_bd h hp
  unfold mSl
  generalize (rowS S p).1 = m at *
  generalize surS S p = s at *
  have h1 : m * s ≤ 700 * 100 := Int.mul_le_mul (by omega) b2 (by omega) (by omega)
  have h2 : 1 ≤ max 1 (m * s / 100) := Int.le_max_left ..
  have h3 : max 1 (m * s / 100) ≤ 700 := by omega
  generalize max 1 (m * s / 100) = d at h2 h3
  have h4 : 1 ≤ (10000000 + d - 1) / d := by
    rw [Int.le_ediv_iff_mul_le (by omega)]; omega
  have h5 : (10000000 + d - 1) / d ≤ 10000000 + d - 1 := Int.ediv_le_self _ (by omega)
  exact ⟨h4, by omega⟩
theorem tQ_succ (S : Spd) (ps : List Piece) {k : Nat} {x : Piece} (h : (units ps)[k]? = some x) : tQ S ps (k + 1) = tQ S ps k + mQ S x := by
  unfold tQ; rw [List.take_add_one, h]; simp
theorem sum_bd {l : List Piece} {f : Piece → Int} {lo hi : Int} (h : ∀ p ∈ l, lo ≤ f p ∧ f p ≤ hi) : lo * l.length ≤ (l.map f).sum ∧ (l.map f).sum ≤ hi * l.length := by
  induction l with
  | nil => simp
  | cons x l ih =>
    have h1 := h x (List.mem_cons_self ..)
    have h2 := ih (fun p hp => h p (List.mem_cons_of_mem _ hp))
    simp only [List.map_cons, List.sum_cons, List.length_cons, Int.natCast_add, Int.mul_add]
    omega
end Go.Proofs.Ytpiiaffkobddlaa
