/- Speeds: the table as three slices' worth of values, whether it is as defined, how long a meter of a piece takes, and the sums up to each place. No program in sight. -/
import Derived.Test.YtijcbfhlhgjedaaDoorPCBBase
import Derived.Test.YtijcbfhlhgjedaaDoorPCBRoad
import Derived.Test.YtijcbfhlhgjedaaDoorPCBLeaf
import Derived.Test.YtijcbfhlhgjedaaDoorPCBFind
import Derived.Test.YtijcbfhlhgjedaaDoorPCBCheck
import Derived.Test.YtijcbfhlhgjedaaDoorPCBValid
import Derived.Test.YtijcbfhlhgjedaaDoorPCBReg
import Derived.Test.YtijcbfhlhgjedaaDoorPCBGrouped
import Derived.Test.YtijcbfhlhgjedaaDoorPCBBackM
import Derived.Deep.RegionLaw
import Derived.Deep.Upon
import Derived.Shelf.RegionOpenPlain
import Derived.Lib.SliceRun
import Derived.Lib.AppendZeros
import Derived.Test.YtijcbfhlhgjedaaDoorPCBPG
import Derived.Test.YtijcbfhlhgjedaaDoorPCBStr
import Derived.Test.YtijcbfhlhgjedaaDoorPCBOpen
import Derived.Test.YtijcbfhlhgjedaaDoorPCBReg7
import Derived.ChangeSlices
namespace Go.Proofs.YtijcbfhlhgjedaaDoor
open Go.RowKit Go.Shelf Go.Sort Go.Proofs

structure SpRow where
  rad : Int
  least : Int
  most : Int
structure Spd where
  least : Int
  most : Int
  rows : List SpRow
  surf : List Int
def spC (r : SpRow) : List Value := [.int .i64 r.rad, .int .i64 r.least, .int .i64 r.most]
/-- Two slices that read as the table S, below block B. -/
structure SD (w : World) (B : Nat) (ra : Option Addr) (rn : Nat) (sa : Option Addr) (sn : Nat) (S : Spd) : Prop where
  r : SL spC 3 w B ra rn S.rows
  s : SL iC 1 w B sa sn S.surf
theorem SD.grow {w w' : World} {B B' : Nat} {ra : Option Addr} {rn : Nat} {sa : Option Addr} {sn : Nat} {S : Spd} (h : SD w B ra rn sa sn S) (hb : Below B w w') (hB : B ≤ B') :
    SD w' B' ra rn sa sn S := ⟨h.r.grow hb hB, h.s.grow hb hB⟩
theorem SR.at_ {w : World} {B n : Nat} {A : Option Addr} {xs : List SpRow} (h : SL spC 3 w B A n xs) {k : Nat} (hk : k < xs.length) : ∃ b off, A = some ⟨b, off, none⟩ ∧ b < B ∧
    w.cell? ⟨b, off + k * 3, none⟩ = some (.int .i64 xs[k].rad) ∧ w.cell? ⟨b, off + k * 3 + 1, none⟩ = some (.int .i64 xs[k].least) ∧ w.cell? ⟨b, off + k * 3 + 2, none⟩ = some (.int .i64 xs[k].most) := by
  obtain ⟨b, off, e, hb, hc⟩ := h.at_ hk
  exact ⟨b, off, e, hb, hc 0 _ rfl, hc 1 _ rfl, hc 2 _ rfl⟩
def bdB (l h : Int) : Bool := decide (1 ≤ l) && (decide (l ≤ h) && decide (h ≤ 700))
/-- The row at i is as defined (and above the one before it). -/
def rAt (rs : List SpRow) (i : Nat) : Prop := ∀ r, rs[i]? = some r → bdB r.least r.most = true ∧ r.rad ≤ 2000 ∧ ∀ q, 0 < i → rs[i-1]? = some q → q.rad < r.rad
def rAtB (rs : List SpRow) (i : Nat) : Bool := (rs[i]?).all fun r => bdB r.least r.most && (decide (r.rad ≤ 2000) && (i == 0 || (rs[i-1]?).all fun q => decide (q.rad < r.rad)))
theorem rAtB_iff (rs : List SpRow) (i : Nat) : rAtB rs i = true ↔ rAt rs i := by
  unfold rAtB rAt
  simp only [Option.all_eq_true, Bool.and_eq_true, Bool.or_eq_true, decide_eq_true_eq, beq_iff_eq]
  constructor
  · intro h c hc
    obtain ⟨a, b, d⟩ := h c hc
    exact ⟨a, b, fun e hi he => (d.resolve_left (by omega)) e he⟩
  · intro h c hc
    obtain ⟨a, b, d⟩ := h c hc
    exact ⟨a, b, (Nat.eq_zero_or_pos i).imp id fun hi e he => d e hi he⟩
/-- Speeds that are as defined. -/
structure SOK (S : Spd) : Prop where
  b : bdB S.least S.most = true
  r1 : 1 ≤ S.rows.length
  r2 : S.rows.length ≤ 30
  s9 : S.surf.length = 9
  r0 : ∀ r, S.rows[0]? = some r → r.rad = 5
  rk : ∀ i, i < S.rows.length → rAt S.rows i
  sk : ∀ p ∈ S.surf, inR p 1 100 = true
def spB (S : Spd) : Bool := bdB S.least S.most && (decide (1 ≤ S.rows.length) && (decide (S.rows.length ≤ 30) && (decide (S.surf.length = 9) && (((S.rows[0]?).all fun r => decide (r.rad = 5)) &&
  ((List.range S.rows.length).all (rAtB S.rows) && S.surf.all fun p => inR p 1 100)))))
theorem spB_iff (S : Spd) : spB S = true ↔ SOK S := by
  unfold spB
  simp only [Bool.and_eq_true, decide_eq_true_eq, List.all_eq_true, List.mem_range, rAtB_iff, Option.all_eq_true]
  constructor
  · rintro ⟨a, b, c, d, e, f, g⟩; exact ⟨a, b, c, d, e, f, g⟩
  · rintro ⟨a, b, c, d, e, f, g⟩; exact ⟨a, b, c, d, e, f, g⟩
theorem spB_ok {S : Spd} (h : SOK S) : spB S = true := (spB_iff S).2 h
theorem spB_bad {S : Spd} (h : ¬ SOK S) : spB S = false := by rw [Bool.eq_false_iff]; exact fun q => h ((spB_iff S).1 q)
def spE (S : Spd) : Int := if spB S = true then 0 else 2
theorem spE_ok {S : Spd} (h : SOK S) : spE S = 0 := by unfold spE; rw [if_pos (spB_ok h)]
theorem spE_bad {S : Spd} (h : ¬ SOK S) : spE S = 2 := by unfold spE; rw [if_neg (by rw [spB_bad h]; simp)]
/-- The last row whose radius is not above r. -/
def rowF (rs : List SpRow) (r : Int) : Option SpRow := rs.foldl (fun o x => if x.rad ≤ r then some x else o) none
/-- The bounds of speed for a piece, without its surface. -/
def rowS (S : Spd) (p : Piece) : Int × Int :=
  if p.turn = 0 then (S.least, S.most) else match rowF S.rows p.rad with | some x => (x.least, x.most) | none => (S.least, S.most)
def surS (S : Spd) (p : Piece) : Int := S.surf.getD (p.sur - 1).toNat 0
/-- The least and the most time of a meter of a piece. -/
def mQ (S : Spd) (p : Piece) : Int := 10000000 / (((rowS S p).2 * surS S p + 99) / 100)
def mSl (S : Spd) (p : Piece) : Int := (10000000 + max 1 ((rowS S p).1 * surS S p / 100) - 1) / max 1 ((rowS S p).1 * surS S p / 100)
/-- The sums of the least (most) times of the first k meters. -/
def tQ (S : Spd) (ps : List Piece) (k : Nat) : Int := (((units ps).take k).map (mQ S)).sum
def tSl (S : Spd) (ps : List Piece) (k : Nat) : Int := (((units ps).take k).map (mSl S)).sum
theorem mQ_one (S : Spd) (p : Piece) : mQ S (one p) = mQ S p := rfl
theorem mSl_one (S : Spd) (p : Piece) : mSl S (one p) = mSl S p := rfl
theorem rowF_snoc (rs : List SpRow) (x : SpRow) (r : Int) : rowF (rs ++ [x]) r = if x.rad ≤ r then some x else rowF rs r := by simp [rowF]
theorem rowF_acc {r : Int} {x : SpRow} : ∀ (rs : List SpRow) (o : Option SpRow), rs.foldl (fun o y => if y.rad ≤ r then some y else o) o = some x → (x ∈ rs ∧ x.rad ≤ r) ∨ o = some x
  | [], _, h => .inr h
  | y :: rs, o, h => by
    rcases rowF_acc rs _ h with h | h
    · exact .inl ⟨List.mem_cons_of_mem _ h.1, h.2⟩
    · dsimp only at h
      by_cases hy : y.rad ≤ r
      · rw [if_pos hy] at h
        cases h
        exact .inl ⟨List.mem_cons_self .., hy⟩
      · rw [if_neg hy] at h
        exact .inr h
theorem rowF_mem {rs : List SpRow} {r : Int} {x : SpRow} (h : rowF rs r = some x) : x ∈ rs ∧ x.rad ≤ r := (rowF_acc rs none h).resolve_right (by simp)
theorem bdB_iff {l h : Int} : bdB l h = true ↔ 1 ≤ l ∧ l ≤ h ∧ h ≤ 700 := by simp [bdB]
theorem rowS_bd {S : Spd} (h : SOK S) (p : Piece) : 1 ≤ (rowS S p).1 ∧ (rowS S p).1 ≤ (rowS S p).2 ∧ (rowS S p).2 ≤ 700 := by
  have h0 := bdB_iff.1 h.b
  unfold rowS
  split
  · exact h0
  · cases hr : rowF S.rows p.rad with
    | none => exact h0
    | some x =>
      obtain ⟨hm, -⟩ := rowF_mem hr
      obtain ⟨i, hi, rfl⟩ := List.getElem_of_mem hm
      exact bdB_iff.1 (h.rk i hi _ (List.getElem?_eq_getElem hi)).1
theorem surS_bd {S : Spd} (h : SOK S) {p : Piece} (hp : pOk p = true) : 1 ≤ surS S p ∧ surS S p ≤ 100 := by
  simp only [pOk, inR, Bool.and_eq_true, decide_eq_true_eq] at hp
  have h9 := h.s9
  have hi : (p.sur - 1).toNat < S.surf.length := by omega
  have := h.sk _ (List.getElem_mem hi)
  simp only [inR, Bool.and_eq_true, decide_eq_true_eq] at this
  unfold surS
  rw [List.getD, List.getElem?_eq_getElem hi]
  exact this
theorem mQ_bd {S : Spd} (h : SOK S) {p : Piece} (hp : pOk p = true) : 0 ≤ mQ S p ∧ mQ S p ≤ 10000000 := by
  obtain ⟨a1, a2, a3⟩ := rowS_bd h p
  obtain ⟨b1, b2⟩ := surS_bd h hp
  unfold mQ
  generalize (rowS S p).2 = m at *
  generalize surS S p = s at *
  have h1 : 1 ≤ m * s := by have := Int.mul_le_mul (show 1 ≤ m by omega) b1 (by omega) (by omega); omega
  have h2 : 1 ≤ (m * s + 99) / 100 := by omega
  generalize (m * s + 99) / 100 = d at h2
  exact ⟨Int.ediv_nonneg (by omega) (by omega), Int.ediv_le_self _ (by omega)⟩
theorem mSl_bd {S : Spd} (h : SOK S) {p : Piece} (hp : pOk p = true) : 1 ≤ mSl S p ∧ mSl S p ≤ 10000700 := by
  obtain ⟨a1, a2, a3⟩ := rowS_bd h p
  obtain ⟨b1, b2⟩ := surS_bd h hp
  unfold mSl
  generalize (rowS S p).1 = m at *
  generalize surS S p = s at *
  have h1 : m * s ≤ 700 * 100 := Int.mul_le_mul (by omega) b2 (by omega) (by omega)
  have h2 : 1 ≤ max 1 (m * s / 100) := Int.le_max_left ..
  have h3 : max 1 (m * s / 100) ≤ 700 := by omega
  generalize max 1 (m * s / 100) = d at h2 h3
  have h4 : 1 ≤ (10000000 + d - 1) / d := by
    rw [Int.le_ediv_iff_mul_le (by omega)]; omega
  have h5 : (10000000 + d - 1) / d ≤ 10000000 + d - 1 := Int.ediv_le_self _ (by omega)
  exact ⟨h4, by omega⟩
theorem tQ_succ (S : Spd) (ps : List Piece) {k : Nat} {x : Piece} (h : (units ps)[k]? = some x) : tQ S ps (k + 1) = tQ S ps k + mQ S x := by
  unfold tQ; rw [List.take_add_one, h]; simp
theorem tSl_succ (S : Spd) (ps : List Piece) {k : Nat} {x : Piece} (h : (units ps)[k]? = some x) : tSl S ps (k + 1) = tSl S ps k + mSl S x := by
  unfold tSl; rw [List.take_add_one, h]; simp
theorem sum_bd {l : List Piece} {f : Piece → Int} {lo hi : Int} (h : ∀ p ∈ l, lo ≤ f p ∧ f p ≤ hi) : lo * l.length ≤ (l.map f).sum ∧ (l.map f).sum ≤ hi * l.length := by
  induction l with
  | nil => simp
  | cons x l ih =>
    have h1 := h x (List.mem_cons_self ..)
    have h2 := ih (fun p hp => h p (List.mem_cons_of_mem _ hp))
    simp only [List.map_cons, List.sum_cons, List.length_cons, Int.natCast_add, Int.mul_add]
    omega
end Go.Proofs.YtijcbfhlhgjedaaDoor

/- On the safer road of two surveys no meter takes less time, if bends, small radii and bad surfaces never make a car faster. No program in sight. -/
namespace Go.Proofs.YtijcbfhlhgjedaaDoor
open Go.RowKit Go.Shelf Go.Sort Go.Proofs

theorem pOk_rad5 {p : Piece} (h : pOk p = true) (ht : p.turn ≠ 0) : 5 ≤ p.rad := by
  simp only [pOk, Bool.and_eq_true, if_neg ht, inR, decide_eq_true_eq] at h
  exact h.2.2.2.2.1
end Go.Proofs.YtijcbfhlhgjedaaDoor

/- Speeds that came in as an argument: two numbers and two slices, opened to lists. -/
namespace Go.Proofs.YtijcbfhlhgjedaaDoor
open Go.ChangeShapes Go.WideShapes Go.ChangeAt Go.RowKit Go.Deep Go.Joins

section
variable {H : Type} {enc : TypeId × Value → H} {w : World} {base : Nat} {spare : Nat → Bool} {held : Bool} {r : Reach} {b0 : Nat}
set_option maxRecDepth 100000 in
/-- A slice of ints that stands in one cell. -/
theorem open_is1 {c : Value} {fuel : Nat} {x : DataW H × List MemPlace} (hf : DataW.trod enc Tryd.prog w base spare held fuel 28 [c] = some x) :
    ∃ A n cp xs, c = .slice A n cp ∧ SL iC 1 w w.heap.size A n xs := by
  rcases open_ints Tryd.underlying28 Tryd.underlying3 (by kernel_rfl) hf with ⟨h0, _⟩ | ⟨a, len, cap, zs, h0, _, hlc, _, hz, _, hcell, _⟩
  · simp at h0
    exact ⟨none, 0, 0, [], h0, rfl, fun q => absurd q (by omega)⟩
  · simp at h0
    have hlz : len ≤ zs.length := by rw [hz]; split <;> omega
    refine ⟨some a, len, cap, zs.take len, h0, by rw [List.length_take]; omega, fun hn => ?_⟩
    have hc0 := hcell 0 (by omega)
    have hbl := block_lt_of_cell hc0
    have hsp := World.cell?_spot hc0
    obtain ⟨b, off, sp⟩ := a
    have hsp' : sp = none := by simpa [Addr.add] using hsp
    subst hsp'
    refine ⟨b, off, rfl, by simpa [Addr.add] using hbl, fun k x hx j v hv => ?_⟩
    have hk : k < len := by have := (List.getElem?_eq_some_iff.1 hx).1; rw [List.length_take] at this; omega
    rw [List.getElem?_take, if_pos hk] at hx
    have h1 := hcell k (by omega)
    have e0 : ((⟨b, off, none⟩ : Addr).add k) = ⟨b, off + k, none⟩ := by unfold Addr.add; split <;> simp_all
    rw [e0, List.getD, hx] at h1
    match j, hv with
    | 0, hv => cases hv; simpa using h1
    | j + 1, hv => cases hv
set_option maxRecDepth 100000 in
/-- Speeds by value. -/
theorem open_speeds {v : Value} {d : DataW H} {p : List MemPlace} (hv : Value.okWide Tryd.prog w r b0 30 v) (h : DataW.Trod enc Tryd.prog w base spare held 30 v d p) :
    ∃ ra rn rc sa sn sc S, v = .agg #[.int .i64 S.least, .int .i64 S.most, .slice ra rn rc, .slice sa sn sc] ∧ SD w w.heap.size ra rn sa sn S := by
  obtain ⟨v0, v1, v2, v3, y0, y1, y2, y3, n, rfl, _, _, h0, h1, h2, h3⟩ := open_agg4 Tryd.underlying30 (by kernel_rfl) (by kernel_rfl) hv h
  obtain ⟨x0, e0, _, _⟩ := DataW.trod_int Tryd.underlying3 h0
  obtain ⟨x1, e1, _, _⟩ := DataW.trod_int Tryd.underlying3 h1
  simp at e0 e1
  subst e0 e1
  obtain ⟨ra, rn, rc, F, rfl, q0⟩ := open_rows Tryd.underlying27 Tryd.underlying77 (by kernel_rfl) (by kernel_rfl) (fun j f hj => by
    match j, hj with
    | 0, hj | 1, hj | 2, hj => cases hj; exact Tryd.underlying3
    | j + 3, hj => cases hj) (by decide) h2
  obtain ⟨sa, sn, sc, xs, rfl, q1⟩ := open_is1 h3
  refine ⟨ra, rn, rc, sa, sn, sc, ⟨x0, x1, _, xs⟩, rfl, sl_of_rows F (fun G => (⟨G 0, G 1, G 2⟩ : SpRow)) (fun G j v hv => ?_) q0, q1⟩
  match j, hv with
  | 0, hv | 1, hv | 2, hv => cases hv; exact ⟨by decide, rfl⟩
  | j + 3, hv => cases hv
end
end Go.Proofs.YtijcbfhlhgjedaaDoor
