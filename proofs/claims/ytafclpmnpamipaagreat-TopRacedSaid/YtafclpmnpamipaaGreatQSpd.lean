/- Speeds: the table as three slices' worth of values, whether it is as defined, how long a meter of a piece takes, and the sums up to each place. No program in sight. -/
import Derived.Test.YtafclpmnpamipaaGreatQAppS
import Derived.Test.YtafclpmnpamipaaGreatQCorn
import Derived.Test.YtafclpmnpamipaaGreatQValid
import Derived.Test.YtafclpmnpamipaaGreatQOpen
import Derived.Test.YtafclpmnpamipaaGreatQReg8
import Derived.Test.YtafclpmnpamipaaGreatQFind
import Derived.Test.YtafclpmnpamipaaGreatQReg
import Derived.Test.YtafclpmnpamipaaGreatQReg7
import Derived.Test.YtafclpmnpamipaaGreatQStr1
namespace Go.Proofs.YtafclpmnpamipaaGreat
open Go.RowKit Go.Shelf Go.Sort Go.Proofs

structure SpRow where
  rad : Int
  least : Int
  most : Int
structure Spd where
  least : Int
  most : Int
  rows : List SpRow
  surf : List Int
def spC (r : SpRow) : List Value := [.int .i64 r.rad, .int .i64 r.least, .int .i64 r.most]
theorem spC_len (r : SpRow) : (spC r).length = 3 := rfl
/-- Two slices that read as the table S, below block B. -/
structure SD (w : World) (B : Nat) (ra : Option Addr) (rn : Nat) (sa : Option Addr) (sn : Nat) (S : Spd) : Prop where
  r : SL spC 3 w B ra rn S.rows
  s : SL iC 1 w B sa sn S.surf
theorem SD.grow {w w' : World} {B B' : Nat} {ra : Option Addr} {rn : Nat} {sa : Option Addr} {sn : Nat} {S : Spd} (h : SD w B ra rn sa sn S) (hb : Below B w w') (hB : B ≤ B') :
    SD w' B' ra rn sa sn S := ⟨h.r.grow hb hB, h.s.grow hb hB⟩
theorem SR.at_ {w : World} {B n : Nat} {A : Option Addr} {xs : List SpRow} (h : SL spC 3 w B A n xs) {k : Nat} (hk : k < xs.length) : ∃ b off, A = some ⟨b, off, none⟩ ∧ b < B ∧
    w.cell? ⟨b, off + k * 3, none⟩ = some (.int .i64 xs[k].rad) ∧ w.cell? ⟨b, off + k * 3 + 1, none⟩ = some (.int .i64 xs[k].least) ∧ w.cell? ⟨b, off + k * 3 + 2, none⟩ = some (.int .i64 xs[k].most) := by
  obtain ⟨b, off, e, hb, hc⟩ := h.at_ hk
  exact ⟨b, off, e, hb, hc 0 _ rfl, hc 1 _ rfl, hc 2 _ rfl⟩
def bdB (l h : Int) : Bool := decide (1 ≤ l) && (decide (l ≤ h) && decide (h ≤ 700))
/-- The row at i is as defined (and above the one before it). -/
def rAt (rs : List SpRow) (i : Nat) : Prop := ∀ r, rs[i]? = some r → bdB r.least r.most = true ∧ r.rad ≤ 2000 ∧ ∀ q, 0 < i → rs[i-1]? = some q → q.rad < r.rad
def rAtB (rs : List SpRow) (i : Nat) : Bool := (rs[i]?).all fun r => bdB r.least r.most && (decide (r.rad ≤ 2000) && (i == 0 || (rs[i-1]?).all fun q => decide (q.rad < r.rad)))
theorem rAtB_iff (rs : List SpRow) (i : Nat) : rAtB rs i = true ↔ rAt rs i := by
  unfold rAtB rAt
  simp only [Option.all_eq_true, Bool.and_eq_true, Bool.or_eq_true, decide_eq_true_eq, beq_iff_eq]
  constructor
  · intro h c hc
    obtain ⟨a, b, d⟩ := h c hc
    exact ⟨a, b, fun e hi he => (d.resolve_left (by omega)) e he⟩
  · intro h c hc
    obtain ⟨a, b, d⟩ := h c hc
    exact ⟨a, b, (Nat.eq_zero_or_pos i).imp id fun hi e he => d e hi he⟩
/-- Speeds that are as defined. -/
structure SOK (S : Spd) : Prop where
  b : bdB S.least S.most = true
  r1 : 1 ≤ S.rows.length
  r2 : S.rows.length ≤ 30
  s9 : S.surf.length = 9
  r0 : ∀ r, S.rows[0]? = some r → r.rad = 5
  rk : ∀ i, i < S.rows.length → rAt S.rows i
  sk : ∀ p ∈ S.surf, inR p 1 100 = true
def spB (S : Spd) : Bool := bdB S.least S.most && (decide (1 ≤ S.rows.length) && (decide (S.rows.length ≤ 30) && (decide (S.surf.length = 9) && (((S.rows[0]?).all fun r => decide (r.rad = 5)) &&
  ((List.range S.rows.length).all (rAtB S.rows) && S.surf.all fun p => inR p 1 100)))))
theorem spB_iff (S : Spd) : spB S = true ↔ SOK S := by
  unfold spB
  simp only [Bool.and_eq_true, decide_eq_true_eq, List.all_eq_true, List.mem_range, rAtB_iff, Option.all_eq_true]
  constructor
  · rintro ⟨a, b, c, d, e, f, g⟩; exact ⟨a, b, c, d, e, f, g⟩
  · rintro ⟨a, b, c, d, e, f, g⟩; exact ⟨a, b, c, d, e, f, g⟩
theorem spB_ok {S : Spd} (h : SOK S) : spB S = true := (spB_iff S).2 h
theorem spB_bad {S : Spd} (h : ¬ SOK S) : spB S = false := by rw [Bool.eq_false_iff]; exact fun q => h ((spB_iff S).1 q)
def spE (S : Spd) : Int := if spB S = true then 0 else 2
theorem spE_ok {S : Spd} (h : SOK S) : spE S = 0 := by unfold spE; rw [if_pos (spB_ok h)]
theorem spE_bad {S : Spd} (h : ¬ SOK S) : spE S = 2 := by unfold spE; rw [if_neg (by rw [spB_bad h]; simp)]
/-- The last row whose radius is not above r. -/
def rowF (rs : List SpRow) (r : Int) : Option SpRow := rs.foldl (fun o x => if x.rad ≤ r then some x else o) none
/-- The bounds of speed for a piece, without its surface. -/
def rowS (S : Spd) (p : Piece) : Int × Int :=
  if p.turn = 0 then (S.least, S.most) else match rowF S.rows p.rad with | some x => (x.least, x.most) | none => (S.least, S.most)
def surS (S : Spd) (p : Piece) : Int := S.surf.getD (p.sur - 1).toNat 0
/-- The least and the most time of a meter of a piece. -/
def mQ (S : Spd) (p : Piece) : Int := 10000000 / (((rowS S p).2 * surS S p + 99) / 100)
def mSl (S : Spd) (p : Piece) : Int := (10000000 + max 1 ((rowS S p).1 * surS S p / 100) - 1) / max 1 ((rowS S p).1 * surS S p / 100)
/-- The sums of the least (most) times of the first k meters. -/
def tQ (S : Spd) (ps : List Piece) (k : Nat) : Int := (((units ps).take k).map (mQ S)).sum
def tSl (S : Spd) (ps : List Piece) (k : Nat) : Int := (((units ps).take k).map (mSl S)).sum
theorem mQ_one (S : Spd) (p : Piece) : mQ S (one p) = mQ S p := rfl
theorem mSl_one (S : Spd) (p : Piece) : mSl S (one p) = mSl S p := rfl
theorem rowF_snoc (rs : List SpRow) (x : SpRow) (r : Int) : rowF (rs ++ [x]) r = if x.rad ≤ r then some x else rowF rs r := by simp [rowF]
theorem rowF_acc {r : Int} {x : SpRow} : ∀ (rs : List SpRow) (o : Option SpRow), rs.foldl (fun o y => if y.rad ≤ r then some y else o) o = some x → (x ∈ rs ∧ x.rad ≤ r) ∨ o = some x
  | [], _, h => .inr h
  | y :: rs, o, h => by
    rcases rowF_acc rs _ h with h | h
    · exact .inl ⟨List.mem_cons_of_mem _ h.1, h.2⟩
    · dsimp only at h
      by_cases hy : y.rad ≤ r
      · rw [if_pos hy] at h
        cases h
        exact .inl ⟨List.mem_cons_self .., hy⟩
      · rw [if_neg hy] at h
        exact .inr h
theorem rowF_mem {rs : List SpRow} {r : Int} {x : SpRow} (h : rowF rs r = some x) : x ∈ rs ∧ x.rad ≤ r := (rowF_acc rs none h).resolve_right (by simp)
theorem bdB_iff {l h : Int} : bdB l h = true ↔ 1 ≤ l ∧ l ≤ h ∧ h ≤ 700 := by simp [bdB]
theorem rowS_bd {S : Spd} (h : SOK S) (p : Piece) : 1 ≤ (rowS S p).1 ∧ (rowS S p).1 ≤ (rowS S p).2 ∧ (rowS S p).2 ≤ 700 := by
  have h0 := bdB_iff.1 h.b
  unfold rowS
  split
  · exact h0
  · cases hr : rowF S.rows p.rad with
    | none => exact h0
    | some x =>
      obtain ⟨hm, -⟩ := rowF_mem hr
      obtain ⟨i, hi, rfl⟩ := List.getElem_of_mem hm
      exact bdB_iff.1 (h.rk i hi _ (List.getElem?_eq_getElem hi)).1
theorem surS_bd {S : Spd} (h : SOK S) {p : Piece} (hp : pOk p = true) : 1 ≤ surS S p ∧ surS S p ≤ 100 := by
  simp only [pOk, inR, Bool.and_eq_true, decide_eq_true_eq] at hp
  have h9 := h.s9
  have hi : (p.sur - 1).toNat < S.surf.length := by omega
  have := h.sk _ (List.getElem_mem hi)
  simp only [inR, Bool.and_eq_true, decide_eq_true_eq] at this
  unfold surS
  rw [List.getD, List.getElem?_eq_getElem hi]
  exact this
theorem mQ_bd {S : Spd} (h : SOK S) {p : Piece} (hp : pOk p = true) : 0 ≤ mQ S p ∧ mQ S p ≤ 10000000 := by
  obtain ⟨a1, a2, a3⟩ := rowS_bd h p
  obtain ⟨b1, b2⟩ := surS_bd h hp
  unfold mQ
  generalize (rowS S p).2 = m at *
  generalize surS S p = s at *
  have h1 : 1 ≤ m * s := by have := Int.mul_le_mul (show 1 ≤ m by omega) b1 (by omega) (by omega); omega
  have h2 : 1 ≤ (m * s + 99) / 100 := by omega
  generalize (m * s + 99) / 100 = d at h2
  exact ⟨Int.ediv_nonneg (by omega) (by omega), Int.ediv_le_self _ (by omega)⟩
theorem mSl_bd {S : Spd} (h : SOK S) {p : Piece} (hp : pOk p = true) : 1 ≤ mSl S p ∧ mSl S p ≤ 10000700 := by
  obtain ⟨a1, a2, a3⟩ := rowS_bd h p
  obtain ⟨b1, b2⟩ := surS_bd h hp
  unfold mSl
  generalize (rowS S p).1 = m at *
  generalize surS S p = s at *
  have h1 : m * s ≤ 700 * 100 := Int.mul_le_mul (by omega) b2 (by omega) (by omega)
  have h2 : 1 ≤ max 1 (m * s / 100) := Int.le_max_left ..
  have h3 : max 1 (m * s / 100) ≤ 700 := by omega
  generalize max 1 (m * s / 100) = d at h2 h3
  have h4 : 1 ≤ (10000000 + d - 1) / d := by
    rw [Int.le_ediv_iff_mul_le (by omega)]; omega
  have h5 : (10000000 + d - 1) / d ≤ 10000000 + d - 1 := Int.ediv_le_self _ (by omega)
  exact ⟨h4, by omega⟩
theorem tQ_succ (S : Spd) (ps : List Piece) {k : Nat} {x : Piece} (h : (units ps)[k]? = some x) : tQ S ps (k + 1) = tQ S ps k + mQ S x := by
  unfold tQ; rw [List.take_add_one, h]; simp
theorem tSl_succ (S : Spd) (ps : List Piece) {k : Nat} {x : Piece} (h : (units ps)[k]? = some x) : tSl S ps (k + 1) = tSl S ps k + mSl S x := by
  unfold tSl; rw [List.take_add_one, h]; simp
theorem sum_bd {l : List Piece} {f : Piece → Int} {lo hi : Int} (h : ∀ p ∈ l, lo ≤ f p ∧ f p ≤ hi) : lo * l.length ≤ (l.map f).sum ∧ (l.map f).sum ≤ hi * l.length := by
  induction l with
  | nil => simp
  | cons x l ih =>
    have h1 := h x (List.mem_cons_self ..)
    have h2 := ih (fun p hp => h p (List.mem_cons_of_mem _ hp))
    simp only [List.map_cons, List.sum_cons, List.length_cons, Int.natCast_add, Int.mul_add]
    omega
end Go.Proofs.YtafclpmnpamipaaGreat

/- On the safer road of two surveys no meter takes less time, if bends, small radii and bad surfaces never make a car faster. No program in sight. -/
namespace Go.Proofs.YtafclpmnpamipaaGreat
open Go.RowKit Go.Shelf Go.Sort Go.Proofs

theorem pOk_rad5 {p : Piece} (h : pOk p = true) (ht : p.turn ≠ 0) : 5 ≤ p.rad := by
  simp only [pOk, Bool.and_eq_true, if_neg ht, inR, decide_eq_true_eq] at h
  exact h.2.2.2.2.1
end Go.Proofs.YtafclpmnpamipaaGreat

/- The document's comparison of two lists: equal lists are the same. -/
namespace Go.Proofs.YtafclpmnpamipaaGreat
open Go.RowKit Go.Shelf Go.Sort Go.Proofs

set_option maxRecDepth 100000 in
theorem R4Same_true (A : Option Addr) (n c : Nat) (A' : Option Addr) (c' : Nat) (xs : List Int) (w : World) (h : SL iC 1 w w.heap.size A n xs) (h' : SL iC 1 w w.heap.size A' n xs) (hn : n ≤ 100000) :
    Calls Tryz.prog 26 #[.slice A n c, .slice A' n c'] w fun e w' => e = .returned (.bool true) ∧ Below w.heap.size w w' := by
  have H := Lib.hid h
  have H' := Lib.hid h'
  have HL := Lib.hid h.1
  clear h h'
  go_enter Tryz.func26, Tryz.ntmps26
  go_wp2_with fail
  go_loopw [5] (fun i wr => ∃ k : Nat, k ≤ n ∧ i = .int .i64 k ∧ Below w.heap.size w wr)
    (fun i _ => n - (intOf i).toNat)
  case atStart => exact ⟨0, Nat.zero_le _, rfl, Below.refl _ _⟩
  case round =>
    obtain ⟨k, hk, rfl, hbr⟩ := hrel
    by_cases hlt : k < n
    · have hkl : k < xs.length := by rw [← HL.out]; exact hlt
      obtain ⟨b, off, hA, hbB, c0⟩ := IS.at_ (H.out.grow hbr hbr.size) (k := k) hkl
      obtain ⟨b', off', hA', hbB', d0⟩ := IS.at_ (H'.out.grow hbr hbr.size) (k := k) hkl
      generalize xs[k]'hkl = x at c0 d0
      have hi1 : (0 : Int) ≤ (k : Int) := by omega
      have hi2 : (k : Int) < (n : Int) := by omega
      clear hkl
      subst hA
      subst hA'
      go_wp2_with fail
      go_quiet (fail)
      go_wp2_with fail
      go_roundw
      case rel => exact ⟨k + 1, by omega, by go_num, below_drewN hbr _⟩
      case measure => simp [intOf]; omega
    · obtain rfl : k = n := by omega
      go_wp2_with fail
      go_ret
      exact ⟨rfl, hbr⟩
end Go.Proofs.YtafclpmnpamipaaGreat
