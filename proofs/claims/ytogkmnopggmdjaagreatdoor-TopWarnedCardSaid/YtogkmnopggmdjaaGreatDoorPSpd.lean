/- Speeds: the table as three slices' worth of values, whether it is as defined, how long a meter of a piece takes, and the sums up to each place. No program in sight. -/
import Derived.Test.YtogkmnopggmdjaaGreatDoorPOrdM
import Derived.Test.YtogkmnopggmdjaaGreatDoorPCorn
import Derived.Test.YtogkmnopggmdjaaGreatDoorPValid
import Derived.Test.YtogkmnopggmdjaaGreatDoorPReg7
import Derived.Test.YtogkmnopggmdjaaGreatDoorPReg
namespace Go.Proofs.YtogkmnopggmdjaaGreatDoor
open Go.RowKit Go.Shelf Go.Sort Go.Proofs

structure SpRow where
  rad : Int
  least : Int
  most : Int
structure Spd where
  least : Int
  most : Int
  rows : List SpRow
  surf : List Int
def spC (r : SpRow) : List Value := [.int .i64 r.rad, .int .i64 r.least, .int .i64 r.most]
/-- Two slices that read as the table S, below block B. -/
structure SD (w : World) (B : Nat) (ra : Option Addr) (rn : Nat) (sa : Option Addr) (sn : Nat) (S : Spd) : Prop where
  r : SL spC 3 w B ra rn S.rows
  s : SL iC 1 w B sa sn S.surf
theorem SD.grow {w w' : World} {B B' : Nat} {ra : Option Addr} {rn : Nat} {sa : Option Addr} {sn : Nat} {S : Spd} (h : SD w B ra rn sa sn S) (hb : Below B w w') (hB : B ≤ B') :
    SD w' B' ra rn sa sn S := ⟨h.r.grow hb hB, h.s.grow hb hB⟩
theorem SR.at_ {w : World} {B n : Nat} {A : Option Addr} {xs : List SpRow} (h : SL spC 3 w B A n xs) {k : Nat} (hk : k < xs.length) : ∃ b off, A = some ⟨b, off, none⟩ ∧ b < B ∧
    w.cell? ⟨b, off + k * 3, none⟩ = some (.int .i64 xs[k].rad) ∧ w.cell? ⟨b, off + k * 3 + 1, none⟩ = some (.int .i64 xs[k].least) ∧ w.cell? ⟨b, off + k * 3 + 2, none⟩ = some (.int .i64 xs[k].most) := by
  obtain ⟨b, off, e, hb, hc⟩ := h.at_ hk
  exact ⟨b, off, e, hb, hc 0 _ rfl, hc 1 _ rfl, hc 2 _ rfl⟩
def bdB (l h : Int) : Bool := decide (1 ≤ l) && (decide (l ≤ h) && decide (h ≤ 700))
/-- The row at i is as defined (and above the one before it). -/
def rAt (rs : List SpRow) (i : Nat) : Prop := ∀ r, rs[i]? = some r → bdB r.least r.most = true ∧ r.rad ≤ 2000 ∧ ∀ q, 0 < i → rs[i-1]? = some q → q.rad < r.rad
def rAtB (rs : List SpRow) (i : Nat) : Bool := (rs[i]?).all fun r => bdB r.least r.most && (decide (r.rad ≤ 2000) && (i == 0 || (rs[i-1]?).all fun q => decide (q.rad < r.rad)))
theorem rAtB_iff (rs : List SpRow) (i : Nat) : rAtB rs i = true ↔ rAt rs i := by
  unfold rAtB rAt
  simp only [Option.all_eq_true, Bool.and_eq_true, Bool.or_eq_true, decide_eq_true_eq, beq_iff_eq]
  constructor
  · intro h c hc
    obtain ⟨a, b, d⟩ := h c hc
    exact ⟨a, b, fun e hi he => (d.resolve_left (by omega)) e he⟩
  · intro h c hc
    obtain ⟨a, b, d⟩ := h c hc
    exact ⟨a, b, (Nat.eq_zero_or_pos i).imp id fun hi e he => d e hi he⟩
/-- Speeds that are as defined. -/
structure SOK (S : Spd) : Prop where
  b : bdB S.least S.most = true
  r1 : 1 ≤ S.rows.length
  r2 : S.rows.length ≤ 30
  s9 : S.surf.length = 9
  r0 : ∀ r, S.rows[0]? = some r → r.rad = 5
  rk : ∀ i, i < S.rows.length → rAt S.rows i
  sk : ∀ p ∈ S.surf, inR p 1 100 = true
def spB (S : Spd) : Bool := bdB S.least S.most && (decide (1 ≤ S.rows.length) && (decide (S.rows.length ≤ 30) && (decide (S.surf.length = 9) && (((S.rows[0]?).all fun r => decide (r.rad = 5)) &&
  ((List.range S.rows.length).all (rAtB S.rows) && S.surf.all fun p => inR p 1 100)))))
theorem spB_iff (S : Spd) : spB S = true ↔ SOK S := by
  unfold spB
  simp only [Bool.and_eq_true, decide_eq_true_eq, List.all_eq_true, List.mem_range, rAtB_iff, Option.all_eq_true]
  constructor
  · rintro ⟨a, b, c, d, e, f, g⟩; exact ⟨a, b, c, d, e, f, g⟩
  · rintro ⟨a, b, c, d, e, f, g⟩; exact ⟨a, b, c, d, e, f, g⟩
theorem spB_ok {S : Spd} (h : SOK S) : spB S = true := (spB_iff S).2 h
theorem spB_bad {S : Spd} (h : ¬ SOK S) : spB S = false := by rw [Bool.eq_false_iff]; exact fun q => h ((spB_iff S).1 q)
def spE (S : Spd) : Int := if spB S = true then 0 else 2
theorem spE_ok {S : Spd} (h : SOK S) : spE S = 0 := by unfold spE; rw [if_pos (spB_ok h)]
theorem spE_bad {S : Spd} (h : ¬ SOK S) : spE S = 2 := by unfold spE; rw [if_neg (by rw [spB_bad h]; simp)]
/-- The last row whose radius is not above r. -/
def rowF (rs : List SpRow) (r : Int) : Option SpRow := rs.foldl (fun o x => if x.rad ≤ r then some x else o) none
/-- The bounds of speed for a piece, without its surface. -/
def rowS (S : Spd) (p : Piece) : Int × Int :=
  if p.turn = 0 then (S.least, S.most) else match rowF S.rows p.rad with | some x => (x.least, x.most) | none => (S.least, S.most)
def surS (S : Spd) (p : Piece) : Int := S.surf.getD (p.sur - 1).toNat 0
/-- The least and the most time of a meter of a piece. -/
def mQ (S : Spd) (p : Piece) : Int := 10000000 / (((rowS S p).2 * surS S p + 99) / 100)
def mSl (S : Spd) (p : Piece) : Int := (10000000 + max 1 ((rowS S p).1 * surS S p / 100) - 1) / max 1 ((rowS S p).1 * surS S p / 100)
/-- The sums of the least (most) times of the first k meters. -/
def tQ (S : Spd) (ps : List Piece) (k : Nat) : Int := (((units ps).take k).map (mQ S)).sum
def tSl (S : Spd) (ps : List Piece) (k : Nat) : Int := (((units ps).take k).map (mSl S)).sum
theorem mQ_one (S : Spd) (p : Piece) : mQ S (one p) = mQ S p := rfl
theorem mSl_one (S : Spd) (p : Piece) : mSl S (one p) = mSl S p := rfl
theorem rowF_snoc (rs : List SpRow) (x : SpRow) (r : Int) : rowF (rs ++ [x]) r = if x.rad ≤ r then some x else rowF rs r := by simp [rowF]
theorem rowF_acc {r : Int} {x : SpRow} : ∀ (rs : List SpRow) (o : Option SpRow), rs.foldl (fun o y => if y.rad ≤ r then some y else o) o = some x → (x ∈ rs ∧ x.rad ≤ r) ∨ o = some x
  | [], _, h => .inr h
  | y :: rs, o, h => by
    rcases rowF_acc rs _ h with h | h
    · exact .inl ⟨List.mem_cons_of_mem _ h.1, h.2⟩
    · dsimp only at h
      by_cases hy : y.rad ≤ r
      · rw [if_pos hy] at h
        cases h
        exact .inl ⟨List.mem_cons_self .., hy⟩
      · rw [if_neg hy] at h
        exact .inr h
theorem rowF_mem {rs : List SpRow} {r : Int} {x : SpRow} (h : rowF rs r = some x) : x ∈ rs ∧ x.rad ≤ r := (rowF_acc rs none h).resolve_right (by simp)
theorem bdB_iff {l h : Int} : bdB l h = true ↔ 1 ≤ l ∧ l ≤ h ∧ h ≤ 700 := by simp [bdB]
theorem rowS_bd {S : Spd} (h : SOK S) (p : Piece) : 1 ≤ (rowS S p).1 ∧ (rowS S p).1 ≤ (rowS S p).2 ∧ (rowS S p).2 ≤ 700 := by
  have h0 := bdB_iff.1 h.b
  unfold rowS
  split
  · exact h0
  · cases hr : rowF S.rows p.rad with
    | none => exact h0
    | some x =>
      obtain ⟨hm, -⟩ := rowF_mem hr
      obtain ⟨i, hi, rfl⟩ := List.getElem_of_mem hm
      exact bdB_iff.1 (h.rk i hi _ (List.getElem?_eq_getElem hi)).1
theorem surS_bd {S : Spd} (h : SOK S) {p : Piece} (hp : pOk p = true) : 1 ≤ surS S p ∧ surS S p ≤ 100 := by
  simp only [pOk, inR, Bool.and_eq_true, decide_eq_true_eq] at hp
  have h9 := h.s9
  have hi : (p.sur - 1).toNat < S.surf.length := by omega
  have := h.sk _ (List.getElem_mem hi)
  simp only [inR, Bool.and_eq_true, decide_eq_true_eq] at this
  unfold surS
  rw [List.getD, List.getElem?_eq_getElem hi]
  exact this
theorem mQ_bd {S : Spd} (h : SOK S) {p : Piece} (hp : pOk p = true) : 0 ≤ mQ S p ∧ mQ S p ≤ 10000000 := by
  obtain ⟨a1, a2, a3⟩ := rowS_bd h p
  obtain ⟨b1, b2⟩ := surS_bd h hp
  unfold mQ
  generalize (rowS S p).2 = m at *
  generalize surS S p = s at *
  have h1 : 1 ≤ m * s := by have := Int.mul_le_mul (show 1 ≤ m by omega) b1 (by omega) (by omega); omega
  have h2 : 1 ≤ (m * s + 99) / 100 := by omega
  generalize (m * s + 99) / 100 = d at h2
  exact ⟨Int.ediv_nonneg (by omega) (by omega), Int.ediv_le_self _ (by omega)⟩
theorem mSl_bd {S : Spd} (h : SOK S) {p : Piece} (hp : pOk p = true) : 1 ≤ mSl S p ∧ mSl S p ≤ 10000700 := by
  obtain ⟨a1, a2, a3⟩ := rowS_bd h p
  obtain ⟨b1, b2⟩ := surS_bd h hp
  unfold mSl
  generalize (rowS S p).1 = m at *
  generalize surS S p = s at *
  have h1 : m * s ≤ 700 * 100 := Int.mul_le_mul (by omega) b2 (by omega) (by omega)
  have h2 : 1 ≤ max 1 (m * s / 100) := Int.le_max_left ..
  have h3 : max 1 (m * s / 100) ≤ 700 := by omega
  generalize max 1 (m * s / 100) = d at h2 h3
  have h4 : 1 ≤ (10000000 + d - 1) / d := by
    rw [Int.le_ediv_iff_mul_le (by omega)]; omega
  have h5 : (10000000 + d - 1) / d ≤ 10000000 + d - 1 := Int.ediv_le_self _ (by omega)
  exact ⟨h4, by omega⟩
theorem tQ_succ (S : Spd) (ps : List Piece) {k : Nat} {x : Piece} (h : (units ps)[k]? = some x) : tQ S ps (k + 1) = tQ S ps k + mQ S x := by
  unfold tQ; rw [List.take_add_one, h]; simp
theorem tSl_succ (S : Spd) (ps : List Piece) {k : Nat} {x : Piece} (h : (units ps)[k]? = some x) : tSl S ps (k + 1) = tSl S ps k + mSl S x := by
  unfold tSl; rw [List.take_add_one, h]; simp
theorem sum_bd {l : List Piece} {f : Piece → Int} {lo hi : Int} (h : ∀ p ∈ l, lo ≤ f p ∧ f p ≤ hi) : lo * l.length ≤ (l.map f).sum ∧ (l.map f).sum ≤ hi * l.length := by
  induction l with
  | nil => simp
  | cons x l ih =>
    have h1 := h x (List.mem_cons_self ..)
    have h2 := ih (fun p hp => h p (List.mem_cons_of_mem _ hp))
    simp only [List.map_cons, List.sum_cons, List.length_cons, Int.natCast_add, Int.mul_add]
    omega
end Go.Proofs.YtogkmnopggmdjaaGreatDoor

/- On the safer road of two surveys no meter takes less time, if bends, small radii and bad surfaces never make a car faster. No program in sight. -/
namespace Go.Proofs.YtogkmnopggmdjaaGreatDoor
open Go.RowKit Go.Shelf Go.Sort Go.Proofs

theorem pOk_rad5 {p : Piece} (h : pOk p = true) (ht : p.turn ≠ 0) : 5 ≤ p.rad := by
  simp only [pOk, Bool.and_eq_true, if_neg ht, inR, decide_eq_true_eq] at h
  exact h.2.2.2.2.1
end Go.Proofs.YtogkmnopggmdjaaGreatDoor

/- The document's tests of layer 3: in, Speeds, Length. -/
namespace Go.Proofs.YtogkmnopggmdjaaGreatDoor
open Go.RowKit Go.Shelf Go.Sort Go.Proofs

theorem in3_any (x lo hi : Int) (w : World) :
    Calls Tryz.prog 27 #[.int .i64 x, .int .i64 lo, .int .i64 hi] w fun e w' => e = .returned (.bool (inR x lo hi)) ∧ w = w' := by
  by_cases h : lo ≤ x
  · have e : inR x lo hi = decide (x ≤ hi) := by simp [inR, h]
    rw [e]; clear e
    go_enter Tryz.func27, Tryz.ntmps27
    go_wp2
    go_ret
    exact ⟨rfl, rfl⟩
  · have e : inR x lo hi = false := by simp [inR, h]
    rw [e]; clear e
    go_enter Tryz.func27, Tryz.ntmps27
    go_wp2
    go_ret
    exact ⟨rfl, rfl⟩
set_option maxRecDepth 100000 in
set_option maxHeartbeats 8000000 in
theorem RSpeeds_any (ra : Option Addr) (rn rc : Nat) (sa : Option Addr) (sn sc : Nat) (S : Spd) (w : World) (h : SD w w.heap.size ra rn sa sn S) :
    Calls Tryz.prog 49 #[.agg #[.int .i64 S.least, .int .i64 S.most, .slice ra rn rc, .slice sa sn sc]] w fun e w' => e = .returned (.bool (spB S)) ∧ Below w.heap.size w w' := by
  have HR := Lib.hid h.r
  have HS := Lib.hid h.s
  have HLR := Lib.hid h.r.1
  have HLS := Lib.hid h.s.1
  clear h
  have hW0 : Below w.heap.size w (w.alloc (.cells #[.int .i64 S.least, .int .i64 S.most, .slice ra rn rc, .slice sa sn sc] 60)) := (Below.refl w.heap.size w).alloc (Nat.le_refl _) _
  by_cases h1 : 1 ≤ S.least
  case neg =>
    have hc := Lib.hid (spB_bad (fun q : SOK S => h1 (bdB_iff.1 q.b).1))
    have gh1 : decide (S.least < 1) = true := by simp; omega
    clear h1
    go_enter Tryz.func49, Tryz.ntmps49
    go_wp2_with fail
    go_ret
    exact ⟨ret_bool hc.out.symm, hW0⟩
  have gh1 : decide (S.least < 1) = false := by simp; omega
  by_cases h2 : S.least ≤ S.most
  case neg =>
    have hc := Lib.hid (spB_bad (fun q : SOK S => h2 (bdB_iff.1 q.b).2.1))
    have gh2 : decide (S.most < S.least) = true := by simp; omega
    clear h1 h2
    go_enter Tryz.func49, Tryz.ntmps49
    go_wp2_with fail
    go_ret
    exact ⟨ret_bool hc.out.symm, hW0⟩
  have gh2 : decide (S.most < S.least) = false := by simp; omega
  by_cases h3 : S.most ≤ 700
  case neg =>
    have hc := Lib.hid (spB_bad (fun q : SOK S => h3 (bdB_iff.1 q.b).2.2))
    have gh3 : decide (700 < S.most) = true := by simp; omega
    clear h1 h2 h3
    go_enter Tryz.func49, Tryz.ntmps49
    go_wp2_with fail
    go_ret
    exact ⟨ret_bool hc.out.symm, hW0⟩
  have gh3 : decide (700 < S.most) = false := by simp; omega
  have hbd : bdB S.least S.most = true := bdB_iff.2 ⟨h1, h2, h3⟩
  have HB := Lib.hid hbd
  clear h1 h2 h3 hbd
  by_cases h4 : 1 ≤ rn ∧ rn ≤ 30
  case neg =>
    have hc := Lib.hid (spB_bad (fun q : SOK S => h4 ⟨by rw [HLR.out]; exact q.r1, by rw [HLR.out]; exact q.r2⟩))
    have HN : Hid (inR (rn : Int) 1 30 = false) := by show _ = _; rw [Bool.eq_false_iff]; simp [inR]; omega
    clear h4
    go_enter Tryz.func49, Tryz.ntmps49
    go_wp2_with (go_at_call 27; refine (in3_any _ _ _ _).mono ?_; rintro e w' ⟨rfl, rfl⟩; rw [HN.out])
    go_ret
    exact ⟨ret_bool hc.out.symm, hW0⟩
  obtain ⟨h4, h5⟩ := h4
  have HN : Hid (inR (rn : Int) 1 30 = true) := by show _ = _; simp [inR]; omega
  by_cases h6 : sn = 9
  case neg =>
    have hc := Lib.hid (spB_bad (fun q : SOK S => h6 (by rw [HLS.out]; exact q.s9)))
    have g6 : ((sn : Int) != 9) = true := by simp; omega
    clear h6
    go_enter Tryz.func49, Tryz.ntmps49
    go_wp2_with (go_at_call 27; refine (in3_any _ _ _ _).mono ?_; rintro e w' ⟨rfl, rfl⟩; rw [HN.out])
    go_ret
    exact ⟨ret_bool hc.out.symm, hW0⟩
  have HS9 := Lib.hid h6
  have g6 : ((sn : Int) != 9) = false := by simp; omega
  clear h6
  have h0l : 0 < S.rows.length := by rw [← HLR.out]; omega
  obtain ⟨b, off, hA, hbB, c0, -, -⟩ := SR.at_ HR.out (k := 0) h0l
  have hr0 := Lib.hid (List.getElem?_eq_getElem h0l)
  generalize S.rows[0]'h0l = r0 at c0 hr0
  have hz : off + 0 * 3 = off := by omega
  rw [hz] at c0
  clear hz h0l
  have hi2 : (0 : Int) < (rn : Int) := by omega
  by_cases h7 : r0.rad = 5
  case neg =>
    have hc := Lib.hid (spB_bad (fun q : SOK S => h7 (q.r0 _ hr0.out)))
    have g7 : (r0.rad != 5) = true := by simpa using h7
    subst hA
    clear h7
    go_enter Tryz.func49, Tryz.ntmps49
    go_wp2_with (go_at_call 27; refine (in3_any _ _ _ _).mono ?_; rintro e w' ⟨rfl, rfl⟩; rw [HN.out])
    go_ret
    exact ⟨ret_bool hc.out.symm, hW0⟩
  have HR5 : Hid (∀ r, S.rows[0]? = some r → r.rad = 5) := fun r hr => by rw [hr0.out] at hr; cases hr; exact h7
  have g7 : (r0.rad != 5) = false := by simpa using h7
  clear h7 hr0
  subst hA
  go_enter Tryz.func49, Tryz.ntmps49
  go_wp2_with (go_at_call 27; refine (in3_any _ _ _ _).mono ?_; rintro e w' ⟨rfl, rfl⟩; rw [HN.out])
  clear c0 g6 g7 hi2 gh1 gh2 gh3
  obtain ⟨w0, hw0⟩ : ∃ w0, w0 = w.alloc (.cells #[.int .i64 S.least, .int .i64 S.most, .slice (some ⟨b, off, none⟩) rn rc, .slice sa sn sc] 60) := ⟨_, rfl⟩
  have hX0 : BK w0 w.heap.size 60 #[.int .i64 S.least, .int .i64 S.most, .slice (some ⟨b, off, none⟩) rn rc, .slice sa sn sc] := by rw [hw0]; exact BK.new w _ _
  have HX0 := Lib.hid hX0
  rw [← hw0] at hW0 ⊢
  clear hw0 hX0
  have hz0 := hW0.size
  go_loopw [3] (fun i wr => ∃ k : Nat, k ≤ rn ∧ i = .int .i64 k ∧ Below w0.heap.size w0 wr ∧ Hid (∀ i, i < k → rAt S.rows i))
    (fun i _ => rn - (intOf i).toNat)
  case atStart => exact ⟨0, Nat.zero_le _, rfl, Below.refl _ _, by simp [Hid]⟩
  case round =>
    obtain ⟨m, hm, rfl, hbr, hall⟩ := hrel
    have hBr := hW0.trans (hbr.mono hz0)
    have hXr := HX0.out.below hbr HX0.out.lt
    have hzr := hbr.size
    have hlx := hXr.lt
    have x0 := hXr.cell 0
    have x1 := hXr.cell 1
    have x2 := hXr.cell 2
    have x3 := hXr.cell 3
    simp only [List.getElem?_toArray, List.getElem?_cons_zero, List.getElem?_cons_succ] at x0 x1 x2 x3
    by_cases hlt : m < rn
    case pos =>
      have hkl : m < S.rows.length := by rw [← HLR.out]; exact hlt
      have hw := HR.out.grow hBr hBr.size
      obtain ⟨b', off', hA, hbB', c0, c1, c2⟩ := SR.at_ hw (k := m) hkl
      cases hA
      have hstep : Hid (∀ (hh : bdB S.rows[m].least S.rows[m].most = true ∧ S.rows[m].rad ≤ 2000 ∧ ∀ d, 0 < m → S.rows[m-1]? = some d → d.rad < S.rows[m].rad), ∀ i, i < m + 1 → rAt S.rows i) := by
        intro hh i hi
        rcases Nat.lt_or_ge i m with h | h
        · exact hall.out i h
        · obtain rfl : i = m := by omega
          intro c hc
          rw [List.getElem?_eq_getElem hkl] at hc
          cases hc
          exact hh
      have hno : Hid (∀ (hh : ¬ (bdB S.rows[m].least S.rows[m].most = true ∧ S.rows[m].rad ≤ 2000 ∧ ∀ d, 0 < m → S.rows[m-1]? = some d → d.rad < S.rows[m].rad)), spB S = false) := by
        intro hh
        exact spB_bad (fun q => hh (q.rk m hkl _ (List.getElem?_eq_getElem hkl)))
      have hprev : 0 < m → ∃ d, Hid (S.rows[m-1]? = some d) ∧ wr.cell? ⟨b, off + (m-1) * 3, none⟩ = some (.int .i64 d.rad) := by
        intro h0
        obtain ⟨b2, off2, hA2, _, c02, _⟩ := SR.at_ hw (k := m - 1) (by omega)
        cases hA2
        exact ⟨S.rows[m-1], List.getElem?_eq_getElem (by omega), c02⟩
      generalize S.rows[m]'hkl = c at c0 c1 c2 hstep hno
      clear hw hkl hall
      have hm1 : (0 : Int) ≤ (m : Int) := by omega
      have hm2 : (m : Int) < (rn : Int) := by omega
      by_cases k1 : 1 ≤ c.least
      case neg =>
        have hc := Lib.hid (hno.out (by rintro ⟨h, -⟩; exact k1 (bdB_iff.1 h).1))
        have gk1 : decide (c.least < 1) = true := by simp; omega
        clear hno hstep hprev
        go_wp2_with fail
        go_quiet (fail)
        go_wp2_with fail
        go_ret
        exact ⟨ret_bool hc.out.symm, hBr.trans ((below_drewN ((Below.refl _ _).alloc (Nat.le_refl _) _) _).mono hBr.size)⟩
      have gk1 : decide (c.least < 1) = false := by simp; omega
      by_cases k2 : c.least ≤ c.most
      case neg =>
        have hc := Lib.hid (hno.out (by rintro ⟨h, -⟩; exact k2 (bdB_iff.1 h).2.1))
        have gk2 : decide (c.most < c.least) = true := by simp; omega
        clear hno hstep hprev
        go_wp2_with fail
        go_quiet (fail)
        go_wp2_with fail
        go_ret
        exact ⟨ret_bool hc.out.symm, hBr.trans ((below_drewN ((Below.refl _ _).alloc (Nat.le_refl _) _) _).mono hBr.size)⟩
      have gk2 : decide (c.most < c.least) = false := by simp; omega
      by_cases k3 : c.most ≤ 700
      case neg =>
        have hc := Lib.hid (hno.out (by rintro ⟨h, -⟩; exact k3 (bdB_iff.1 h).2.2))
        have gk3 : decide (700 < c.most) = true := by simp; omega
        clear hno hstep hprev
        go_wp2_with fail
        go_quiet (fail)
        go_wp2_with fail
        go_ret
        exact ⟨ret_bool hc.out.symm, hBr.trans ((below_drewN ((Below.refl _ _).alloc (Nat.le_refl _) _) _).mono hBr.size)⟩
      have gk3 : decide (700 < c.most) = false := by simp; omega
      by_cases k4 : c.rad ≤ 2000
      case neg =>
        have hc := Lib.hid (hno.out (by rintro ⟨-, h, -⟩; exact k4 h))
        have gk4 : decide (2000 < c.rad) = true := by simp; omega
        clear hno hstep hprev
        go_wp2_with fail
        go_quiet (fail)
        go_wp2_with fail
        go_ret
        exact ⟨ret_bool hc.out.symm, hBr.trans ((below_drewN ((Below.refl _ _).alloc (Nat.le_refl _) _) _).mono hBr.size)⟩
      have gk4 : decide (2000 < c.rad) = false := by simp; omega
      have e1 : bdB c.least c.most = true := bdB_iff.2 ⟨k1, k2, k3⟩
      by_cases hm0 : 0 < m
      case pos =>
        obtain ⟨d, hd, cd⟩ := hprev hm0
        have hg : decide ((0 : Int) < (m : Int)) = true := by simp; omega
        by_cases hlt2 : d.rad < c.rad
        case pos =>
          have hs' := Lib.hid (hstep.out ⟨e1, k4, fun d' _ h' => by rw [hd.out] at h'; cases h'; exact hlt2⟩)
          have g3 : decide (c.rad ≤ d.rad) = false := by simp; omega
          clear hlt2 k1 k2 k3 k4 e1
          clear hno hstep hprev
          go_wp2_with fail
          go_quiet (fail)
          go_wp2_with fail
          go_roundw
          case rel => exact ⟨m + 1, by omega, by go_num, hbr.trans ((below_drewN ((Below.refl _ _).alloc (Nat.le_refl _) _) _).mono hzr), hs'⟩
          case measure => simp [intOf]; omega
        have hc := Lib.hid (hno.out (by rintro ⟨_, _, h⟩; exact hlt2 (h d hm0 hd.out)))
        have g3 : decide (c.rad ≤ d.rad) = true := by simp; omega
        clear hlt2 k1 k2 k3 k4 e1
        clear hno hstep hprev
        go_wp2_with fail
        go_quiet (fail)
        go_wp2_with fail
        go_ret
        exact ⟨ret_bool hc.out.symm, hBr.trans ((below_drewN ((Below.refl _ _).alloc (Nat.le_refl _) _) _).mono hBr.size)⟩
      have hg : decide ((0 : Int) < (m : Int)) = false := by simp; omega
      have hs' := Lib.hid (hstep.out ⟨e1, k4, fun d' h' => absurd h' hm0⟩)
      clear k1 k2 k3 k4 e1
      clear hno hstep hprev
      go_wp2_with fail
      go_quiet (fail)
      go_wp2_with fail
      go_roundw
      case rel => exact ⟨m + 1, by omega, by go_num, hbr.trans ((below_drewN ((Below.refl _ _).alloc (Nat.le_refl _) _) _).mono hzr), hs'⟩
      case measure => simp [intOf]; omega
    obtain rfl : m = rn := by omega
    go_wp2_with fail
    clear x0 x1 x2 x3
    have hall' := Lib.hid (show SOK S → True from fun _ => trivial)
    clear hall'
    obtain ⟨w1, hw1⟩ : ∃ w1, w1 = wr := ⟨_, rfl⟩
    rw [← hw1] at hBr hXr ⊢
    clear hw1 hbr hzr hlx
    have HX1 := Lib.hid hXr
    clear hXr
    have hz1 := hBr.size
    go_loopw [5] (fun i wr => ∃ k : Nat, k ≤ 9 ∧ i = .int .i64 k ∧ Below w1.heap.size w1 wr ∧ Hid (∀ x ∈ S.surf.take k, inR x 1 100 = true))
      (fun i _ => 9 - (intOf i).toNat)
    case atStart => exact ⟨0, Nat.zero_le _, rfl, Below.refl _ _, by simp [Hid]⟩
    case round =>
      obtain ⟨k, hk, rfl, hb2, hall2⟩ := hrel
      have hB2 := hBr.trans (hb2.mono hz1)
      have hX2 := HX1.out.below hb2 HX1.out.lt
      have x0 := hX2.cell 0
      have x1 := hX2.cell 1
      have x2 := hX2.cell 2
      have x3 := hX2.cell 3
      simp only [List.getElem?_toArray, List.getElem?_cons_zero, List.getElem?_cons_succ] at x0 x1 x2 x3
      by_cases hlt9 : k < 9
      case pos =>
        have hkl : k < S.surf.length := by rw [← HLS.out, HS9.out]; exact hlt9
        obtain ⟨b', off', hA, hbB', c0⟩ := IS.at_ (HS.out.grow hB2 hB2.size) (k := k) hkl
        have htm := Lib.hid (fun x => take_mem (P := fun p => inR p 1 100 = true) hkl hall2.out x)
        have hmem := Lib.hid (List.getElem_mem hkl)
        generalize S.surf[k]'hkl = p at c0 htm hmem
        have hk1 : (0 : Int) ≤ (k : Int) := by omega
        have hk2 : (k : Int) < (sn : Int) := by rw [HS9.out]; omega
        clear hkl
        subst hA
        cases hp : inR p 1 100
        case false =>
          have HN2 := Lib.hid hp
          have hc := Lib.hid (spB_bad (fun q : SOK S => by have := q.sk p hmem.out; rw [HN2.out] at this; cases this))
          clear hp
          go_wp2_with (go_at_call 27; refine (in3_any _ _ _ _).mono ?_; rintro e w' ⟨rfl, rfl⟩; rw [HN2.out])
          go_ret
          exact ⟨ret_bool hc.out.symm, hB2⟩
        have HN2 := Lib.hid hp
        clear hp
        go_wp2_with (go_at_call 27; refine (in3_any _ _ _ _).mono ?_; rintro e w' ⟨rfl, rfl⟩; rw [HN2.out])
        go_roundw
        case rel => exact ⟨k + 1, by omega, by go_num, hb2, htm.out HN2.out⟩
        case measure => simp [intOf]; omega
      obtain rfl : k = 9 := by omega
      have hc : Hid (spB S = true) := spB_ok ⟨HB.out, by rw [← HLR.out]; exact h4, by rw [← HLR.out]; exact h5, by rw [← HLS.out]; exact HS9.out, HR5.out, fun i hi => hall.out i (by rw [HLR.out]; exact hi), by
        have := hall2.out
        rw [List.take_of_length_le (by rw [← HLS.out, HS9.out]; exact Nat.le_refl _)] at this
        exact this⟩
      go_wp2_with fail
      go_ret
      exact ⟨ret_bool hc.out.symm, hB2⟩
end Go.Proofs.YtogkmnopggmdjaaGreatDoor

/- The document's times: plain numbers: the row by counting up, the meter at a place, few. No program in sight. -/
namespace Go.Proofs.YtogkmnopggmdjaaGreatDoor
open Go.RowKit Go.Shelf Go.Sort Go.Proofs

/-- The lengths that count. -/
def fLen (ps : List Piece) : Int := (ps.map fun p => if 0 < p.len ∧ p.len ≤ 5000 then p.len else 0).sum
theorem fLen_snoc (ps : List Piece) (p : Piece) : fLen (ps ++ [p]) = fLen ps + if 0 < p.len ∧ p.len ≤ 5000 then p.len else 0 := by simp [fLen]
theorem fLen_bd : ∀ ps : List Piece, 0 ≤ fLen ps ∧ fLen ps ≤ 5000 * (ps.length : Int)
  | [] => by simp [fLen]
  | p :: ps => by
    have ih := fLen_bd ps
    have e : fLen (p :: ps) = (if 0 < p.len ∧ p.len ≤ 5000 then p.len else 0) + fLen ps := by simp [fLen]
    rw [e, List.length_cons]
    split <;> omega
/-- A short road, without too much. -/
def fewB (R : Road) : Bool := decide (fLen R.ps ≤ 120) && (decide (R.ps.length ≤ 60) && (decide (R.cs.length ≤ 40) && decide (R.js.length ≤ 40)))
end Go.Proofs.YtogkmnopggmdjaaGreatDoor
