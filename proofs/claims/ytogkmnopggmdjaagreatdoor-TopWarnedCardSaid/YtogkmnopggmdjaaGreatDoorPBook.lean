/- Books: note.Check of a book as defined, note.grade, note.Grade. -/
import Derived.Test.YtogkmnopggmdjaaGreatDoorPOrdM
import Derived.Test.YtogkmnopggmdjaaGreatDoorPShelf
import Derived.Test.YtogkmnopggmdjaaGreatDoorPCorn
import Derived.Test.YtogkmnopggmdjaaGreatDoorPValid
import Derived.Test.YtogkmnopggmdjaaGreatDoorPReg7
import Derived.Test.YtogkmnopggmdjaaGreatDoorPReg
import Derived.ChangeSlices
import Derived.Test.YtogkmnopggmdjaaGreatDoorTie
import Derived.Test.YtogkmnopggmdjaaGreatDoorCards
import Derived.WalkKit
import Derived.ProofKit
import Derived.Handy
import Derived.Lay
import Derived.SevenTiedAt
import Derived.OpenShut
import Derived.Test.YtogkmnopggmdjaaGreatDoorPPlanS
namespace Go.Proofs.YtogkmnopggmdjaaGreatDoor
open Go.RowKit Go.Shelf Go.Sort Go.Proofs

/-- A book. -/
structure BkR where
  gs : List Int
  sh : Int
  lo : Int
  ra : Int
  an : Int
  io : Int
  st : Int
  ga : Int
  le : Int
def bkA (A : Option Addr) (c : Nat) (b : BkR) : Value := .agg #[.slice A b.gs.length c, .int .i64 b.sh, .int .i64 b.lo, .int .i64 b.ra, .int .i64 b.an, .int .i64 b.io, .int .i64 b.st, .int .i64 b.ga, .int .i64 b.le]
/-- A book as defined. -/
structure BkOK (b : BkR) : Prop where
  n8 : b.gs.length ≤ 8
  sh1 : 1 ≤ b.sh
  shl : b.sh < b.lo
  lo1 : b.lo ≤ 10000
  ra1 : 101 ≤ b.ra
  ra2 : b.ra ≤ 1000
  an1 : 0 ≤ b.an
  an2 : b.an ≤ b.io
  io2 : b.io ≤ 1000
  st1 : 1 ≤ b.st
  st2 : b.st ≤ 100
  ga1 : 0 ≤ b.ga
  ga2 : b.ga ≤ 1000
  le1 : 1 ≤ b.le
  le2 : b.le ≤ 10000
  rng : ∀ g ∈ b.gs, 6 ≤ g ∧ g ≤ 2000
  inc : b.gs.Pairwise (· < ·)
theorem bk9 {b : BkR} {w : World} {g n c : Nat} {A : Option Addr} (h : BK w g 31 #[.slice A n c, .int .i64 b.sh, .int .i64 b.lo, .int .i64 b.ra, .int .i64 b.an, .int .i64 b.io, .int .i64 b.st, .int .i64 b.ga, .int .i64 b.le]) :
    w.cell? ⟨g, 0, none⟩ = some (.slice A n c) ∧ w.cell? ⟨g, 1, none⟩ = some (.int .i64 b.sh) ∧ w.cell? ⟨g, 2, none⟩ = some (.int .i64 b.lo) ∧ w.cell? ⟨g, 3, none⟩ = some (.int .i64 b.ra) ∧ w.cell? ⟨g, 4, none⟩ = some (.int .i64 b.an) ∧ w.cell? ⟨g, 5, none⟩ = some (.int .i64 b.io) ∧ w.cell? ⟨g, 6, none⟩ = some (.int .i64 b.st) ∧ w.cell? ⟨g, 7, none⟩ = some (.int .i64 b.ga) ∧ w.cell? ⟨g, 8, none⟩ = some (.int .i64 b.le) := by
  have c0 := h.cell 0
  have c1 := h.cell 1
  have c2 := h.cell 2
  have c3 := h.cell 3
  have c4 := h.cell 4
  have c5 := h.cell 5
  have c6 := h.cell 6
  have c7 := h.cell 7
  have c8 := h.cell 8
  simp only [List.getElem?_toArray, List.getElem?_cons_zero, List.getElem?_cons_succ] at c0 c1 c2 c3 c4 c5 c6 c7 c8
  exact ⟨c0, c1, c2, c3, c4, c5, c6, c7, c8⟩
theorem nwithin_r (x lo hi : Int) (w : World) :
    Calls Tryz.prog 66 #[.int .i64 x, .int .i64 lo, .int .i64 hi] w fun e w' => e = .returned (.bool (inR x lo hi)) ∧ w = w' := (nwithin_any x lo hi w).mono fun e w' ⟨h, k⟩ => ⟨by rw [h]; rfl, k⟩
theorem BkOK.step {b : BkR} (h : BkOK b) {k : Nat} (hk : k + 1 < b.gs.length) : b.gs[k] < b.gs[k + 1] := List.pairwise_iff_getElem.1 h.inc k (k + 1) (by omega) hk (by omega)
set_option maxRecDepth 100000 in
set_option maxHeartbeats 4000000 in
theorem nCheck_ok (b : BkR) (hv : BkOK b) (A : Option Addr) (c : Nat) (w : World) (h : SL iC 1 w w.heap.size A b.gs.length b.gs) :
    Calls Tryz.prog 36 #[bkA A c b] w fun e w' => e = .returned (.int .i64 0) ∧ Below w.heap.size w w' := by
  obtain ⟨n, hn⟩ : ∃ n, n = b.gs.length := ⟨_, rfl⟩
  obtain ⟨w0, hw0⟩ : ∃ w0, w0 = w.alloc (.cells #[.slice A n c, .int .i64 b.sh, .int .i64 b.lo, .int .i64 b.ra, .int .i64 b.an, .int .i64 b.io, .int .i64 b.st, .int .i64 b.ga, .int .i64 b.le] 31) := ⟨_, rfl⟩
  have hX : BK w0 w.heap.size 31 #[.slice A n c, .int .i64 b.sh, .int .i64 b.lo, .int .i64 b.ra, .int .i64 b.an, .int .i64 b.io, .int .i64 b.st, .int .i64 b.ga, .int .i64 b.le] := by rw [hw0]; exact BK.new w _ _
  have hB0 : Below w.heap.size w w0 := by rw [hw0]; exact (Below.refl _ w).alloc (Nat.le_refl _) _
  have hS : SL iC 1 w0 w.heap.size A n b.gs := by rw [hn]; exact h.below hB0
  have hv1 := hv.shl
  have hv2 := hv.lo1
  have hv3 := hv.sh1
  have hw1 : IntKind.i64.wrap (b.lo - 1) = b.lo - 1 := IntWalk.i64_in _ (by omega)
  have i1 : inR b.sh 1 (b.lo - 1) = true := by simp [inR]; omega
  have i2 : inR b.ra 101 1000 = true := by have := hv.ra1; have := hv.ra2; simp [inR]; omega
  have i3 : inR b.an 0 b.io = true := by have := hv.an1; have := hv.an2; simp [inR]; omega
  have i4 : inR b.st 1 100 = true := by have := hv.st1; have := hv.st2; simp [inR]; omega
  have i5 : inR b.ga 0 1000 = true := by have := hv.ga1; have := hv.ga2; simp [inR]; omega
  have i6 : inR b.le 1 10000 = true := by have := hv.le1; have := hv.le2; simp [inR]; omega
  have hn8 : n ≤ 8 := by rw [hn]; exact hv.n8
  have hio := hv.io2
  have d1 : decide (8 < (n : Int)) = false := by simp; omega
  have d2 : decide (10000 < b.lo) = false := by simp; omega
  have d3 : decide (1000 < b.io) = false := by simp; omega
  have HV := Lib.hid hv
  have HN := Lib.hid hn
  obtain ⟨c0, c1, c2, c3, c4, c5, c6, c7, c8⟩ := bk9 hX
  unfold bkA
  rw [← hn]
  clear hv hn hv1 hv2 hv3 h
  go_enter Tryz.func36, Tryz.ntmps36
  go_wp2_with fail
  rw [← hw0]
  clear hw0
  go_wp2_with (go_at_call 66; refine (nwithin_r _ _ _ _).mono ?_; rintro e w' ⟨rfl, rfl⟩)
  clear i1 i2 i3 i4 i5 i6 d1 d2 d3 hw1 hio c1 c2 c3 c4 c5 c6 c7 c8
  go_loopw [65] (fun i wr => ∃ k : Nat, k ≤ n ∧ i = .int .i64 k ∧ wr = w0) (fun i _ => n - (intOf i).toNat)
  case atStart => exact ⟨0, Nat.zero_le _, rfl, rfl⟩
  case round =>
    obtain ⟨k, hk, rfl, hwr⟩ := hrel
    subst hwr
    by_cases hlt : k < n
    · have hkl : k < b.gs.length := by rw [← HN.out]; exact hlt
      obtain ⟨ab, off, hA, hbB, ck⟩ := IS.at_ hS hkl
      subst hA
      have hin : inR b.gs[k] 6 2000 = true := by have := HV.out.rng _ (List.getElem_mem hkl); simp [inR, this]
      have g1 : (0 : Int) ≤ (k : Int) := by omega
      have g2 : (k : Int) < (n : Int) := by omega
      rcases k with _ | k
      · rw [Nat.add_zero] at ck
        have hgt : decide ((0 : Int) < ((0 : Nat) : Int)) = false := by decide
        go_wp2_with (go_at_call 66; refine (nwithin_r _ _ _ _).mono ?_; rintro e w' ⟨rfl, rfl⟩)
        go_roundw
        case rel => exact ⟨1, by omega, by go_num, trivial⟩
        case measure => simp [intOf]; omega
      · have hst := HV.out.step (k := k) hkl
        obtain ⟨ab', off', hA', -, cp⟩ := IS.at_ hS (k := k) (by omega)
        injection hA' with hA'
        injection hA' with h1 h2
        subst h1
        subst h2
        have hle : decide (b.gs[k + 1] ≤ b.gs[k]) = false := by simp; omega
        have hgt : decide ((0 : Int) < ((k + 1 : Nat) : Int)) = true := by rw [decide_eq_true_eq]; omega
        have hw2 : IntKind.i64.wrap (((k + 1 : Nat) : Int) - 1) = (k : Int) := by rw [show ((k + 1 : Nat) : Int) - 1 = (k : Int) by omega]; exact IntWalk.i64_in _ (by omega)
        have g3 : (0 : Int) ≤ (k : Int) := by omega
        have g4 : (k : Int) < (n : Int) := by omega
        have HLE := Lib.hid hle
        clear hst
        go_wp2_with (go_at_call 66; refine (nwithin_r _ _ _ _).mono ?_; rintro e w' ⟨rfl, rfl⟩)
        go_roundw
        case rel => exact ⟨k + 2, by omega, by go_num, trivial⟩
        case measure => simp [intOf]; omega
    · obtain rfl : k = n := by omega
      go_wp2_with fail
      go_ret
      exact ⟨rfl, hB0⟩
/-- The grade of a radius. -/
def gradeI (b : BkR) (x : Int) : Int := (b.gs.countP (fun g => decide (g ≤ x)) : Nat) + 1
theorem count_le : ∀ (l : List Int) (x : Int), l.Pairwise (· < ·) → l.countP (fun g => decide (g ≤ x)) = l.countP (fun g => decide (g < x)) + (if l.contains x then 1 else 0)
  | [], x, _ => rfl
  | a :: l, x, h => by
    obtain ⟨h1, h2⟩ := List.pairwise_cons.1 h
    have ih := count_le l x h2
    rw [List.countP_cons, List.countP_cons, ih, List.contains_cons]
    by_cases e : x = a
    · subst e
      have h3 : l.contains x = false := by
        rw [Bool.eq_false_iff]
        intro hc
        have := h1 x (by simpa using hc)
        omega
      rw [h3]
      simp
    · have e2 : (x == a) = false := by simpa using e
      rw [e2, Bool.false_or]
      by_cases h4 : a < x
      · have h5 : a ≤ x := by omega
        simp [h4, h5]
        omega
      · have h5 : ¬ a ≤ x := by omega
        simp [h4, h5]
theorem w64_1 {k : Nat} (h : k ≤ 8) : IntKind.i64.wrap ((k : Int) + 1) = (k : Int) + 1 := IntWalk.i64_in _ (by omega)
theorem w64_2 {k : Nat} (h : k ≤ 8) : IntKind.i64.wrap ((k : Int) + 1 + 1) = (k : Int) + 1 + 1 := IntWalk.i64_in _ (by omega)
set_option maxRecDepth 100000 in
set_option maxHeartbeats 4000000 in
theorem ngrade_ok (b : BkR) (hv : BkOK b) (A : Option Addr) (c : Nat) (x : Int) (w : World) (h : SL iC 1 w w.heap.size A b.gs.length b.gs) :
    Calls Tryz.prog 67 #[bkA A c b, .int .i64 x] w fun e w' => e = .returned (.int .i64 (gradeI b x)) ∧ Below w.heap.size w w' := by
  obtain ⟨n, hn⟩ : ∃ n, n = b.gs.length := ⟨_, rfl⟩
  obtain ⟨w0, hw0⟩ : ∃ w0, w0 = w.alloc (.cells #[.slice A n c, .int .i64 b.sh, .int .i64 b.lo, .int .i64 b.ra, .int .i64 b.an, .int .i64 b.io, .int .i64 b.st, .int .i64 b.ga, .int .i64 b.le] 31) := ⟨_, rfl⟩
  have hX : BK w0 w.heap.size 31 #[.slice A n c, .int .i64 b.sh, .int .i64 b.lo, .int .i64 b.ra, .int .i64 b.an, .int .i64 b.io, .int .i64 b.st, .int .i64 b.ga, .int .i64 b.le] := by rw [hw0]; exact BK.new w _ _
  have hB0 : Below w.heap.size w w0 := by rw [hw0]; exact (Below.refl _ w).alloc (Nat.le_refl _) _
  have hS : SL iC 1 w0 w.heap.size A n b.gs := by rw [hn]; exact h.below hB0
  have hn8 : n ≤ 8 := by rw [hn]; exact hv.n8
  have hcl := count_le b.gs x hv.inc
  have hpw : b.gs.Pairwise (· ≤ ·) := hv.inc.imp (fun h => Int.le_of_lt h)
  have HC : Calls Tryz.prog 82 #[.slice A n c, .int .i64 x] w0 fun e w' => ∃ (k : Nat) (m : Bool), e = .returned (.tuple #[.int .i64 (k : Nat), .bool m]) ∧ b.gs.countP (fun g => decide (g ≤ x)) = k + (if m then 1 else 0) ∧ k ≤ 8 ∧ Below w0.heap.size w0 w' := by
    rcases Nat.eq_zero_or_pos n with h0 | h0
    · subst h0
      refine (sh_slices_BinarySearch_int_empty A c x w0).mono ?_
      rintro e w' ⟨rfl, rfl⟩
      refine ⟨0, false, rfl, ?_, by omega, Below.refl _ _⟩
      rw [List.length_eq_zero_iff.1 hn.symm]
      rfl
    · obtain ⟨ab, off, rfl, -, -⟩ := IS.at_ hS (k := 0) (by omega)
      have ht : b.gs.take n = b.gs := by rw [hn]; exact List.take_length
      refine (sh_slices_BinarySearch_int ab off n c b.gs x w0 (by omega) (by omega) (fun j hj => ?_) (by rw [ht]; exact hpw)).mono ?_
      · obtain ⟨ab', off', e, -, hc⟩ := IS.at_ hS hj
        injection e with e
        injection e with e1 e2
        subst e1
        subst e2
        rw [hc, List.getD_eq_getElem?_getD, List.getElem?_eq_getElem hj]
        rfl
      · rintro e w' ⟨rfl, q, rfl⟩
        rw [ht]
        exact ⟨_, _, rfl, hcl, Nat.le_trans List.countP_le_length (by omega), ⟨rfl, rfl, rfl, Nat.le_refl _, fun _ _ => rfl⟩⟩
  have HH := Lib.hid HC
  have c0 := hX.cell 0
  simp only [List.getElem?_toArray, List.getElem?_cons_zero] at c0
  unfold bkA gradeI
  rw [← hn]
  clear hv hn h hcl HC hpw
  go_enter Tryz.func67, Tryz.ntmps67
  go_wp2_with fail
  rw [← hw0]
  clear hw0
  go_wp2_with (go_at_call 82; refine HH.out.mono ?_; rintro e w' ⟨k, m, rfl, hk, hk8, hb⟩; have hw1 := w64_1 hk8; have hw2 := w64_2 hk8; cases m)
  · go_ret
    simp only [Bool.false_eq_true, if_false] at hk
    exact ⟨by rw [hk]; rfl, hB0.trans (hb.mono hB0.size)⟩
  · go_ret
    simp only [if_true] at hk
    exact ⟨by rw [hk]; rfl, hB0.trans (hb.mono hB0.size)⟩
end Go.Proofs.YtogkmnopggmdjaaGreatDoor

/- A book and a road that came in as arguments, opened (TopReversed's seat). -/
namespace Go.Proofs.YtogkmnopggmdjaaGreatDoor
open Go.ChangeShapes Go.WideShapes Go.ChangeAt Go.RowKit Go.Deep Go.Joins

section
variable {H : Type} {enc : TypeId × Value → H} {P : Program} {w : World} {base : Nat} {spare : Nat → Bool} {held : Bool}
/-- The cells of a struct of ints. -/
theorem trod_allI {t : TypeId} {fs : Array Field} {m fuel : Nat} {cs : List Value} {x : DataW H × List MemPlace} (hs : P.underlying t = some (.struct fs)) (hone : oneCellFields P fs = true) (hC : P.cellsOf t = m) (hm : fs.size = m)
    (hi : ∀ (j : Nat) (f : Field), fs[j]? = some f → P.underlying f.type = some (.int .i64)) (h : DataW.trod enc P w base spare held fuel t cs = some x) :
    ∃ F : Nat → Int, cs = (List.range m).map fun j => Value.int .i64 (F j) := by
  obtain ⟨xs, n, _, _, hsz, hlen, hf⟩ := DataW.trod_struct hs h
  have key : ∀ j, ∃ x : Int, j < m → cs[j]? = some (.int .i64 x) := fun j => by
    by_cases hj : j < m
    case neg => exact ⟨0, fun h => absurd h hj⟩
    have hjf : j < fs.size := by omega
    have e := Array.getElem?_eq_getElem hjf
    obtain ⟨o, k⟩ := hone_of hone j _ e
    have g := hf j _ e
    have hjc : j < cs.length := by omega
    rw [o, k] at g
    have hd : (cs.drop j).take 1 = [cs[j]] := by
      rw [List.drop_eq_getElem_cons hjc]
      rfl
    rw [hd] at g
    have hxj : j < xs.length := by omega
    rw [List.getElem?_eq_getElem hxj] at g
    obtain ⟨x, hx, _, _⟩ := DataW.trod_int (hi j _ e) g
    refine ⟨x, fun _ => ?_⟩
    rw [List.getElem?_eq_getElem hjc]
    simpa using hx
  obtain ⟨F, hF⟩ : ∃ F : Nat → Int, ∀ j, j < m → cs[j]? = some (.int .i64 (F j)) := ⟨fun j => (key j).choose, fun j => (key j).choose_spec⟩
  refine ⟨F, List.ext_getElem? fun j => ?_⟩
  rw [List.getElem?_map]
  by_cases hj : j < m
  · rw [List.getElem?_range hj, hF j hj]
    rfl
  · rw [List.getElem?_eq_none (by omega), List.getElem?_eq_none (by simp; omega)]
    rfl
end
section
variable {H : Type} {enc : TypeId × Value → H} {w : World} {base : Nat} {spare : Nat → Bool} {held : Bool} {r : Reach} {b0 : Nat}
theorem slice_cap {P : Program} {t e : TypeId} {fuel : Nat} {A : Option Addr} {n c : Nat} {x : DataW H × List MemPlace} (ht : P.underlying t = some (.slice e)) (h : DataW.trod enc P w base spare held fuel t [.slice A n c] = some x) : n ≤ c ∧ n ≤ 9223372036854775807 := by
  rcases open_slice ht h with ⟨h0, _⟩ | ⟨a, len, cap, m, k, D, Pl, hcs, hb, hl, hm, _⟩
  · simp at h0
    omega
  · simp at hcs
    unfold maxLen at hm
    omega
/-- A slice of ints that stands in one cell. -/
theorem open_is2 {c : Value} {fuel : Nat} {x : DataW H × List MemPlace} (hf : DataW.trod enc Tryz.prog w base spare held fuel 27 [c] = some x) :
    ∃ A n cp xs, c = .slice A n cp ∧ SL iC 1 w w.heap.size A n xs := by
  rcases open_ints Tryz.underlying27 Tryz.underlying3 (by kernel_rfl) hf with ⟨h0, _⟩ | ⟨a, len, cap, zs, h0, _, hlc, _, hz, _, hcell, _⟩
  · simp at h0
    exact ⟨none, 0, 0, [], h0, rfl, fun q => absurd q (by omega)⟩
  · simp at h0
    have hlz : len ≤ zs.length := by rw [hz]; split <;> omega
    refine ⟨some a, len, cap, zs.take len, h0, by rw [List.length_take]; omega, fun hn => ?_⟩
    have hc0 := hcell 0 (by omega)
    have hbl := block_lt_of_cell hc0
    have hsp := World.cell?_spot hc0
    obtain ⟨b, off, sp⟩ := a
    have hsp' : sp = none := by simpa [Addr.add] using hsp
    subst hsp'
    refine ⟨b, off, rfl, by simpa [Addr.add] using hbl, fun k x hx j v hv => ?_⟩
    have hk : k < len := by have := (List.getElem?_eq_some_iff.1 hx).1; rw [List.length_take] at this; omega
    rw [List.getElem?_take, if_pos hk] at hx
    have h1 := hcell k (by omega)
    have e0 : ((⟨b, off, none⟩ : Addr).add k) = ⟨b, off + k, none⟩ := by unfold Addr.add; split <;> simp_all
    rw [e0, List.getD, hx] at h1
    match j, hv with
    | 0, hv => cases hv; simpa using h1
    | j + 1, hv => cases hv
set_option maxRecDepth 100000 in
theorem open_book {v : Value} {d : DataW H} {p : List MemPlace} (hv : Value.okWide Tryz.prog w r b0 31 v) (h : DataW.Trod enc Tryz.prog w base spare held 31 v d p) :
    ∃ A c b, v = bkA A c b ∧ SL iC 1 w w.heap.size A b.gs.length b.gs ∧ b.gs.length ≤ 9223372036854775807 := by
  obtain ⟨cs, rfl, hsz⟩ := okWide_struct Tryz.underlying31 hv
  obtain ⟨fuel, hf⟩ := h
  obtain ⟨xs, n, _, _, hl, hlen, hf⟩ := DataW.trod_struct Tryz.underlying31 hf
  have c1 : Tryz.prog.cellsOf 3 = 1 := by kernel_rfl
  have c2 : Tryz.prog.cellsOf 27 = 1 := by kernel_rfl
  have c3 : Tryz.prog.cellsOf 29 = 2 := by kernel_rfl
  have hl8 : xs.length = 8 := hlen
  have h9 : cs.size = 9 := hsz.trans (by kernel_rfl)
  obtain ⟨l⟩ := cs
  match l, h9 with
  | [v0, v1, v2, v3, v4, v5, v6, v7, v8], _ =>
  have g0 : DataW.trod enc Tryz.prog w base spare held n 27 [v0] = some (xs[0]'(by omega)) := by
    have := hf 0 _ rfl
    rw [List.getElem?_eq_getElem (by omega)] at this
    simpa [c2, Value.cells] using this
  have g1 : DataW.trod enc Tryz.prog w base spare held n 3 [v1] = some (xs[1]'(by omega)) := by
    have := hf 1 _ rfl
    rw [List.getElem?_eq_getElem (by omega)] at this
    simpa [c1, Value.cells] using this
  have g2 : DataW.trod enc Tryz.prog w base spare held n 3 [v2] = some (xs[2]'(by omega)) := by
    have := hf 2 _ rfl
    rw [List.getElem?_eq_getElem (by omega)] at this
    simpa [c1, Value.cells] using this
  have g3 : DataW.trod enc Tryz.prog w base spare held n 3 [v3] = some (xs[3]'(by omega)) := by
    have := hf 3 _ rfl
    rw [List.getElem?_eq_getElem (by omega)] at this
    simpa [c1, Value.cells] using this
  have g4 : DataW.trod enc Tryz.prog w base spare held n 3 [v4] = some (xs[4]'(by omega)) := by
    have := hf 4 _ rfl
    rw [List.getElem?_eq_getElem (by omega)] at this
    simpa [c1, Value.cells] using this
  have g5 : DataW.trod enc Tryz.prog w base spare held n 3 [v5] = some (xs[5]'(by omega)) := by
    have := hf 5 _ rfl
    rw [List.getElem?_eq_getElem (by omega)] at this
    simpa [c1, Value.cells] using this
  have g6 : DataW.trod enc Tryz.prog w base spare held n 3 [v6] = some (xs[6]'(by omega)) := by
    have := hf 6 _ rfl
    rw [List.getElem?_eq_getElem (by omega)] at this
    simpa [c1, Value.cells] using this
  have g7 : DataW.trod enc Tryz.prog w base spare held n 29 [v7, v8] = some (xs[7]'(by omega)) := by
    have := hf 7 _ rfl
    rw [List.getElem?_eq_getElem (by omega)] at this
    simpa [c3, Value.cells] using this
  obtain ⟨A, n0, cp, ys, e0, hS⟩ := open_is2 g0
  subst e0
  have hcap := slice_cap Tryz.underlying27 g0
  obtain ⟨x1, e1, _, _⟩ := DataW.trod_int Tryz.underlying3 g1
  obtain ⟨x2, e2, _, _⟩ := DataW.trod_int Tryz.underlying3 g2
  obtain ⟨x3, e3, _, _⟩ := DataW.trod_int Tryz.underlying3 g3
  obtain ⟨x4, e4, _, _⟩ := DataW.trod_int Tryz.underlying3 g4
  obtain ⟨x5, e5, _, _⟩ := DataW.trod_int Tryz.underlying3 g5
  obtain ⟨x6, e6, _, _⟩ := DataW.trod_int Tryz.underlying3 g6
  obtain ⟨F, e7⟩ := trod_allI (m := 2) Tryz.underlying29 (by kernel_rfl) (by kernel_rfl) rfl (fun j f hj => by
    match j, hj with
    | 0, hj | 1, hj => cases hj; exact Tryz.underlying3
    | j + 2, hj => cases hj) g7
  simp only [List.cons.injEq, and_true] at e1 e2 e3 e4 e5 e6
  have e7' : v7 = .int .i64 (F 0) ∧ v8 = .int .i64 (F 1) := by simpa [List.range, List.range.loop] using e7
  obtain ⟨e7, e8⟩ := e7'
  subst e1 e2 e3 e4 e5 e6 e7 e8
  have hn0 : n0 = ys.length := hS.1
  subst hn0
  exact ⟨A, cp, ⟨ys, x1, x2, x3, x4, x5, x6, F 0, F 1⟩, rfl, hS, hcap.2⟩
end
section
variable {H : Type} {enc : TypeId × Value → H} {P : Program} {w : World} {base : Nat} {spare : Nat → Bool} {held : Bool} {r : Reach} {b0 : Nat}
end
section
variable {H : Type} {enc : TypeId × Value → H} {P : Program} {w : World} {base : Nat} {spare : Nat → Bool} {held : Bool}
theorem slice_len {t e : TypeId} {fuel : Nat} {A : Option Addr} {n c : Nat} {x : DataW H × List MemPlace} (ht : P.underlying t = some (.slice e)) (h : DataW.trod enc P w base spare held fuel t [.slice A n c] = some x) : n ≤ 9223372036854775807 := by
  rcases open_slice ht h with ⟨h0, _⟩ | ⟨a, len, cap, m, k, D, Pl, hcs, hb, hl, hm, _⟩
  · simp at h0
    omega
  · simp at hcs
    unfold maxLen at hm
    omega
set_option maxRecDepth 100000 in
theorem road_len {pa : Option Addr} {pn pc : Nat} {v1 v2 : Value} {r : Reach} {b0 : Nat} {d : DataW H} {p : List MemPlace} (hv : Value.okWide Tryz.prog w r b0 26 (.agg #[.slice pa pn pc, v1, v2])) (h : DataW.Trod enc Tryz.prog w base spare held 26 (.agg #[.slice pa pn pc, v1, v2]) d p) : pn ≤ 9223372036854775807 := by
  obtain ⟨x0, x1, x2, y0, y1, y2, n, he, _, _, h0, _, _⟩ := open_agg3 Tryz.underlying26 (by kernel_rfl) (by kernel_rfl) hv h
  simp only [Value.agg.injEq, Array.mk.injEq, List.cons.injEq] at he
  obtain ⟨rfl, _⟩ := he
  exact slice_len Tryz.underlying22 h0
end
end Go.Proofs.YtogkmnopggmdjaaGreatDoor

/- A slice of ints that came in as an argument, opened to a list. -/
namespace Go.Proofs.YtogkmnopggmdjaaGreatDoor
open Go.ChangeShapes Go.WideShapes Go.ChangeAt Go.RowKit Go.Deep Go.Joins

section
variable {H : Type} {enc : TypeId × Value → H} {w : World} {base : Nat} {spare : Nat → Bool} {held : Bool} {r : Reach} {b0 : Nat}
set_option maxRecDepth 100000 in
theorem open_is {v : Value} {d : DataW H} {p : List MemPlace} (hv : Value.okWide Tryz.prog w r b0 27 v) (h : DataW.Trod enc Tryz.prog w base spare held 27 v d p) :
    ∃ A n c xs, v = .slice A n c ∧ SL iC 1 w w.heap.size A n xs := by
  obtain ⟨a0, len, cap, rfl⟩ := okWide_slice Tryz.underlying27 hv
  obtain ⟨fuel, hf⟩ := h
  rcases open_ints Tryz.underlying27 Tryz.underlying3 (by kernel_rfl) hf with ⟨h0, _⟩ | ⟨a, l2, c2, zs, h0, _, hlc, _, hz, _, hcell, _⟩
  · simp [Value.cells] at h0
    obtain ⟨rfl, rfl, rfl⟩ := h0
    exact ⟨none, 0, 0, [], rfl, rfl, fun q => absurd q (by omega)⟩
  · simp [Value.cells] at h0
    obtain ⟨rfl, rfl, rfl⟩ := h0
    have hlz : len ≤ zs.length := by rw [hz]; split <;> omega
    refine ⟨some a, len, cap, zs.take len, rfl, by rw [List.length_take]; omega, fun hn => ?_⟩
    have hc0 := hcell 0 (by omega)
    have hbl := block_lt_of_cell hc0
    have hsp := World.cell?_spot hc0
    obtain ⟨b, off, sp⟩ := a
    have hsp' : sp = none := by simpa [Addr.add] using hsp
    subst hsp'
    refine ⟨b, off, rfl, by simpa [Addr.add] using hbl, fun k x hx j v hv => ?_⟩
    have hk : k < len := by have := (List.getElem?_eq_some_iff.1 hx).1; rw [List.length_take] at this; omega
    rw [List.getElem?_take, if_pos hk] at hx
    have h1 := hcell k (by omega)
    have e0 : ((⟨b, off, none⟩ : Addr).add k) = ⟨b, off + k, none⟩ := by unfold Addr.add; split <;> simp_all
    rw [e0, List.getD, hx] at h1
    match j, hv with
    | 0, hv => cases hv; simpa using h1
    | j + 1, hv => cases hv
end
end Go.Proofs.YtogkmnopggmdjaaGreatDoor

/- A speech that came in as an argument, opened; what the last rows open. -/
namespace Go.Proofs.YtogkmnopggmdjaaGreatDoor
open Go.ChangeShapes Go.WideShapes Go.ChangeAt Go.RowKit Go.Deep Go.Joins

section
variable {H : Type} {enc : TypeId × Value → H} {P : Program} {w : World} {base : Nat} {spare : Nat → Bool} {held : Bool} {r : Reach} {b0 : Nat}
/-- A struct of ints by value. -/
theorem open_aggI {t : TypeId} {fs : Array Field} {m : Nat} {v : Value} {d : DataW H} {p : List MemPlace} (hs : P.underlying t = some (.struct fs)) (hone : oneCellFields P fs = true) (hC : P.cellsOf t = m) (hm : fs.size = m)
    (hi : ∀ (j : Nat) (f : Field), fs[j]? = some f → P.underlying f.type = some (.int .i64)) (hv : Value.okWide P w r b0 t v) (h : DataW.Trod enc P w base spare held t v d p) :
    ∃ F : Nat → Int, v = .agg ((List.range m).map fun j => Value.int .i64 (F j)).toArray := by
  obtain ⟨cs, rfl, hsz⟩ := okWide_struct hs hv
  obtain ⟨fuel, hf⟩ := h
  obtain ⟨xs, n, _, _, hl, hlen, hf⟩ := DataW.trod_struct hs hf
  have key : ∀ j, ∃ x : Int, j < m → cs.toList[j]? = some (.int .i64 x) := fun j => by
    by_cases hj : j < m
    case neg => exact ⟨0, fun h => absurd h hj⟩
    have hjf : j < fs.size := by omega
    have e := Array.getElem?_eq_getElem hjf
    obtain ⟨o, k⟩ := hone_of hone j _ e
    have g := hf j _ e
    have hjc : j < cs.toList.length := by simp; omega
    rw [o, k] at g
    have hd : ((Value.cells (.agg cs)).toList.drop j).take 1 = [cs.toList[j]] := by
      show (cs.toList.drop j).take 1 = _
      rw [List.drop_eq_getElem_cons hjc]
      simp
    rw [hd] at g
    have hxj : j < xs.length := by omega
    rw [List.getElem?_eq_getElem hxj] at g
    obtain ⟨x, hx, _, _⟩ := DataW.trod_int (hi j _ e) g
    refine ⟨x, fun _ => ?_⟩
    rw [List.getElem?_eq_getElem hjc]
    simpa using hx
  obtain ⟨F, hF⟩ : ∃ F : Nat → Int, ∀ j, j < m → cs.toList[j]? = some (.int .i64 (F j)) := ⟨fun j => (key j).choose, fun j => (key j).choose_spec⟩
  refine ⟨F, congrArg Value.agg (Array.toList_inj.1 (List.ext_getElem? fun j => ?_))⟩
  rw [List.getElem?_map]
  by_cases hj : j < m
  · rw [List.getElem?_range hj, hF j hj]
    rfl
  · rw [List.getElem?_eq_none (by simp; omega), List.getElem?_eq_none (by simp; omega)]
    rfl
end
section
variable {H : Type} {enc : TypeId × Value → H} {w : World} {base : Nat} {spare : Nat → Bool} {held : Bool} {r : Reach} {b0 : Nat}
set_option maxRecDepth 100000 in
theorem open_speech {v : Value} {d : DataW H} {p : List MemPlace} (hv : Value.okWide Tryz.prog w r b0 33 v) (h : DataW.Trod enc Tryz.prog w base spare held 33 v d p) :
    ∃ v0 l : Int, v = .agg #[.int .i64 v0, .int .i64 l] := by
  obtain ⟨F, hF⟩ := open_aggI (m := 2) Tryz.underlying33 (by kernel_rfl) (by kernel_rfl) rfl (fun j f hj => by
    match j, hj with
    | 0, hj | 1, hj => cases hj; exact Tryz.underlying3
    | j + 2, hj => cases hj) hv h
  exact ⟨F 0, F 1, hF⟩
end
end Go.Proofs.YtogkmnopggmdjaaGreatDoor
