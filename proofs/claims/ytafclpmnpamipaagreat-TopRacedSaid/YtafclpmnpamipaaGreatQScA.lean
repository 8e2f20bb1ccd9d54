/- Package score, what its functions share: numbers in a range, and how a plan of one stage and plain cards lie in memory. Printed by genscore.py. -/
import Derived.Test.YtafclpmnpamipaaGreatQAppS
import Derived.Test.YtafclpmnpamipaaGreatQCorn
import Derived.Test.YtafclpmnpamipaaGreatQValid
import Derived.Test.YtafclpmnpamipaaGreatQOpen
import Derived.Test.YtafclpmnpamipaaGreatQReg8
import Derived.Test.YtafclpmnpamipaaGreatQFind
import Derived.Test.YtafclpmnpamipaaGreatQReg
import Derived.Test.YtafclpmnpamipaaGreatQReg7
import Derived.Test.YtafclpmnpamipaaGreatQStr1
namespace Go.Proofs.YtafclpmnpamipaaGreat
open Go.RowKit Go.Shelf Go.Sort Go.Proofs

/-- Block b holds the cells cs (at least), and lies below B. -/
def CX (w : World) (B b : Nat) (cs : List Value) : Prop := b < B ∧ ∀ (j : Nat) (v : Value), cs[j]? = some v → w.cell? ⟨b, j, none⟩ = some v
theorem CX.grow {w w' : World} {B B' b : Nat} {cs : List Value} (h : CX w B b cs) (hb : Below B w w') (hB : B ≤ B') : CX w' B' b cs := ⟨Nat.lt_of_lt_of_le h.1 hB, fun j v hv => (hb.cell (p := ⟨b, j, none⟩) h.1).trans (h.2 j v hv)⟩
theorem CX.more {w : World} {B B' b : Nat} {cs : List Value} (h : CX w B b cs) (hB : B ≤ B') : CX w B' b cs := ⟨Nat.lt_of_lt_of_le h.1 hB, h.2⟩
theorem BK.cx {w : World} {b : Nat} {t : TypeId} {cs : Array Value} (h : BK w b t cs) : CX w w.heap.size b cs.toList := ⟨h.lt, fun j v hv => by rw [h.cell, ← Array.getElem?_toList]; exact hv⟩
theorem CX.ints {w : World} {B b : Nat} {xs : List Int} (h : CX w B b (xs.map fun x => .int .i64 x)) : SL iC 1 w B (some ⟨b, 0, none⟩) xs.length xs :=
  ⟨rfl, fun _ => ⟨b, 0, rfl, h.1, fun i x hx j v hv => by
    have h0 : j = 0 := by
      have := (List.getElem?_eq_some_iff.1 hv).1
      simp [iC] at this
      exact this
    subst h0
    have h1 := h.2 i (.int .i64 x) (by rw [List.getElem?_map, hx]; rfl)
    have h2 : v = .int .i64 x := by simpa [iC] using hv.symm
    rw [h2, Nat.zero_add, Nat.mul_one, Nat.add_zero]
    exact h1⟩⟩
theorem CX.new (w : World) (t : TypeId) (cs : Array Value) : CX (w.alloc (.cells cs t)) (w.alloc (.cells cs t)).heap.size w.heap.size cs.toList := (BK.new w t cs).cx
theorem CX.at_ {w w' : World} {t : TypeId} {cs : Array Value} {b : Nat} (e : w' = w.alloc (.cells cs t)) (hb : b = w.heap.size) : CX w' w'.heap.size b cs.toList := by
  subst e
  subst hb
  exact CX.new w t cs
/-- A plan of one stage, as it lies. -/
structure PlF where (ib ic jb jc : Nat) (pa : Option Addr) (pc : Nat) (ml ll pow : Int) (ps : List Int)
def plA (L : PlF) : Value := .agg #[.slice (some ⟨L.ib, 0, none⟩) 1 L.ic, .int .i64 1, .int .i64 0, .int .i64 0, .int .i64 L.ml, .int .i64 L.ll, .slice (some ⟨L.jb, 0, none⟩) 1 L.jc, .bool false, .int .i64 0, .int .i64 1, .int .i64 100, .int .i64 L.pow, .slice L.pa L.ps.length L.pc, .slice none 0 0]
structure PD (w : World) (B : Nat) (L : PlF) : Prop where
  i : CX w B L.ib [.int .i64 2, .int .i64 0, .int .i64 0, .bool false]
  j : CX w B L.jb [.int .i64 0]
  p : SL iC 1 w B L.pa L.ps.length L.ps
  ml : 0 ≤ L.ml ∧ L.ml ≤ 1440
  ll : 0 ≤ L.ll ∧ L.ll ≤ 1440
  pow : L.pow = -1 ∨ L.pow = 0
  pl : L.ps.length ≤ 60
  pb : ∀ x ∈ L.ps, 0 ≤ x ∧ x ≤ 1000
theorem PD.grow {w w' : World} {B B' : Nat} {L : PlF} (h : PD w B L) (hb : Below B w w') (hB : B ≤ B') : PD w' B' L := ⟨h.i.grow hb hB, h.j.grow hb hB, h.p.grow hb hB, h.ml, h.ll, h.pow, h.pl, h.pb⟩
/-- A plain card of one stage, as it lies: where its starts and its line lie, when it starts, the minute and the time of its line. -/
structure CdV where (sb sc lb lc : Nat) (st mi t : Int)
def cdC (x : CdV) : List Value := [.int .i64 0, .slice (some ⟨x.sb, 0, none⟩) 1 x.sc, .slice (some ⟨x.lb, 0, none⟩) 1 x.lc]
theorem cdC_len (x : CdV) : (cdC x).length = 3 := rfl
structure CD (w : World) (B : Nat) (x : CdV) : Prop where
  s : CX w B x.sb [.int .i64 x.st]
  l : CX w B x.lb [.int .i64 x.mi, .int .i64 x.t, .bool false, .int .i64 0]
  st : 0 ≤ x.st ∧ x.st ≤ 100000
  mi : 0 ≤ x.mi ∧ x.mi ≤ 100000
  t : 1 ≤ x.t ∧ x.t ≤ 36000000
theorem CD.grow {w w' : World} {B B' : Nat} {x : CdV} (h : CD w B x) (hb : Below B w w') (hB : B ≤ B') : CD w' B' x := ⟨h.s.grow hb hB, h.l.grow hb hB, h.st, h.mi, h.t⟩
theorem CD.ln {w : World} {B : Nat} {x : CdV} (h : CD w B x) : w.cell? ⟨x.lb, 0, none⟩ = some (.int .i64 x.mi) ∧ w.cell? ⟨x.lb, 1, none⟩ = some (.int .i64 x.t) ∧ w.cell? ⟨x.lb, 2, none⟩ = some (.bool false) ∧ w.cell? ⟨x.lb, 3, none⟩ = some (.int .i64 0) :=
  ⟨h.l.2 0 _ rfl, h.l.2 1 _ rfl, h.l.2 2 _ rfl, h.l.2 3 _ rfl⟩
theorem PD.it {w : World} {B : Nat} {L : PlF} (h : PD w B L) : w.cell? ⟨L.ib, 0, none⟩ = some (.int .i64 2) ∧ w.cell? ⟨L.ib, 1, none⟩ = some (.int .i64 0) ∧ w.cell? ⟨L.ib, 2, none⟩ = some (.int .i64 0) ∧ w.cell? ⟨L.ib, 3, none⟩ = some (.bool false) :=
  ⟨h.i.2 0 _ rfl, h.i.2 1 _ rfl, h.i.2 2 _ rfl, h.i.2 3 _ rfl⟩
theorem scw_any (x lo hi : Int) (w : World) :
    Calls Tryz.prog 132 #[.int .i64 x, .int .i64 lo, .int .i64 hi] w fun e w' => e = .returned (.bool (inR x lo hi)) ∧ w = w' := by
  by_cases h : lo ≤ x
  · have e : inR x lo hi = decide (x ≤ hi) := by simp [inR, h]
    rw [e]; clear e
    go_enter Tryz.func132, Tryz.ntmps132
    go_wp2
    go_ret
    exact ⟨rfl, rfl⟩
  · have e : inR x lo hi = false := by simp [inR, h]
    rw [e]; clear e
    go_enter Tryz.func132, Tryz.ntmps132
    go_wp2
    go_ret
    exact ⟨rfl, rfl⟩
theorem scw_yes (x lo hi : Int) (w : World) (h : lo ≤ x ∧ x ≤ hi) :
    Calls Tryz.prog 132 #[.int .i64 x, .int .i64 lo, .int .i64 hi] w fun e w' => e = .returned (.bool true) ∧ w = w' :=
  (scw_any x lo hi w).mono fun _ _ ⟨h1, h2⟩ => ⟨by rw [h1]; simp [inR, h.1, h.2], h2⟩
theorem sct1_any (x most : Int) (vb : Nat) (w : World) (hv : w.cell? ⟨vb, 0, none⟩ = some (.int .i64 most)) :
    Calls Tryz.prog 150 #[.int .i64 x, .pointer (some ⟨vb, 0, none⟩)] w fun e w' => e = .returned (.bool (!inR x 0 most)) ∧ w = w' := by
  go_enter Tryz.func150, Tryz.ntmps150
  go_wp2_with (go_at_call 132; refine (scw_any _ _ _ _).mono ?_; rintro e w' ⟨rfl, rfl⟩)
  go_ret
  exact ⟨rfl, rfl⟩
set_option maxRecDepth 100000 in
theorem sctI_any (A : Option Addr) (n c : Nat) (xs : List Int) (most : Int) (vb : Nat) (w : World) (hv : w.cell? ⟨vb, 0, none⟩ = some (.int .i64 most)) (h : SL iC 1 w w.heap.size A n xs) (hn : n ≤ 1000) :
    Calls Tryz.prog 151 #[.slice A n c, .func (.func 150) #[] #[.pointer (some ⟨vb, 0, none⟩)]] w fun e w' => (∃ v : Int, e = .returned (.int .i64 v) ∧ decide (v < 0) = xs.all fun p => inR p 0 most) ∧ w = w' := by
  have HS := Lib.hid h
  have HL := Lib.hid h.1
  have HF := Lib.hid (fun x => sct1_any x most vb w hv)
  clear h
  go_enter Tryz.func151, Tryz.ntmps151
  go_wp2_with fail
  go_loopw [8] (fun i wr => ∃ k : Nat, k ≤ n ∧ i = .int .i64 k ∧ w = wr ∧ Hid (∀ x ∈ xs.take k, inR x 0 most = true))
    (fun i _ => n - (intOf i).toNat)
  case atStart => exact ⟨0, Nat.zero_le _, rfl, rfl, by simp [Hid]⟩
  case round =>
    obtain ⟨k, hk, rfl, rfl, hall⟩ := hrel
    by_cases hlt : k < n
    · have hkl : k < xs.length := by rw [← HL.out]; exact hlt
      obtain ⟨b, off, hA, hbB, c0⟩ := IS.at_ HS.out (k := k) hkl
      have htm := Lib.hid (fun x => take_mem (P := fun p => inR p 0 most = true) hkl hall.out x)
      have hmem := Lib.hid (List.getElem_mem hkl)
      generalize xs[k]'hkl = p at c0 htm hmem
      have hk1 : (0 : Int) ≤ (k : Int) := by omega
      have hk2 : (k : Int) < (n : Int) := by omega
      clear hkl hall
      subst hA
      cases hp : inR p 0 most
      · have HP := Lib.hid hp
        go_wp2_with (go_at_call 150; refine (HF.out _).mono ?_; rintro e w' ⟨rfl, rfl⟩; rw [HP.out])
        go_ret
        refine ⟨⟨_, rfl, ?_⟩, by trivial⟩
        have h1 : (xs.all fun p => inR p 0 most) = false := by
          rw [Bool.eq_false_iff]
          intro h
          have := List.all_eq_true.1 h p hmem.out
          rw [HP.out] at this
          cases this
        rw [h1]
        simp
      · have HP := Lib.hid hp
        go_wp2_with (go_at_call 150; refine (HF.out _).mono ?_; rintro e w' ⟨rfl, rfl⟩; rw [HP.out])
        go_roundw
        case rel => exact ⟨k + 1, by omega, by go_num, by trivial, htm.out HP.out⟩
        case measure => simp [intOf]; omega
    · obtain rfl : k = n := by omega
      go_wp2_with fail
      go_ret
      refine ⟨⟨_, rfl, ?_⟩, by trivial⟩
      have h1 : (xs.all fun p => inR p 0 most) = true := by
        rw [List.all_eq_true]
        have := hall.out
        rw [HL.out, List.take_length] at this
        exact this
      rw [h1]
      rfl
set_option maxRecDepth 100000 in
theorem sctC_any (A : Option Addr) (n c : Nat) (xs : List Int) (most : Int) (vb : Nat) (w : World) (hv : w.cell? ⟨vb, 0, none⟩ = some (.int .i64 most)) (h : SL iC 1 w w.heap.size A n xs) (hn : n ≤ 1000) :
    Calls Tryz.prog 111 #[.slice A n c, .func (.func 150) #[] #[.pointer (some ⟨vb, 0, none⟩)]] w fun e w' => e = .returned (.bool (!xs.all fun p => inR p 0 most)) ∧ w = w' := by
  have HS := Lib.hid h
  have HV := Lib.hid hv
  clear h hv
  go_enter Tryz.func111, Tryz.ntmps111
  go_wp2_with fail
  refine (sctI_any A n c xs most vb _ HV.out HS.out hn).mono ?_
  rintro e w' ⟨⟨v, rfl, hv⟩, rfl⟩
  have HV := Lib.hid hv
  clear hv
  go_wp2_with fail
  go_ret
  refine ⟨ret_bool ?_, by trivial⟩
  rw [← HV.out]
  by_cases h : v < 0
  · simp [h]
  · simp [h]; omega
set_option maxRecDepth 100000 in
/-- Numbers that are as many as asked, each from 0 to a bound. -/
theorem sct_yes (A : Option Addr) (n c : Nat) (xs : List Int) (least many most : Int) (w : World) (h : SL iC 1 w w.heap.size A n xs) (hn : n ≤ 1000) (h1 : least ≤ n ∧ (n : Int) ≤ many) (h2 : ∀ x ∈ xs, 0 ≤ x ∧ x ≤ most) :
    Calls Tryz.prog 106 #[.slice A n c, .int .i64 least, .int .i64 many, .int .i64 most] w fun e w' => e = .returned (.bool true) ∧ Below w.heap.size w w' := by
  have hW0 : Below w.heap.size w (w.alloc (.cells #[.int .i64 most] 3)) := (Below.refl w.heap.size w).alloc (Nat.le_refl _) _
  have HS := Lib.hid (h.grow hW0 hW0.size)
  have HQ : Hid ((xs.all fun p => inR p 0 most) = true) := List.all_eq_true.2 fun x hx => by simp [inR, h2 x hx]
  clear h h2
  go_enter Tryz.func106, Tryz.ntmps106
  go_wp2_with (first
    | (go_at_call 132; refine (scw_yes _ _ _ _ h1).mono ?_; rintro e w' ⟨rfl, rfl⟩)
    | (go_at_call 111; refine (sctC_any A n c xs most w.heap.size _ (by simp) HS.out hn).mono ?_; rintro e w' ⟨rfl, rfl⟩; rw [HQ.out]))
  go_ret
  exact ⟨rfl, hW0⟩
end Go.Proofs.YtafclpmnpamipaaGreat
