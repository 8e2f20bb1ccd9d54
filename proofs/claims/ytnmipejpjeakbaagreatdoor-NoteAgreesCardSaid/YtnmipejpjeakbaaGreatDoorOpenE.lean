/- A list of edits and a book that came in as arguments, opened. -/
import Derived.Test.YtnmipejpjeakbaaGreatDoorPAll
import Derived.ChangeSlices
namespace Go.Proofs.YtnmipejpjeakbaaGreatDoor
open Go.ChangeShapes Go.WideShapes Go.ChangeAt Go.RowKit Go.Deep Go.Joins

theorem laidOut : laidOutB Tryz.prog = true := by kernel_rfl
/-- From a row's condition to the table. -/
theorem pow10_of_row (W : World) (h : laidMetH Tryz.prog Rows.noteReadsRow.laid W) : Lib.TabIs Tryz.prog W pow10N .u64 Lib.pow10Tab := by
  rw [MakeChecks.laidMetH_plain _ _ _ (by kernel_rfl)] at h
  have h2 := laidMet.tail (laidMet.tail h)
  exact Lib.tabIs_of_head (name := pow10N) (rest := []) (n := 20) pow10_glob (by kernel_rfl) Tryz.underlying206 Tryz.underlying191 (by kernel_rfl) (by kernel_rfl) h2

section
variable {H : Type} {enc : TypeId × Value → H} {P : Program} {w : World} {base : Nat} {spare : Nat → Bool} {held : Bool}
/-- The cells of a struct of ints. -/
theorem trod_allI {t : TypeId} {fs : Array Field} {m fuel : Nat} {cs : List Value} {x : DataW H × List MemPlace} (hs : P.underlying t = some (.struct fs)) (hone : oneCellFields P fs = true) (hC : P.cellsOf t = m) (hm : fs.size = m)
    (hi : ∀ (j : Nat) (f : Field), fs[j]? = some f → P.underlying f.type = some (.int .i64)) (h : DataW.trod enc P w base spare held fuel t cs = some x) :
    ∃ F : Nat → Int, cs = (List.range m).map fun j => Value.int .i64 (F j) := by
  obtain ⟨xs, n, _, _, hsz, hlen, hf⟩ := DataW.trod_struct hs h
  have key : ∀ j, ∃ x : Int, j < m → cs[j]? = some (.int .i64 x) := fun j => by
    by_cases hj : j < m
    case neg => exact ⟨0, fun h => absurd h hj⟩
    have hjf : j < fs.size := by omega
    have e := Array.getElem?_eq_getElem hjf
    obtain ⟨o, k⟩ := hone_of hone j _ e
    have g := hf j _ e
    have hjc : j < cs.length := by omega
    rw [o, k] at g
    have hd : (cs.drop j).take 1 = [cs[j]] := by
      rw [List.drop_eq_getElem_cons hjc]
      rfl
    rw [hd] at g
    have hxj : j < xs.length := by omega
    rw [List.getElem?_eq_getElem hxj] at g
    obtain ⟨x, hx, _, _⟩ := DataW.trod_int (hi j _ e) g
    refine ⟨x, fun _ => ?_⟩
    rw [List.getElem?_eq_getElem hjc]
    simpa using hx
  obtain ⟨F, hF⟩ : ∃ F : Nat → Int, ∀ j, j < m → cs[j]? = some (.int .i64 (F j)) := ⟨fun j => (key j).choose, fun j => (key j).choose_spec⟩
  refine ⟨F, List.ext_getElem? fun j => ?_⟩
  rw [List.getElem?_map]
  by_cases hj : j < m
  · rw [List.getElem?_range hj, hF j hj]
    rfl
  · rw [List.getElem?_eq_none (by omega), List.getElem?_eq_none (by simp; omega)]
    rfl
end
section
variable {H : Type} {enc : TypeId × Value → H} {w : World} {base : Nat} {spare : Nat → Bool} {held : Bool} {r : Reach} {b0 : Nat}
set_option maxRecDepth 100000 in
/-- The cells of a note. -/
theorem trod_note {fuel : Nat} {cs : List Value} {x : DataW H × List MemPlace} (h : DataW.trod enc Tryz.prog w base spare held fuel 36 cs = some x) : ∃ nt : NoteR, cs = nC nt := by
  obtain ⟨F, hF⟩ := trod_allI (m := 10) Tryz.underlying36 (by kernel_rfl) (by kernel_rfl) rfl (fun j f hj => by
    match j, hj with
    | 0, hj => cases hj; exact Tryz.underlying34
    | 1, hj | 2, hj | 3, hj | 4, hj | 5, hj | 6, hj | 7, hj | 8, hj | 9, hj => cases hj; exact Tryz.underlying3
    | j + 10, hj => cases hj) h
  exact ⟨⟨F 0, F 1, F 2, F 3, F 4, F 5, F 6, F 7, F 8, F 9⟩, hF⟩
set_option maxRecDepth 100000 in
/-- The cells of an edit. -/
theorem trod_edit {fuel : Nat} {cs : List Value} {x : DataW H × List MemPlace} (h : DataW.trod enc Tryz.prog w base spare held fuel 83 cs = some x) : ∃ e : EdR, cs = eC e := by
  obtain ⟨xs, n, _, _, hsz, hlen, hf⟩ := DataW.trod_struct Tryz.underlying83 h
  have c1 : Tryz.prog.cellsOf 3 = 1 := by kernel_rfl
  have c2 : Tryz.prog.cellsOf 81 = 1 := by kernel_rfl
  have c3 : Tryz.prog.cellsOf 36 = 10 := by kernel_rfl
  have c4 : Tryz.prog.cellsOf 83 = 12 := by kernel_rfl
  have hl : xs.length = 3 := hlen
  rw [c4] at hsz
  match cs, hsz with
  | [v0, v1, v2, v3, v4, v5, v6, v7, v8, v9, v10, v11], _ =>
  have g0 : DataW.trod enc Tryz.prog w base spare held n 3 [v0] = some (xs[0]'(by omega)) := by
    have := hf 0 _ rfl
    rw [List.getElem?_eq_getElem (by omega)] at this
    simpa [c1] using this
  have g1 : DataW.trod enc Tryz.prog w base spare held n 81 [v1] = some (xs[1]'(by omega)) := by
    have := hf 1 _ rfl
    rw [List.getElem?_eq_getElem (by omega)] at this
    simpa [c2] using this
  have g2 : DataW.trod enc Tryz.prog w base spare held n 36 [v2, v3, v4, v5, v6, v7, v8, v9, v10, v11] = some (xs[2]'(by omega)) := by
    have := hf 2 _ rfl
    rw [List.getElem?_eq_getElem (by omega)] at this
    simpa [c3] using this
  obtain ⟨x0, e0, _, _⟩ := DataW.trod_int Tryz.underlying3 g0
  obtain ⟨x1, e1, _, _⟩ := DataW.trod_int Tryz.underlying81 g1
  obtain ⟨nt, e2⟩ := trod_note g2
  injection e0 with e0
  injection e1 with e1
  subst e0 e1
  exact ⟨⟨x0, x1, nt⟩, by rw [e2]; rfl⟩
set_option maxRecDepth 100000 in
theorem open_edits {v : Value} {d : DataW H} {p : List MemPlace} (hv : Value.okWide Tryz.prog w r b0 40 v) (h : DataW.Trod enc Tryz.prog w base spare held 40 v d p) :
    ∃ A n c xs, v = .slice A n c ∧ SL eC 12 w w.heap.size A n xs ∧ (n ≤ c ∧ n ≤ 9223372036854775807) := by
  obtain ⟨a0, len, cap, rfl⟩ := okWide_slice Tryz.underlying40 hv
  obtain ⟨fuel, hf⟩ := h
  have hf' : DataW.trod enc Tryz.prog w base spare held fuel 40 [.slice a0 len cap] = some (d, p) := by simpa [Value.cells] using hf
  have hcap := slice_cap Tryz.underlying40 hf'
  have c4 : Tryz.prog.cellsOf 83 = 12 := by kernel_rfl
  rcases open_slice Tryz.underlying40 hf' with ⟨h0, _⟩ | ⟨a, len', cap', m, n, D, Pl, hcs, hb, hl, hm, hmm, hx, hi⟩
  · simp at h0
    obtain ⟨rfl, rfl, rfl⟩ := h0
    exact ⟨none, 0, 0, [], rfl, ⟨rfl, fun q => absurd q (by omega)⟩, hcap⟩
  · simp at hcs
    obtain ⟨rfl, rfl, rfl⟩ := hcs
    have hlm : len ≤ m := by rw [hmm]; split <;> omega
    have key : ∀ i, i < len → ∃ e : EdR, ∀ j v, (eC e)[j]? = some v → w.cell? (a.add (i * 12 + j)) = some v := by
      intro i hil
      obtain ⟨cs', hc, ht'⟩ := hi i (by omega)
      rw [c4] at hc
      obtain ⟨e, rfl⟩ := trod_edit ht'
      obtain ⟨_, hcl, hat⟩ := World.cells?_some hc
      refine ⟨e, fun j v hj => ?_⟩
      have hj12 : j < 12 := (List.getElem?_eq_some_iff.1 hj).1
      rw [← Go.Deep.add_add, hat j hj12, hj]
    haveI : Inhabited EdR := ⟨⟨0, 0, ⟨0, 0, 0, 0, 0, 0, 0, 0, 0, 0⟩⟩⟩
    obtain ⟨F, hF⟩ := choose_lt (α := EdR) (p := fun i e => ∀ j v, (eC e)[j]? = some v → w.cell? (a.add (i * 12 + j)) = some v) key
    refine ⟨some a, len, cap, (List.range len).map F, rfl, ⟨by simp, fun hn => ?_⟩, hcap⟩
    have h0 := hF 0 hn 0 _ rfl
    have hbl := block_lt_of_cell h0
    have hsp := World.cell?_spot h0
    obtain ⟨b, off, sp⟩ := a
    simp only [Nat.zero_mul, Nat.add_zero] at h0 hbl hsp
    have hsp' : sp = none := by simpa [Addr.add] using hsp
    subst hsp'
    refine ⟨b, off, rfl, by simpa [Addr.add] using hbl, fun i x hx' j v hj => ?_⟩
    have hi' : i < len := by have := (List.getElem?_eq_some_iff.1 hx').1; simpa using this
    rw [List.getElem?_map, List.getElem?_range hi'] at hx'
    cases hx'
    have := hF i hi' j v hj
    have e0 : ((⟨b, off, none⟩ : Addr).add (i * 12 + j)) = ⟨b, off + i * 12 + j, none⟩ := by unfold Addr.add; split <;> simp_all [Nat.add_assoc]
    rwa [e0] at this
set_option maxRecDepth 100000 in
/-- A slice of ints that stands in one cell. -/
theorem open_is2 {c : Value} {fuel : Nat} {x : DataW H × List MemPlace} (hf : DataW.trod enc Tryz.prog w base spare held fuel 46 [c] = some x) :
    ∃ A n cp xs, c = .slice A n cp ∧ SL iC 1 w w.heap.size A n xs := by
  rcases open_ints Tryz.underlying46 Tryz.underlying3 (by kernel_rfl) hf with ⟨h0, _⟩ | ⟨a, len, cap, zs, h0, _, hlc, _, hz, _, hcell, _⟩
  · simp at h0
    exact ⟨none, 0, 0, [], h0, rfl, fun q => absurd q (by omega)⟩
  · simp at h0
    have hlz : len ≤ zs.length := by rw [hz]; split <;> omega
    refine ⟨some a, len, cap, zs.take len, h0, by rw [List.length_take]; omega, fun hn => ?_⟩
    have hc0 := hcell 0 (by omega)
    have hbl := block_lt_of_cell hc0
    have hsp := World.cell?_spot hc0
    obtain ⟨b, off, sp⟩ := a
    have hsp' : sp = none := by simpa [Addr.add] using hsp
    subst hsp'
    refine ⟨b, off, rfl, by simpa [Addr.add] using hbl, fun k x hx j v hv => ?_⟩
    have hk : k < len := by have := (List.getElem?_eq_some_iff.1 hx).1; rw [List.length_take] at this; omega
    rw [List.getElem?_take, if_pos hk] at hx
    have h1 := hcell k (by omega)
    have e0 : ((⟨b, off, none⟩ : Addr).add k) = ⟨b, off + k, none⟩ := by unfold Addr.add; split <;> simp_all
    rw [e0, List.getD, hx] at h1
    match j, hv with
    | 0, hv => cases hv; simpa using h1
    | j + 1, hv => cases hv
set_option maxRecDepth 100000 in
theorem open_book {v : Value} {d : DataW H} {p : List MemPlace} (hv : Value.okWide Tryz.prog w r b0 50 v) (h : DataW.Trod enc Tryz.prog w base spare held 50 v d p) :
    ∃ A c b, v = bkA A c b ∧ SL iC 1 w w.heap.size A b.gs.length b.gs ∧ b.gs.length ≤ 9223372036854775807 := by
  obtain ⟨cs, rfl, hsz⟩ := okWide_struct Tryz.underlying50 hv
  obtain ⟨fuel, hf⟩ := h
  obtain ⟨xs, n, _, _, hl, hlen, hf⟩ := DataW.trod_struct Tryz.underlying50 hf
  have c1 : Tryz.prog.cellsOf 3 = 1 := by kernel_rfl
  have c2 : Tryz.prog.cellsOf 46 = 1 := by kernel_rfl
  have c3 : Tryz.prog.cellsOf 48 = 2 := by kernel_rfl
  have hl8 : xs.length = 8 := hlen
  have h9 : cs.size = 9 := hsz.trans (by kernel_rfl)
  obtain ⟨l⟩ := cs
  match l, h9 with
  | [v0, v1, v2, v3, v4, v5, v6, v7, v8], _ =>
  have g0 : DataW.trod enc Tryz.prog w base spare held n 46 [v0] = some (xs[0]'(by omega)) := by
    have := hf 0 _ rfl
    rw [List.getElem?_eq_getElem (by omega)] at this
    simpa [c2, Value.cells] using this
  have g1 : DataW.trod enc Tryz.prog w base spare held n 3 [v1] = some (xs[1]'(by omega)) := by
    have := hf 1 _ rfl
    rw [List.getElem?_eq_getElem (by omega)] at this
    simpa [c1, Value.cells] using this
  have g2 : DataW.trod enc Tryz.prog w base spare held n 3 [v2] = some (xs[2]'(by omega)) := by
    have := hf 2 _ rfl
    rw [List.getElem?_eq_getElem (by omega)] at this
    simpa [c1, Value.cells] using this
  have g3 : DataW.trod enc Tryz.prog w base spare held n 3 [v3] = some (xs[3]'(by omega)) := by
    have := hf 3 _ rfl
    rw [List.getElem?_eq_getElem (by omega)] at this
    simpa [c1, Value.cells] using this
  have g4 : DataW.trod enc Tryz.prog w base spare held n 3 [v4] = some (xs[4]'(by omega)) := by
    have := hf 4 _ rfl
    rw [List.getElem?_eq_getElem (by omega)] at this
    simpa [c1, Value.cells] using this
  have g5 : DataW.trod enc Tryz.prog w base spare held n 3 [v5] = some (xs[5]'(by omega)) := by
    have := hf 5 _ rfl
    rw [List.getElem?_eq_getElem (by omega)] at this
    simpa [c1, Value.cells] using this
  have g6 : DataW.trod enc Tryz.prog w base spare held n 3 [v6] = some (xs[6]'(by omega)) := by
    have := hf 6 _ rfl
    rw [List.getElem?_eq_getElem (by omega)] at this
    simpa [c1, Value.cells] using this
  have g7 : DataW.trod enc Tryz.prog w base spare held n 48 [v7, v8] = some (xs[7]'(by omega)) := by
    have := hf 7 _ rfl
    rw [List.getElem?_eq_getElem (by omega)] at this
    simpa [c3, Value.cells] using this
  obtain ⟨A, n0, cp, ys, e0, hS⟩ := open_is2 g0
  subst e0
  have hcap := slice_cap Tryz.underlying46 g0
  obtain ⟨x1, e1, _, _⟩ := DataW.trod_int Tryz.underlying3 g1
  obtain ⟨x2, e2, _, _⟩ := DataW.trod_int Tryz.underlying3 g2
  obtain ⟨x3, e3, _, _⟩ := DataW.trod_int Tryz.underlying3 g3
  obtain ⟨x4, e4, _, _⟩ := DataW.trod_int Tryz.underlying3 g4
  obtain ⟨x5, e5, _, _⟩ := DataW.trod_int Tryz.underlying3 g5
  obtain ⟨x6, e6, _, _⟩ := DataW.trod_int Tryz.underlying3 g6
  obtain ⟨F, e7⟩ := trod_allI (m := 2) Tryz.underlying48 (by kernel_rfl) (by kernel_rfl) rfl (fun j f hj => by
    match j, hj with
    | 0, hj | 1, hj => cases hj; exact Tryz.underlying3
    | j + 2, hj => cases hj) g7
  simp only [List.cons.injEq, and_true] at e1 e2 e3 e4 e5 e6
  have e7' : v7 = .int .i64 (F 0) ∧ v8 = .int .i64 (F 1) := by simpa [List.range, List.range.loop] using e7
  obtain ⟨e7, e8⟩ := e7'
  subst e1 e2 e3 e4 e5 e6 e7 e8
  have hn0 : n0 = ys.length := hS.1
  subst hn0
  exact ⟨A, cp, ⟨ys, x1, x2, x3, x4, x5, x6, F 0, F 1⟩, rfl, hS, hcap.2⟩
end
end Go.Proofs.YtnmipejpjeakbaaGreatDoor
