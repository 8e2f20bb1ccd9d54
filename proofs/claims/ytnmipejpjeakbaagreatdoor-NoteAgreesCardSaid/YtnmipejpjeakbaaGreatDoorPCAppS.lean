/- append of a whole slice onto a row of the call's own. Plain theorems over any program. -/
import Derived.Test.YtnmipejpjeakbaaGreatDoorPCGrouped
import Derived.Test.YtnmipejpjeakbaaGreatDoorRows
import Derived.Test.YtnmipejpjeakbaaGreatDoorPCBase
import Derived.ProofKit
import Derived.OpenShut
import Derived.ChangeOld
import Derived.Deep.Slices
import Derived.Deep.Fields
import Derived.Lib.SmallJoins
import Derived.LoopNIn
import Derived.Laws.EntriesVeiled
import Derived.LoopIn
import Derived.TacticsInMore
import Derived.Test.YtnmipejpjeakbaaGreatDoorPCValid
import Derived.Test.YtnmipejpjeakbaaGreatDoorPCCorn
import Derived.Test.YtnmipejpjeakbaaGreatDoorPCCheck
import Derived.Test.YtnmipejpjeakbaaGreatDoorPCReg
import Derived.Test.YtnmipejpjeakbaaGreatDoorPCReg8
import Derived.StillTail
import Derived.OrdersIn
import Derived.TacticsIn
import Derived.RangeFuncCalls
import Derived.RangeFuncNested
import Derived.Lib.QuietBelow
import Derived.WalkKit
import Derived.WalkSpells
import Derived.Deep.Draws
import Derived.Lib.Hide
import Derived.Maps.AppendAt
import Derived.RangeFuncBound
import Derived.RangeFuncLeaves
import Derived.Shelf.Abstract
import Derived.Shelf.RegionOpen
import Derived.OwnWalkIn
import Derived.BigRegionIn
import Derived.Test.YtnmipejpjeakbaaGreatDoorProg
import Derived.WalkLawsBesides
import Derived.Deep.QuietTactic
import Derived.BigQuiet
import Derived.BigGuardPart
import Derived.Deep.RegionHeld3
import Derived.Deep.CutBlock
import Derived.Deep.AppendLies
import Derived.Deep.RegionLaw
import Derived.Maps.OwnIn
namespace Go.Proofs.YtnmipejpjeakbaaGreatDoor
open Go.RowKit Go.Proofs

section
variable {α : Type} {P : Program} {f : α → List Value} {sz : Nat} {e : TypeId} {base : Nat} {W : World} {A A2 : Option Addr} {n c m c2 B : Nat} {xs ys : List α}
/-- What an append of a slice leaves. -/
structure AppS (f : α → List Value) (sz : Nat) (e : TypeId) (base : Nat) (W : World) (A : Option Addr) (n c m : Nat) (xs ys : List α) (A' : Option Addr) (c' : Nat) (w' : World) : Prop where
  own : OW f sz e base w' A' (n + m) c' (xs ++ ys)
  bel : Below base W w'
  at_ : (∀ b, A' = some b → (∃ b', A = some b' ∧ b'.block = b.block) ∨ b.block = W.heap.size)
  far : ∀ k, k < W.heap.size → (∀ b, A = some b → b.block ≠ k) → w'.heap[k]? = W.heap[k]?
  size : W.heap.size ≤ w'.heap.size
theorem run_append_of_nil (t ty : TypeId) (i : TypeInfo) (ht : P.underlying t = some (.slice e)) (hi : P.info? e = some i)
    (v : Value) (cs : List Value) (hown : W.ownsRow base e sz v n cs) (q : Nat) : (Builtin.append_ #[t, t] ty #[v, .slice none 0 q]).run P W = .ok v W := by
  rcases hown.2 with ⟨rfl, rfl⟩ | ⟨g, cap, cur, rfl, _, _, hnc, _⟩
  · simp [Builtin.append_, run_underlying ht, sizeOf, typeInfo, hi, Builtin.lenOf, Builtin.firstCells]
  · simp [Builtin.append_, run_underlying ht, sizeOf, typeInfo, hi, Builtin.lenOf, Builtin.firstCells, hnc, storeCells]
theorem flat_len {f : α → List Value} (hf : ∀ x, (f x).length = sz) : ∀ ys : List α, (ys.flatMap f).length = ys.length * sz
  | [] => by simp
  | y :: ys => by rw [List.flatMap_cons, List.length_append, hf, List.length_cons, Nat.succ_mul, flat_len hf ys]; omega
theorem flat_of (hf : ∀ x, (f x).length = sz) (hsz : 0 < sz) : ∀ (ys : List α) (j : Nat) (u : Value), (ys.flatMap f)[j]? = some u → ∃ y, ys[j / sz]? = some y ∧ (f y)[j % sz]? = some u
  | [], j, u, h => by simp at h
  | y :: ys, j, u, h => by
    rw [List.flatMap_cons] at h
    rcases Nat.lt_or_ge j sz with hj | hj
    · rw [List.getElem?_append_left (by rw [hf]; exact hj)] at h
      exact ⟨y, by rw [Nat.div_eq_of_lt hj]; rfl, by rw [Nat.mod_eq_of_lt hj]; exact h⟩
    · rw [List.getElem?_append_right (by rw [hf]; exact hj), hf] at h
      obtain ⟨y', h1, h2⟩ := flat_of hf hsz ys (j - sz) u h
      refine ⟨y', ?_, ?_⟩
      · rw [show j / sz = (j - sz) / sz + 1 by rw [Nat.div_eq_sub_div hsz hj]]
        simpa using h1
      · rw [← h2, Nat.mod_eq_sub_mod hj]
/-- The cells of a slice that reads as ys. -/
theorem SL.cells (hy : SL f sz W B A2 m ys) (hf : ∀ x, (f x).length = sz) (hsz : 0 < sz) {ad : Addr} (hA : A2 = some ad) : ∀ j u, (ys.flatMap f)[j]? = some u → W.cell? (ad.add j) = some u := by
  intro j u hj
  obtain ⟨y, h1, h2⟩ := flat_of hf hsz ys j u hj
  have hl := (List.getElem?_eq_some_iff.1 h1).1
  obtain ⟨b, off, e1, hb, hc⟩ := hy.2 (by rw [hy.1]; exact Nat.lt_of_le_of_lt (Nat.zero_le _) hl)
  rw [hA] at e1
  cases e1
  have := hc (j / sz) y h1 (j % sz) u h2
  have e0 : ((⟨b, off, none⟩ : Addr).add j) = ⟨b, off + (j / sz) * sz + j % sz, none⟩ := by
    have hj : j / sz * sz + j % sz = j := by rw [Nat.mul_comm]; exact Nat.div_add_mod j sz
    unfold Addr.add
    split
    · rename_i hj0
      have hj0' : j = 0 := by simpa using hj0
      subst hj0'
      simp
    · rw [Nat.add_assoc, hj]
  rw [e0]
  exact this
theorem run_appS (t ty : TypeId) (i : TypeInfo) (z : Value) (bytes : Nat) (ht : P.underlying t = some (.slice e)) (hi : P.info? e = some i) (hz : i.zero = some z)
    (hsize : i.size = sz) (hby : i.bytes = bytes) (hzs : z.cells.size = sz) (hsz : 0 < sz) (hown : OW f sz e base W A n c xs)
    (hy : SL f sz W B A2 m ys) (hf : ∀ x, (f x).length = sz) (h1 : ∀ x, ∀ u ∈ f x, u.oneCell' = true)
    (hbytes : (n + m) * bytes ≤ 140737488355328) (hb1 : 1 ≤ bytes) (hbase : base ≤ W.heap.size) :
    ∃ A' c' w', (Builtin.append_ #[t, t] ty #[.slice A n c, .slice A2 m c2]).run P W = .ok (.slice A' (n + m) c') w' ∧ AppS f sz e base W A n c m xs ys A' c' w' := by
  have hlen : (ys.flatMap f).length = m * sz := by rw [hy.1]; exact flat_len hf ys
  have hone : ∀ u ∈ ys.flatMap f, u.oneCell' = true := fun u hu => by
    obtain ⟨y, _, hyu⟩ := List.mem_flatMap.1 hu
    exact h1 y u hyu
  have h63 : n + m ≤ maxLen := by
    unfold maxLen
    have : n + m ≤ (n + m) * bytes := Nat.le_mul_of_pos_right _ (by omega)
    omega
  rcases A2 with _ | ad
  · have hm : m = 0 := by
      rcases Nat.eq_zero_or_pos m with h0 | h0
      · exact h0
      · obtain ⟨_, _, h, _⟩ := hy.2 h0; cases h
    subst hm
    have hys : ys = [] := List.eq_nil_of_length_eq_zero hy.1.symm
    subst hys
    exact ⟨A, c, W, run_append_of_nil t ty i ht hi _ _ hown.1 c2, ⟨by rw [List.append_nil]; exact hown, Below.refl _ _, fun b hb => .inl ⟨b, hb, rfl⟩, fun _ _ _ => rfl, Nat.le_refl _⟩⟩
  · obtain ⟨v', w', hrun, h2, h3, h4, h5⟩ := run_append_own_at (P := P) W base t ty e i z sz bytes ht hi hz hsize hby hzs hsz _ n _ hown.1 ad m c2 _ hlen (hy.cells hf hsz rfl) hone h63 hbytes hbase
    have hv : ∃ A' c', v' = .slice A' (n + m) c' := by
      rcases h2.2 with ⟨rfl, h0⟩ | ⟨g, cap, cur, rfl, _⟩
      · exact ⟨none, 0, by rw [h0]⟩
      · exact ⟨_, _, rfl⟩
    obtain ⟨A', c', rfl⟩ := hv
    refine ⟨A', c', w', hrun, ⟨⟨by rw [List.flatMap_append]; exact h2, by simp [hown.2, hy.1]⟩, ⟨h3.os, h3.tape, h3.output, h3.size, fun k hk => h3.block k (by omega) (fun e => ?_)⟩, fun b hb => ?_, fun k hk hne => h3.block k hk (fun e => ?_), h3.size⟩⟩
    · rcases A with _ | g'
      · simp [Value.ownBlock] at e
      · simp [Value.ownBlock] at e
        have := (hown.lt rfl).1
        omega
    · subst hb
      rcases h5 with h5 | h5
      · rcases A with _ | g'
        · simp [Value.ownBlock] at h5
        · simp [Value.ownBlock] at h5
          exact .inl ⟨g', rfl, h5.symm⟩
      · simp [Value.ownBlock] at h5
        exact .inr h5
    · rcases A with _ | g'
      · simp [Value.ownBlock] at e
      · simp [Value.ownBlock] at e
        exact hne g' rfl e.symm
end
end Go.Proofs.YtnmipejpjeakbaaGreatDoor

/- A road that came in as an argument: its three slices, opened to lists. -/
namespace Go.Proofs.YtnmipejpjeakbaaGreatDoor
open Go.ChangeShapes Go.WideShapes Go.ChangeAt Go.RowKit Go.Deep Go.Joins

theorem own : ownKnob Tryz.prog.godebug = none := by kernel_rfl
section
variable {H : Type} {enc : TypeId × Value → H} {P : Program} {w : World} {base : Nat} {spare : Nat → Bool} {held : Bool}
/-- A slice of structs whose fields are all ints, of whatever number. -/
theorem open_rows {t e : TypeId} {fs : Array Field} {fuel : Nat} {c : Value} {x : DataW H × List MemPlace} (ht : P.underlying t = some (.slice e)) (he : P.underlying e = some (.struct fs))
    (hone : oneCellFields P fs = true) (hC : P.cellsOf e = fs.size) (hint : ∀ (j : Nat) (f : Field), fs[j]? = some f → P.underlying f.type = some (.int .i64)) (hpos : 0 < fs.size) (h : DataW.trod enc P w base spare held fuel t [c] = some x) :
    ∃ (A : Option Addr) (n cp : Nat) (F : Nat → Nat → Int), c = .slice A n cp ∧ (0 < n → ∃ b off, A = some ⟨b, off, none⟩ ∧ b < w.heap.size ∧
      ∀ i, i < n → ∀ j, j < fs.size → w.cell? ⟨b, off + i * fs.size + j, none⟩ = some (.int .i64 (F i j))) := by
  rcases open_slice ht h with ⟨h0, _⟩ | ⟨a, len, cap, m, n, D, Pl, hcs, hb, hl, hm, hmm, hx, hi⟩
  · simp at h0
    exact ⟨none, 0, 0, fun _ _ => 0, h0, fun q => absurd q (by omega)⟩
  · have hlm : len ≤ m := by rw [hmm]; split <;> omega
    have key : ∀ i, i < len → ∃ G : Nat → Int, ∀ j, j < fs.size → w.cell? (a.add (i * fs.size + j)) = some (.int .i64 (G j)) := by
      intro i hil
      obtain ⟨cs', hc, ht'⟩ := hi i (by omega)
      rw [hC] at hc
      obtain ⟨ys, n', hn', hy, hlen, hyl, hf⟩ := DataW.trod_struct he ht'
      obtain ⟨_, hcl, hat⟩ := World.cells?_some hc
      refine choose_lt (α := Int) (p := fun j q => w.cell? (a.add (i * fs.size + j)) = some (.int .i64 q)) fun j hj => ?_
      obtain ⟨ho, hk⟩ := hone_of hone j fs[j] (Array.getElem?_eq_getElem hj)
      have hcell := hat j hj
      have h1 := hf j fs[j] (Array.getElem?_eq_getElem hj)
      rw [ho, hk] at h1
      have hone' : (cs'.drop j).take 1 = [cs'[j]'(by omega)] := by
        rw [List.drop_eq_getElem_cons (by omega)]
        rfl
      rw [hone'] at h1
      have hys : ys[j]? = some (ys[j]'(by omega)) := List.getElem?_eq_getElem (by omega)
      obtain ⟨q, hq, _, _⟩ := DataW.trod_int (hint j _ (Array.getElem?_eq_getElem hj)) (h1.trans hys)
      refine ⟨q, ?_⟩
      rw [← Go.Deep.add_add, hcell, List.getElem?_eq_getElem (by omega)]
      simpa using hq
    obtain ⟨F, hF⟩ := choose_lt (α := Nat → Int) (p := fun i G => ∀ j, j < fs.size → w.cell? (a.add (i * fs.size + j)) = some (.int .i64 (G j))) key
    simp at hcs
    subst hcs
    refine ⟨some a, len, cap, F, rfl, fun hn => ?_⟩
    have h0 := hF 0 hn 0 hpos
    have hbl := block_lt_of_cell h0
    have hsp := World.cell?_spot h0
    obtain ⟨b, off, sp⟩ := a
    simp only [Nat.zero_mul, Nat.add_zero] at h0 hbl hsp
    have hsp' : sp = none := by simpa [Addr.add] using hsp
    subst hsp'
    refine ⟨b, off, rfl, by simpa [Addr.add] using hbl, fun i hi' j hj => ?_⟩
    have := hF i hi' j hj
    have e0 : ((⟨b, off, none⟩ : Addr).add (i * fs.size + j)) = ⟨b, off + i * fs.size + j, none⟩ := by unfold Addr.add; split <;> simp_all [Nat.add_assoc]
    rwa [e0] at this
variable {r : Reach} {b0 : Nat}
theorem sl_of_rows {α : Type} {f : α → List Value} {sz n : Nat} {A : Option Addr} (F : Nat → Nat → Int) (mk : (Nat → Int) → α) (hf : ∀ G, ∀ j v, (f (mk G))[j]? = some v → j < sz ∧ v = .int .i64 (G j))
    (h : 0 < n → ∃ b off, A = some ⟨b, off, none⟩ ∧ b < w.heap.size ∧ ∀ i, i < n → ∀ j, j < sz → w.cell? ⟨b, off + i * sz + j, none⟩ = some (.int .i64 (F i j))) :
    SL f sz w w.heap.size A n ((List.range n).map fun i => mk (F i)) := by
  refine ⟨by simp, fun hn => ?_⟩
  obtain ⟨b, off, e, hb, hc⟩ := h hn
  refine ⟨b, off, e, hb, fun i x hx j v hv => ?_⟩
  have hi : i < n := by have := (List.getElem?_eq_some_iff.1 hx).1; simpa using this
  rw [List.getElem?_map, List.getElem?_range hi] at hx
  cases hx
  obtain ⟨hj, rfl⟩ := hf _ j v hv
  exact hc i hi j hj
end
end Go.Proofs.YtnmipejpjeakbaaGreatDoor

/- What a round of an iterator with boxes of its own must keep. -/
namespace Go.Proofs.YtnmipejpjeakbaaGreatDoor
open Go.RowKit Go.Shelf Go.Proofs

/-- What a round must keep for the iterator: what lay below n0, and every block of cells from s0 on. -/
def KM (n0 s0 : Nat) (W W' : World) : Prop := Below n0 W W' ∧ ∀ (b : Nat) (o : Obj), s0 ≤ b → W.heap[b]? = some o → o.isCells = true → W'.heap[b]? = some o
theorem KM.refl (n0 s0 : Nat) (W : World) : KM n0 s0 W W := ⟨Below.refl _ _, fun _ _ _ h _ => h⟩
theorem KM.t {n0 s0 : Nat} {A B C : World} (h : KM n0 s0 A B) (k : KM n0 s0 B C) : KM n0 s0 A C := ⟨h.1.trans k.1, fun b o h0 h1 h2 => k.2 b o h0 (h.2 b o h0 h1 h2) h2⟩
theorem KM.b {n0 s0 : Nat} {w : World} (hn : n0 ≤ w.heap.size) (W : World) (l : Nat) (o o' : Obj) (hl : w.heap.size ≤ l) (h : W.heap[l]? = some o) (h1 : o.isCells = false) (h2 : o.isWalk = false) : KM n0 s0 W (W.putObj l o') :=
  ⟨belowK_b hn W l o o' hl h h1 h2, fun b u _ hb hc => (World.putObj_heap_other (fun e => by subst e; rw [h] at hb; cases hb; rw [h1] at hc; cases hc)).trans hb⟩
theorem KM.of_below {n0 s0 : Nat} {W W' : World} (h : Below W.heap.size W W') (hn : n0 ≤ W.heap.size) : KM n0 s0 W W' :=
  ⟨h.mono hn, fun b _ _ hb _ => (h.block b (Array.getElem?_eq_some_iff.1 hb).1).trans hb⟩
theorem KM.setCell {n0 s0 : Nat} {W W' : World} (h : KM n0 s0 W W') {p : Addr} (h1 : n0 ≤ p.block) (h2 : p.block < s0 ∨ W.heap.size ≤ p.block) (u : Value) : KM n0 s0 W (W'.setCell p u) :=
  ⟨h.1.setCell h1 u, fun b o h0 hb hc => (Below.heap_setCell _ _ _ b (fun e => by have := (Array.getElem?_eq_some_iff.1 hb).1; omega)).trans (h.2 b o h0 hb hc)⟩
theorem KM.bk {n0 s0 : Nat} {W W' : World} (h : KM n0 s0 W W') {b : Nat} {t : TypeId} {cs : Array Value} (hb : BK W b t cs) (h0 : s0 ≤ b) : BK W' b t cs := h.2 b _ h0 hb rfl
end Go.Proofs.YtnmipejpjeakbaaGreatDoor

/- The example's road, and what known reads of it. -/
namespace Go.Proofs.YtnmipejpjeakbaaGreatDoor
open Go.RowKit Go.Shelf Go.Sort Go.Proofs

def exR : Road := ⟨[⟨100, 0, 0, 50, 2⟩, ⟨50, 1, 50, 50, 2⟩, ⟨20, 0, 0, 50, 2⟩, ⟨30, 1, 30, 50, 2⟩, ⟨200, 0, 0, 50, 2⟩], [⟨250, 2⟩], []⟩
theorem exR_ok : OK exR := (val_iff _).1 (by decide)
theorem SL.of_bk {α : Type} {f : α → List Value} {sz : Nat} {w : World} {B g : Nat} {t : TypeId} {cs : Array Value} {xs : List α} (hb : BK w g t cs) (hcs : cs.toList = xs.flatMap f) (hf : ∀ x, (f x).length = sz) (hg : g < B) :
    SL f sz w B (some ⟨g, 0, none⟩) xs.length xs := by
  refine ⟨rfl, fun _ => ⟨g, 0, rfl, hg, fun i x hx j v hv => ?_⟩⟩
  rw [hb.cell, ← Array.getElem?_toList, hcs, Nat.zero_add]
  exact flat_at hf xs i x hx j v hv
def exPs : Array Value := #[.int .i64 100, .int .i64 0, .int .i64 0, .int .i64 50, .int .i64 2, .int .i64 50, .int .i64 1, .int .i64 50, .int .i64 50, .int .i64 2, .int .i64 20, .int .i64 0, .int .i64 0, .int .i64 50, .int .i64 2, .int .i64 30, .int .i64 1, .int .i64 30, .int .i64 50, .int .i64 2, .int .i64 200, .int .i64 0, .int .i64 0, .int .i64 50, .int .i64 2]
set_option maxRecDepth 100000 in
set_option maxHeartbeats 1000000 in
theorem Example_any (w : World) :
    Calls Tryz.prog 42 #[] w fun e w' => e = .returned (.agg #[.slice (some ⟨w.heap.size + 1, 0, none⟩) 5 5, .slice (some ⟨w.heap.size + 2, 0, none⟩) 1 1, .slice none 0 0]) ∧
      RD w' w'.heap.size (some ⟨w.heap.size + 1, 0, none⟩) 5 (some ⟨w.heap.size + 2, 0, none⟩) 1 none 0 exR ∧ Below w.heap.size w w' := by
  go_enter Tryz.func42, Tryz.ntmps42
  go_wp2_with fail
  have b1 : BK ((w.alloc (.cells #[.slice (some ⟨w.heap.size + 1, 0, none⟩) 5 5, .slice (some ⟨w.heap.size + 1 + 1, 0, none⟩) 1 1, .slice none 0 0] 63)).alloc (.cells exPs 107)) (w.heap.size + 1) 107 exPs := by
    have := BK.new (w.alloc (.cells #[.slice (some ⟨w.heap.size + 1, 0, none⟩) 5 5, .slice (some ⟨w.heap.size + 1 + 1, 0, none⟩) 1 1, .slice none 0 0] 63)) 107 exPs
    rw [World.size_alloc] at this
    exact this
  have b2 : BK (((w.alloc (.cells #[.slice (some ⟨w.heap.size + 1, 0, none⟩) 5 5, .slice (some ⟨w.heap.size + 1 + 1, 0, none⟩) 1 1, .slice none 0 0] 63)).alloc (.cells exPs 107)).alloc (.cells #[.int .i64 250, .int .i64 2] 72)) (w.heap.size + 2) 72 #[.int .i64 250, .int .i64 2] := by
    have := BK.new ((w.alloc (.cells #[.slice (some ⟨w.heap.size + 1, 0, none⟩) 5 5, .slice (some ⟨w.heap.size + 1 + 1, 0, none⟩) 1 1, .slice none 0 0] 63)).alloc (.cells exPs 107)) 72 #[.int .i64 250, .int .i64 2]
    rw [World.size_alloc, World.size_alloc] at this
    exact this
  refine bodyPost_ret (v := .agg #[.slice (some ⟨w.heap.size + 1, 0, none⟩) 5 5, .slice (some ⟨w.heap.size + 2, 0, none⟩) 1 1, .slice none 0 0]) (by simp [results, Tryz.results42, go_sem]) rfl ⟨rfl, ⟨?_, ?_, SL.nil_⟩, ?_⟩
  · exact SL.of_bk (xs := exR.ps) (b1.alloc _) rfl pC_len (by simp)
  · exact SL.of_bk (xs := exR.cs) b2 rfl cC_len (by simp)
  · exact (((Below.refl w.heap.size w).alloc (Nat.le_refl _) _).alloc (by simp) _).alloc (by simp; omega) _
end Go.Proofs.YtnmipejpjeakbaaGreatDoor

/- note.within. -/
namespace Go.Proofs.YtnmipejpjeakbaaGreatDoor
open Go.RowKit Go.Shelf Go.Sort Go.Proofs
theorem nwithin_any (x lo hi : Int) (w : World) :
    Calls Tryz.prog 50 #[.int .i64 x, .int .i64 lo, .int .i64 hi] w fun e w' => e = .returned (.bool (decide (lo ≤ x) && decide (x ≤ hi))) ∧ w = w' := by
  by_cases h : lo ≤ x
  · have e : (decide (lo ≤ x) && decide (x ≤ hi)) = decide (x ≤ hi) := by simp [h]
    rw [e]; clear e
    go_enter Tryz.func50, Tryz.ntmps50
    go_wp2
    go_ret
    exact ⟨rfl, rfl⟩
  · have e : (decide (lo ≤ x) && decide (x ≤ hi)) = false := by simp [h]
    rw [e]; clear e
    go_enter Tryz.func50, Tryz.ntmps50
    go_wp2
    go_ret
    exact ⟨rfl, rfl⟩
end Go.Proofs.YtnmipejpjeakbaaGreatDoor

/- A region that draws its order: its first operations only read or make quiet calls, in any order; the rest comes last, in one forced order. One walk of the text's order serves every order. Plain theorems over any program, outside a fence and inside a loop's round. -/
namespace Go.Proofs.YtnmipejpjeakbaaGreatDoor
open Go.RowKit Go.Sort

section
variable {P : Program} {ops : Array Oper} {md : Region.Mode} {C : World → Prop}

/-! ### Inside a round of a loop over an iterator (the wide fence) -/
variable {lp m : Nat}
end
section
variable {P : Program}
end
end Go.Proofs.YtnmipejpjeakbaaGreatDoor

/- A drawn region with a new block among its operations: quiet operations 0 .. n - 1, an allocation at n that may come up at any time, and a tail in one forced order. One walk serves every order. Plain theorems over any program. -/
namespace Go.Proofs.YtnmipejpjeakbaaGreatDoor
open Go.RowKit Go.Sort

section
variable {P : Program} {ops : Array Oper} {md : Region.Mode} {C : World → Prop}
variable {n : Nat} {d : Tmp} {t : TypeId} {zs : Array Value} {B : Nat} {oa : Oper}
end
attribute [go_sem] tame tAt tUpon
end Go.Proofs.YtnmipejpjeakbaaGreatDoor

/- A drawn region whose head reads, calls (the calls in one forced chain; each may make memory) and makes at most one block: one walk of the text's order serves every order. Plain theorems over any program. -/
namespace Go.Proofs.YtnmipejpjeakbaaGreatDoor
open Go.RowKit Go.Sort

section
variable {P : Program} {ops : Array Oper} {md : Region.Mode} {C : World → Prop}
/-! ### Steps -/
variable {k : Nat} {ns ks : List Nat} {Lq : Act → Fact → Prop} {o : Oper} {rest : List Oper} {a : Act} {Φ : Fact}
end
attribute [go_sem] qAt qUpon
end Go.Proofs.YtnmipejpjeakbaaGreatDoor

/- The laws of Reg3 for a region inside a loop's round. Plain theorems over any program. -/
namespace Go.Proofs.YtnmipejpjeakbaaGreatDoor
open Go.RowKit Go.Sort

section
variable {P : Program} {ops : Array Oper} {md : Region.Mode} {C : World → Prop} {lp mr : Nat}
end
/-! ### Under the wide fence, outside a round -/
section
variable {P : Program} {ops : Array Oper} {md : Region.Mode} {C : World → Prop} {m : Nat}
end
end Go.Proofs.YtnmipejpjeakbaaGreatDoor

/- The laws of Reg3, with blocks that float and are filled by a store of their own, which floats too. Printed by genreg5.py. Plain theorems over any program. -/
namespace Go.Proofs.YtnmipejpjeakbaaGreatDoor
open Go.RowKit Go.Sort

section
variable {P : Program} {ops : Array Oper} {md : Region.Mode} {C : World → Prop} {st : Fact → Prop} {G : Nat → Act → Prop}
section
variable {lp mr : Nat}
end

/-! ### Steps -/
variable {k : Nat} {ns ks : List Nat} {Lq : Act → Fact → Prop} {o : Oper} {rest : List Oper} {a : Act} {Φ : Fact}
end
end Go.Proofs.YtnmipejpjeakbaaGreatDoor

/- The range over a road's pieces: what the iterator of a measured road hands to a loop's body, for every body that keeps old memory. -/
namespace Go.Proofs.YtnmipejpjeakbaaGreatDoor
open Go.RowKit Go.Shelf Go.Proofs

attribute [local go_sem] Oper.semAt_some

end Go.Proofs.YtnmipejpjeakbaaGreatDoor

/- The turning up to a place: the plain function, and the road package's loop over its iterator. -/
namespace Go.Proofs.YtnmipejpjeakbaaGreatDoor
open Go.RowKit Go.Shelf Go.Sort Go.Proofs

attribute [local go_sem] Oper.semAt_some

end Go.Proofs.YtnmipejpjeakbaaGreatDoor

/- How far one sees: what the answer is, and the reference's walk. -/
namespace Go.Proofs.YtnmipejpjeakbaaGreatDoor
open Go.RowKit Go.Shelf Go.Sort Go.Proofs

end Go.Proofs.YtnmipejpjeakbaaGreatDoor

/- The search for sight, piece by piece: that what the loop gathers is the sight. Plain; no program. -/
namespace Go.Proofs.YtnmipejpjeakbaaGreatDoor
open Go.RowKit Go.Proofs

section
variable (pl M an bg : Int)
end
section
variable {ps : List Piece} {pl M an : Int}
end
end Go.Proofs.YtnmipejpjeakbaaGreatDoor

/- road.Sight: the search piece by piece, over the iterator. -/
namespace Go.Proofs.YtnmipejpjeakbaaGreatDoor
open Go.RowKit Go.Shelf Go.Sort Go.Proofs

attribute [local go_sem] Oper.semAt_some

end Go.Proofs.YtnmipejpjeakbaaGreatDoor

/- road.Sight: what is refused. -/
namespace Go.Proofs.YtnmipejpjeakbaaGreatDoor
open Go.RowKit Go.Shelf Go.Sort Go.Proofs

end Go.Proofs.YtnmipejpjeakbaaGreatDoor

/- road.Corners: the bends, their groups, the corners. -/
namespace Go.Proofs.YtnmipejpjeakbaaGreatDoor
open Go.RowKit Go.Shelf Go.Sort Go.Proofs

attribute [local go_sem] Oper.semAt_some

end Go.Proofs.YtnmipejpjeakbaaGreatDoor

/- Corners, plainly: the reference's groups are the groups of bends; the turning between a group's ends is its angle. No program in sight. -/
namespace Go.Proofs.YtnmipejpjeakbaaGreatDoor
open Go.RowKit Go.Proofs

end Go.Proofs.YtnmipejpjeakbaaGreatDoor

/- road.Corners: what is refused. -/
namespace Go.Proofs.YtnmipejpjeakbaaGreatDoor
open Go.RowKit Go.Shelf Go.Sort Go.Proofs

end Go.Proofs.YtnmipejpjeakbaaGreatDoor

/- SameCorners: two lists of corners that are one list. -/
namespace Go.Proofs.YtnmipejpjeakbaaGreatDoor
open Go.RowKit Go.Shelf Go.Sort Go.Proofs

end Go.Proofs.YtnmipejpjeakbaaGreatDoor

/- What corners are like: in order, apart, each turns one way and as much as it says. Plain; no program in sight. -/
namespace Go.Proofs.YtnmipejpjeakbaaGreatDoor
open Go.RowKit Go.Proofs

theorem its_pw : ∀ (ps : List Piece) (b : Int), (∀ p ∈ ps, 0 ≤ p.len) → (its b ps).Pairwise fun x y => x.1 + x.2.len ≤ y.1
  | [], _, _ => by simp [its]
  | p :: ps, b, h => by
    simp only [its, List.pairwise_cons]
    exact ⟨fun e he => (its_mem ps (b + p.len) e (fun q hq => h q (List.mem_cons_of_mem _ hq)) he).1, its_pw ps (b + p.len) (fun q hq => h q (List.mem_cons_of_mem _ hq))⟩
theorem lens {R : Road} (hv : OK R) : ∀ p ∈ R.ps, 0 ≤ p.len := fun p hp => by have := pOk_len (hv.pk p hp); omega
theorem bds_pw {R : Road} (hv : OK R) : (bds (its 0 R.ps)).Pairwise fun x y => x.1 + x.2.len ≤ y.1 := (its_pw R.ps 0 (lens hv)).filter _
/-- The groups, one behind the other; the bends of a group, one behind the other. -/
theorem grp_pw {R : Road} (hv : OK R) (gap : Int) : (∀ g ∈ grp gap (bds (its 0 R.ps)), g.Pairwise fun x y => x.1 + x.2.len ≤ y.1) ∧
    (grp gap (bds (its 0 R.ps))).Pairwise fun g g' => ∀ x ∈ g, ∀ y ∈ g', x.1 + x.2.len ≤ y.1 := by
  have := bds_pw hv
  rw [← grp_flat gap (bds (its 0 R.ps)), List.pairwise_flatten] at this
  exact this
/-- All bends of a group turn to one side. -/
theorem addB_turn (gap : Int) (gs : List (List Bd)) (x : Bd) (h : ∀ g ∈ gs, ∀ e ∈ g, ∀ d ∈ g, e.2.turn = d.2.turn) : ∀ g ∈ addB gap gs x, ∀ e ∈ g, ∀ d ∈ g, e.2.turn = d.2.turn := by
  intro g hg
  unfold addB at hg
  have new : ∀ e ∈ [x], ∀ d ∈ [x], e.2.turn = d.2.turn := by intro e he d hd; simp at he hd; rw [he, hd]
  split at hg
  · rename_i y hy
    split at hg
    · rename_i ht
      rcases List.mem_append.1 hg with h1 | h1
      · exact h g (List.dropLast_subset _ h1)
      · simp at h1
        cases hl : gs.getLast? with
        | none => rw [hl] at hy; cases hy
        | some G =>
          rw [hl] at hy h1
          simp only [Option.bind_some] at hy
          simp only [Option.getD_some] at h1
          subst h1
          have hG : G ∈ gs := List.mem_of_getLast? hl
          have hyG : y ∈ G := List.mem_of_getLast? hy
          simp only [tog, Bool.and_eq_true, decide_eq_true_eq] at ht
          intro e he d hd
          rcases List.mem_append.1 he with h1 | h1 <;> rcases List.mem_append.1 hd with h2 | h2
          · exact h G hG e h1 d h2
          · simp at h2; rw [h2]; exact (h G hG e h1 y hyG).trans ht.1
          · simp at h1; rw [h1]; exact ht.1.symm.trans (h G hG y hyG d h2)
          · simp at h1 h2; rw [h1, h2]
    · rcases List.mem_append.1 hg with h1 | h1
      · exact h g h1
      · simp at h1; subst h1; exact new
  · rcases List.mem_append.1 hg with h1 | h1
    · exact h g h1
    · simp at h1; subst h1; exact new
theorem grp_same (gap : Int) (l : List Bd) : ∀ g ∈ grp gap l, ∀ e ∈ g, ∀ d ∈ g, e.2.turn = d.2.turn := by
  have key : ∀ (l : List Bd) (gs : List (List Bd)), (∀ g ∈ gs, ∀ e ∈ g, ∀ d ∈ g, e.2.turn = d.2.turn) → ∀ g ∈ l.foldl (addB gap) gs, ∀ e ∈ g, ∀ d ∈ g, e.2.turn = d.2.turn := by
    intro l
    induction l with
    | nil => intro gs h; exact h
    | cons x l ih => intro gs h; exact ih _ (addB_turn gap gs x h)
  exact key l [] (by simp)
theorem minR_le0 (b : Int) (g : List Bd) : minR b g ≤ b := by
  have h := minR_min b b g
  rw [show min b b = b by omega] at h
  omega
theorem angS_side {t : Int} : ∀ (g : List Bd), (∀ e ∈ g, e.2.turn = t) → (∀ e ∈ g, pOk e.2 = true) → ∃ s, 0 ≤ s ∧ angS g = t * s
  | [], _, _ => ⟨0, by omega, by simp [angS]⟩
  | e :: g, h, hp => by
    obtain ⟨s, h0, h1⟩ := angS_side g (fun d hd => h d (List.mem_cons_of_mem _ hd)) (fun d hd => hp d (List.mem_cons_of_mem _ hd))
    have he := h e (List.mem_cons_self ..)
    have hl := pOk_len (hp e (List.mem_cons_self ..))
    have ht := pOk_tOk (hp e (List.mem_cons_self ..))
    have e1 : angS (e :: g) = trn e.2 e.2.len + angS g := by simp [angS]
    by_cases h2 : e.2.turn = 0
    · refine ⟨s, h0, ?_⟩
      rw [e1, h1, trn, if_pos h2]; omega
    · have hr := ht.2.2 h2
      have hq : 0 ≤ rnd (1000 * e.2.len) e.2.rad := by
        unfold rnd
        rw [if_neg (by omega)]
        exact Int.ediv_nonneg (by omega) (by omega)
      refine ⟨rnd (1000 * e.2.len) e.2.rad + s, by omega, ?_⟩
      rw [e1, h1, trn, if_neg h2, he, Int.mul_add]
/-- Where a place lies: the piece there, with its beginning. -/
theorem at_its {R : Road} {x : Int} {i : Nat} (h : At R.ps x i) : ∃ e, e ∈ its 0 R.ps ∧ R.ps[i]? = some e.2 ∧ e.1 ≤ x ∧ x < e.1 + e.2.len := by
  obtain ⟨h1, h2, h3⟩ := h
  have h4 := its_at 0 R.ps i h1
  rw [sumL_take R.ps i h1] at h3
  exact ⟨_, List.mem_of_getElem? h4, List.getElem?_eq_getElem h1, by show 0 + _ ≤ x; omega, by show x < 0 + sumL (R.ps.take i) + R.ps[i].len; omega⟩
/-- A corner, as the law wants it. -/
structure Fine (R : Road) (least : Int) (c : Corner) : Prop where
  lt : c.fr < c.til
  lo : 0 ≤ c.fr
  hi : c.til ≤ sumL R.ps
  ang : least ≤ c.ang
  big : c.ang ≤ 800000000000
  inn : c.rad ≤ c.inn
  out : c.rad ≤ c.out
  side : c.turn = 1 ∨ c.turn = -1
  tur : upt R.ps c.til - upt R.ps c.fr = c.turn * c.ang
  first : ∀ i p, At R.ps c.fr i → R.ps[i]? = some p → p.turn = c.turn
  last : ∀ i p, At R.ps (c.til - 1) i → R.ps[i]? = some p → p.turn = c.turn
  none_ : ∀ x i p, c.fr ≤ x → x < c.til → At R.ps x i → R.ps[i]? = some p → p.turn ≠ -c.turn
theorem its_inj {R : Road} (hv : OK R) {d e : Int × Piece} (hd : d ∈ its 0 R.ps) (he : e ∈ its 0 R.ps) {x : Int} (h1 : d.1 ≤ x) (h2 : x < d.1 + d.2.len) (h3 : e.1 ≤ x) (h4 : x < e.1 + e.2.len) : d = e := by
  obtain ⟨i, hi, rfl⟩ := List.getElem_of_mem hd
  obtain ⟨j, hj, rfl⟩ := List.getElem_of_mem he
  have hpw := List.pairwise_iff_getElem.1 (its_pw R.ps 0 (lens hv))
  rcases Nat.lt_trichotomy i j with h | h | h
  · have := hpw i j hi hj h; omega
  · subst h; rfl
  · have := hpw j i hj hi h; omega
theorem crn_fine {R : Road} (hv : OK R) {gap least : Int} {c : Corner} (h : c ∈ crns gap least R) : Fine R least c := by
  obtain ⟨h1, h2⟩ := List.mem_filter.1 h
  obtain ⟨g, hg, rfl⟩ := List.mem_map.1 h1
  obtain ⟨x, gt, gi, y, e0, e1⟩ := ends (grp_ne _ _ g hg)
  have hx : x ∈ g := by rw [e0]; simp
  have hy : y ∈ g := by rw [e1]; simp
  have bx := bds_mem hv (grp_mem hg hx)
  have bY := bds_mem hv (grp_mem hg hy)
  have lx := pOk_len bx.2.1
  have ly := pOk_len bY.2.1
  have hsame := grp_same gap _ g hg
  obtain ⟨s, hs0, hs1⟩ := angS_side (t := y.2.turn) g (fun e he => hsame e he y hy) (fun e he => (bds_mem hv (grp_mem hg he)).2.1)
  have htok := pOk_tOk bY.2.1
  have hside : y.2.turn = 1 ∨ y.2.turn = -1 := by have := htok.1; have := htok.2.1; have := bY.2.2; omega
  have hc := crn_of e0 e1
  have htn := grp_turn hv hg
  have hpwg := (grp_pw hv gap).1 g hg
  have hfirst : x.1 ≤ y.1 := by
    rcases Classical.em (g = [x]) with h | h
    · rw [h] at hy; simp at hy; subst hy; omega
    · cases gt with
      | nil => exact absurd e0 h
      | cons z gt =>
        have hyg : y ∈ z :: gt := by
          have : (x :: z :: gt).getLast? = some y := by rw [← e0, e1]; simp
          rw [List.getLast?_cons_cons] at this
          exact List.mem_of_getLast? this
        rw [e0] at hpwg
        have := (List.pairwise_cons.1 hpwg).1 y hyg
        omega
  have hangb := angS_bd g (fun e he => (bds_mem hv (grp_mem hg he)).2.1)
  have hgl := grp_part gap _ hg
  have hbl := bds_len R
  have hp2 := hv.p2
  have hxi : x ∈ its 0 R.ps := (List.mem_filter.1 (grp_mem hg hx)).1
  have hyi : y ∈ its 0 R.ps := (List.mem_filter.1 (grp_mem hg hy)).1
  rw [hc] at htn h2 ⊢
  simp only [decide_eq_true_eq] at h2
  simp only at htn
  have hmax : max (angS g) (-(angS g)) = s := by rw [hs1]; rcases hside with h | h <;> rw [h] <;> omega
  refine ⟨by show x.1 < y.1 + y.2.len; omega, bx.1.1, by show y.1 + y.2.len ≤ _; omega, h2, by show max _ _ ≤ _; omega, minR_le _ _ hx, minR_le0 _ _, hside, ?_, ?_, ?_, ?_⟩
  · show upt R.ps (y.1 + y.2.len) - upt R.ps x.1 = y.2.turn * max (angS g) (-(angS g))
    rw [htn, hmax, hs1]
  · intro i p hi hp
    obtain ⟨e, he, hep, h3, h4⟩ := at_its hi
    have : e = x := its_inj hv he hxi h3 h4 (Int.le_refl _) (by show x.1 < _; omega)
    subst this
    rw [hp] at hep; cases hep
    exact hsame _ hx _ hy
  · intro i p hi hp
    obtain ⟨e, he, hep, h3, h4⟩ := at_its hi
    have : e = y := its_inj hv he hyi h3 h4 (by show y.1 ≤ y.1 + y.2.len - 1; omega) (by show y.1 + y.2.len - 1 < _; omega)
    subst this
    rw [hp] at hep; cases hep
    rfl
  · intro q i p hq1 hq2 hi hp
    obtain ⟨e, he, hep, h3, h4⟩ := at_its hi
    rw [hp] at hep; cases hep
    show e.2.turn ≠ -y.2.turn
    by_cases ht : e.2.turn = 0
    · omega
    · have heb : e ∈ bds (its 0 R.ps) := List.mem_filter.2 ⟨he, by simpa using ht⟩
      obtain ⟨A, B, eAB⟩ := grp_part' hg
      have hpw := bds_pw hv
      rw [eAB] at heb hpw
      have hq1' : x.1 ≤ q := hq1
      have hq2' : q < y.1 + y.2.len := hq2
      rcases List.mem_append.1 heb with h | h
      · have := (List.pairwise_append.1 hpw).2.2 e h x (List.mem_append_left _ hx)
        omega
      · rcases List.mem_append.1 h with h | h
        · have := hsame e h y hy; omega
        · have := (List.pairwise_append.1 (List.pairwise_append.1 hpw).2.1).2.2 y hy e h
          omega
theorem crns_pw {R : Road} (hv : OK R) (gap least : Int) : (crns gap least R).Pairwise fun c d => c.til ≤ d.fr := by
  refine List.Pairwise.filter _ (List.pairwise_map.2 (List.Pairwise.imp_of_mem (fun {g g'} hg hg' h => ?_) (grp_pw hv gap).2))
  obtain ⟨x, gt, gi, y, e0, e1⟩ := ends (grp_ne _ _ g hg)
  obtain ⟨x', gt', gi', y', e0', e1'⟩ := ends (grp_ne _ _ g' hg')
  rw [crn_of e0 e1, crn_of e0' e1']
  exact h y (by rw [e1]; simp) x' (by rw [e0']; simp)
theorem crns_len (gap least : Int) (R : Road) : (crns gap least R).length ≤ R.ps.length := by
  have h1 := List.length_filter_le (fun c : Corner => decide (least ≤ c.ang)) ((grp gap (bds (its 0 R.ps))).map crn)
  have h2 := grp_len gap (bds (its 0 R.ps))
  have h3 := bds_len R
  rw [List.length_map] at h1
  exact Nat.le_trans h1 (Nat.le_trans h2 h3)
end Go.Proofs.YtnmipejpjeakbaaGreatDoor
