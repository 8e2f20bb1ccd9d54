/- How many meters a road has, plain. -/
import Derived.Test.YtafclpmnpamipaaGreatQCorn
import Derived.Test.YtafclpmnpamipaaGreatQStrM
import Derived.Test.YtafclpmnpamipaaGreatQReg
import Derived.BigQuiet
import Derived.Sort.CutIn
import Derived.Test.YtafclpmnpamipaaGreatQAppS
import Derived.Test.YtafclpmnpamipaaGreatQFind
import Derived.RegionTactic
import Derived.BigRegion
namespace Go.Proofs.YtafclpmnpamipaaGreat
open Go.RowKit Go.Shelf Go.Sort Go.Proofs

theorem units_nat {ps : List Piece} (h : ∀ q ∈ ps, pOk q = true) : (units ps).length = (sumL ps).toNat := by
  have := units_len (ps := ps) (fun q hq => by have := (pOk_len (h q hq)).1; omega)
  omega
theorem units_ok {ps : List Piece} (h : ∀ q ∈ ps, pOk q = true) : ∀ q ∈ units ps, pOk q = true := by
  intro q hq
  obtain ⟨p, hp, rfl⟩ := units_mem hq
  exact pOk_one (h p hp) rfl (by simp [one])
/-- A frame gets a name. -/
theorem wpIn_named {F : Fence} {n : Nat} {P : Program} {c : Code} {Q : Exit → Act → World → Prop} {a : Act} {w : World} (h : ∀ a0, a0 = a → c.wpIn F n P Q a0 w) : c.wpIn F n P Q a w := h a rfl
end Go.Proofs.YtafclpmnpamipaaGreat

/- stretches: the range over the stretches of two surveys: what the iterator hands to a loop's body. -/
namespace Go.Proofs.YtafclpmnpamipaaGreat
open Go.RowKit Go.Shelf Go.Proofs

attribute [local go_sem] Oper.semAt_some

theorem strs_step {ps qs : List Piece} {f i j : Nat} {fr : Int} (hi : i < ps.length) (hj : j < qs.length) {t : Int} (ht : t = min (sumL (ps.take (i + 1))) (sumL (qs.take (j + 1)))) :
    strs ps qs (f + 1) i j fr = ⟨fr, t, ps[i], qs[j]⟩ :: strs ps qs f (nxI ps i t) (nxI qs j t) t := by
  have hpi : ps[i]? = some ps[i] := List.getElem?_eq_getElem hi
  have hqj : qs[j]? = some qs[j] := List.getElem?_eq_getElem hj
  rw [strs, hpi, hqj]
  simp only
  rw [← ht]
theorem strs_len : ∀ (ps qs : List Piece) (f i j : Nat) (fr : Int), (strs ps qs f i j fr).length ≤ f
  | _, _, 0, _, _, _ => Nat.le_refl _
  | ps, qs, f + 1, i, j, fr => by
    rw [strs]
    split
    · have := strs_len ps qs f (nxI ps i (min (sumL (ps.take (i + 1))) (sumL (qs.take (j + 1))))) (nxI qs j (min (sumL (ps.take (i + 1))) (sumL (qs.take (j + 1))))) (min (sumL (ps.take (i + 1))) (sumL (qs.take (j + 1))))
      simp only [List.length_cons]; omega
    · simp
theorem strL_len (ps qs : List Piece) : (strL ps qs).length ≤ ps.length + qs.length := strs_len _ _ _ _ _ _
/-- Where the iterator stands: pre has come. -/
structure At2 (ps qs : List Piece) (pre : List Str) (i j : Nat) (fr : Int) (f : Nat) : Prop where
  l1 : Lie ps i fr
  l2 : Lie qs j fr
  all : pre ++ strs ps qs f i j fr = strL ps qs
  fuel : (ps.length - i) + (qs.length - j) ≤ f
theorem At2.next {ps qs : List Piece} {pre : List Str} {i j f : Nat} {fr t : Int} (h : At2 ps qs pre i j fr f) (hp : ∀ q ∈ ps, 1 ≤ q.len) (hq : ∀ q ∈ qs, 1 ≤ q.len) (hi : i < ps.length) (hj : j < qs.length)
    (ht : t = min (sumL (ps.take (i + 1))) (sumL (qs.take (j + 1)))) :
    fr ≤ t ∧ t ≤ sumL ps ∧ 0 ≤ fr ∧ ∃ f', f = f' + 1 ∧ At2 ps qs (pre ++ [⟨fr, t, ps[i], qs[j]⟩]) (nxI ps i t) (nxI qs j t) t f' := by
  obtain ⟨h1, h2, h3, h4⟩ := h
  have t1 := h1.hi hi
  have t2 := h2.hi hj
  have t3 := sumL_take_le hp (i + 1)
  obtain ⟨f', rfl⟩ : ∃ f', f = f' + 1 := ⟨f - 1, by omega⟩
  have a1 := nxI_le ps i t
  have a2 := nxI_le qs j t
  have a3 : nxI ps i t = i + 1 ∨ nxI qs j t = j + 1 := by
    unfold nxI
    rcases Int.le_total (sumL (ps.take (i + 1))) (sumL (qs.take (j + 1))) with h | h
    · exact .inl (if_pos (by omega))
    · exact .inr (if_pos (by omega))
  refine ⟨by omega, by omega, h1.nn, f', rfl, h1.next hp hi (by omega) (by omega), h2.next hq hj (by omega) (by omega), ?_, by omega⟩
  rw [strs_step hi hj ht] at h3
  rw [← h3]
  simp
theorem At2.len {ps qs : List Piece} {pre : List Str} {i j f : Nat} {fr : Int} (h : At2 ps qs pre i j fr f) (hi : i < ps.length) (hj : j < qs.length) : pre.length < ps.length + qs.length := by
  have h1 := congrArg List.length h.all
  have h2 := strL_len ps qs
  obtain ⟨f', hf⟩ : ∃ f', f = f' + 1 := ⟨f - 1, by have := h.fuel; omega⟩
  rw [hf, strs_step hi hj rfl, List.length_append, List.length_cons] at h1
  omega
end Go.Proofs.YtafclpmnpamipaaGreat

/- slices.Clone at pieces, crests and junctions. -/
namespace Go.Proofs.YtafclpmnpamipaaGreat
open Go.RowKit Go.Shelf Go.Sort Go.Proofs

theorem OW.zero {α : Type} {f : α → List Value} {sz : Nat} {e : TypeId} {base : Nat} {w : World} {N : Nat} (hb : BK w N e #[]) (hN : base ≤ N) : OW f sz e base w (some ⟨N, 0, none⟩) 0 0 ([] : List α) :=
  ⟨⟨by simp, .inr ⟨N, 0, #[], rfl, hN, hb, Nat.le_refl _, by unfold maxLen; omega, by simp, by simp⟩⟩, rfl⟩
end Go.Proofs.YtafclpmnpamipaaGreat

/- The way back, plainly: the corners of a reversed road. No program in sight. -/
namespace Go.Proofs.YtafclpmnpamipaaGreat
open Go.RowKit Go.Proofs

def neg (p : Piece) : Piece := { p with turn := -p.turn }
end Go.Proofs.YtafclpmnpamipaaGreat

/- road.Reverse, walked. -/
namespace Go.Proofs.YtafclpmnpamipaaGreat
open Go.RowKit Go.Shelf Go.Sort Go.Proofs

section
variable {α β : Type} {f : α → List Value} {f' : β → List Value} {sz sz' : Nat} {e e' : TypeId} {base base' : Nat} {w w' : World} {A A' : Option Addr} {n c n' c' : Nat} {xs : List α} {ys : List β}
/-- Rows of different element types never share a block. -/
theorem OW.ty (h : OW f sz e base w A n c xs) {a : Addr} (ha : A = some a) : ∃ cur, w.heap[a.block]? = some (.cells cur e (0, 0)) := by
  subst ha
  rcases h.1.2 with ⟨h3, _⟩ | ⟨g', cap, cur, h3, _, hg', _⟩
  · cases h3
  · injection h3 with h3
    injection h3 with h3
    subst h3
    exact ⟨cur, hg'⟩
theorem OW.ne (h : OW f sz e base w A n c xs) (h' : OW f' sz' e' base' w A' n' c' ys) (hne : e ≠ e') {a a' : Addr} (ha : A = some a) (ha' : A' = some a') : a.block ≠ a'.block := by
  intro q
  obtain ⟨c1, h1⟩ := h.ty ha
  obtain ⟨c2, h2⟩ := h'.ty ha'
  rw [q, h2] at h1
  injection h1 with h1
  injection h1 with _ h1
  exact hne h1.symm
end

end Go.Proofs.YtafclpmnpamipaaGreat

/- The example's road, and what known reads of it. -/
namespace Go.Proofs.YtafclpmnpamipaaGreat
open Go.RowKit Go.Shelf Go.Sort Go.Proofs

theorem SL.of_bk {α : Type} {f : α → List Value} {sz : Nat} {w : World} {B g : Nat} {t : TypeId} {cs : Array Value} {xs : List α} (hb : BK w g t cs) (hcs : cs.toList = xs.flatMap f) (hf : ∀ x, (f x).length = sz) (hg : g < B) :
    SL f sz w B (some ⟨g, 0, none⟩) xs.length xs := by
  refine ⟨rfl, fun _ => ⟨g, 0, rfl, hg, fun i x hx j v hv => ?_⟩⟩
  rw [hb.cell, ← Array.getElem?_toList, hcs, Nat.zero_add]
  exact flat_at hf xs i x hx j v hv
end Go.Proofs.YtafclpmnpamipaaGreat

/- road.Compare: where two surveys differ, by stretches. -/
namespace Go.Proofs.YtafclpmnpamipaaGreat
open Go.RowKit Go.Shelf Go.Sort Go.Proofs

attribute [local go_sem] Oper.semAt_some

end Go.Proofs.YtafclpmnpamipaaGreat

/- Plain lists: stable insertion, stable merge, chunks sorted; exchanges. No program in sight. -/
namespace Go.Proofs.YtafclpmnpamipaaGreat

section
variable {α : Type} (key : α → Int)
def insR : List α → α → List α
  | [], x => [x]
  | y :: S, x => if key x < key y then x :: y :: S else y :: insR S x
def ssort (l : List α) : List α := l.foldl (insR key) []
def Srt (l : List α) : Prop := l.Pairwise fun a b => key a ≤ key b
theorem insR_mem {S : List α} {x z : α} (h : z ∈ insR key S x) : z = x ∨ z ∈ S := by
  induction S with
  | nil => simp [insR] at h; exact .inl h
  | cons y S ih =>
    unfold insR at h
    split at h
    · rcases List.mem_cons.1 h with h | h
      · exact .inl h
      · exact .inr h
    · rcases List.mem_cons.1 h with h | h
      · exact .inr (by rw [h]; exact List.mem_cons_self ..)
      · rcases ih h with h | h
        · exact .inl h
        · exact .inr (List.mem_cons_of_mem _ h)
theorem Srt.insR {S : List α} (h : Srt key S) (x : α) : Srt key (insR key S x) := by
  induction S with
  | nil => exact List.pairwise_singleton _ _
  | cons y S ih =>
    obtain ⟨h1, h2⟩ := List.pairwise_cons.1 h
    unfold Go.Proofs.YtafclpmnpamipaaGreat.insR
    split
    · rename_i hlt
      refine List.pairwise_cons.2 ⟨fun z hz => ?_, h⟩
      rcases List.mem_cons.1 hz with rfl | hz
      · omega
      · have := h1 z hz; omega
    · rename_i hge
      refine List.pairwise_cons.2 ⟨fun z hz => ?_, ih h2⟩
      rcases insR_mem key hz with rfl | hz
      · omega
      · exact h1 z hz
/-- The first k chunks of s, sorted, and the rest as it was. -/
def bl (s : Nat) : Nat → List α → List α
  | 0, l => l
  | k + 1, l => ssort key (l.take s) ++ bl s k (l.drop s)
/-- All chunks of s, sorted. -/
def bs (s : Nat) (l : List α) : List α := bl key s l.length l
/-- The first k double chunks sorted, the rest in chunks of s. -/
def mx (s : Nat) : Nat → List α → List α
  | 0, l => bs key s l
  | k + 1, l => ssort key (l.take (2 * s)) ++ mx s k (l.drop (2 * s))
end
section
variable {α : Type}
end
end Go.Proofs.YtafclpmnpamipaaGreat

/- slices.swapRangeCmpFunc and rotateCmpFunc at crests and junctions; cmp.Compare and the comparisons of road.Safer. -/
namespace Go.Proofs.YtafclpmnpamipaaGreat
open Go.RowKit Go.Shelf Go.Sort Go.Proofs

def cmpI (a b : Int) : Int := if a < b then -1 else if b < a then 1 else 0
set_option maxRecDepth 100000 in
theorem isNaN_any (x : Int) (w : World) : Calls Tryz.prog 104 #[.int .i64 x] w fun e w' => e = .returned (.bool false) ∧ w' = w := by
  go_enter Tryz.func104, Tryz.ntmps104
  go_wp2_with fail
  go_ret
  exact ⟨rfl, rfl⟩
set_option maxRecDepth 100000 in
theorem Compare_int (x y : Int) (w : World) : Calls Tryz.prog 48 #[.int .i64 x, .int .i64 y] w fun e w' => e = .returned (.int .i64 (cmpI x y)) ∧ w' = w := by
  go_enter Tryz.func48, Tryz.ntmps48
  by_cases h1 : x < y
  · have hr : cmpI x y = -1 := by unfold cmpI; rw [if_pos h1]
    rw [hr]
    go_wp2_with (go_at_call 104; refine (isNaN_any _ _).mono ?_; rintro e w' ⟨rfl, rfl⟩)
    all_goals first | (go_ret; exact ⟨rfl, rfl⟩) | (exfalso; omega)
  · by_cases h2 : y < x
    · have hr : cmpI x y = 1 := by unfold cmpI; rw [if_neg h1, if_pos h2]
      rw [hr]
      go_wp2_with (go_at_call 104; refine (isNaN_any _ _).mono ?_; rintro e w' ⟨rfl, rfl⟩)
      all_goals first | (go_ret; exact ⟨rfl, rfl⟩) | (exfalso; omega)
    · have hr : cmpI x y = 0 := by unfold cmpI; rw [if_neg h1, if_neg h2]
      rw [hr]
      go_wp2_with (go_at_call 104; refine (isNaN_any _ _).mono ?_; rintro e w' ⟨rfl, rfl⟩)
      all_goals first | (go_ret; exact ⟨rfl, rfl⟩) | (exfalso; omega)
section
variable {α : Type}
/-- The k-th round of an exchange of two stretches. -/
def st (P U M V Q : List α) (k : Nat) : List α := P ++ (V.take k ++ (U.drop k ++ (M ++ (U.take k ++ (V.drop k ++ Q)))))
end

end Go.Proofs.YtafclpmnpamipaaGreat
