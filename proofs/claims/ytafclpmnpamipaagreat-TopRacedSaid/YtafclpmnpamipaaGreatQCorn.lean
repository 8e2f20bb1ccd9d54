/- road.Corners: the bends, their groups, the corners. -/
import Derived.Test.YtafclpmnpamipaaGreatQFind
import Derived.Test.YtafclpmnpamipaaGreatQValid
import Derived.Test.YtafclpmnpamipaaGreatQLeaf
namespace Go.Proofs.YtafclpmnpamipaaGreat
open Go.RowKit Go.Shelf Go.Sort Go.Proofs

attribute [local go_sem] Oper.semAt_some

structure Corner where
  fr : Int
  til : Int
  turn : Int
  rad : Int
  inn : Int
  out : Int
  ang : Int
def kC (c : Corner) : List Value := [.int .i64 c.fr, .int .i64 c.til, .int .i64 c.turn, .int .i64 c.rad, .int .i64 c.inn, .int .i64 c.out, .int .i64 c.ang]
theorem App1.keeps {α : Type} {f : α → List Value} {sz : Nat} {e : TypeId} {base : Nat} {W w' : World} {A : Option Addr} {n c g c' : Nat} {xs : List α} {y : α} (hown : OW f sz e base W A n c xs) (h : App1 f sz e base W A n c xs y g c' w') (B : Nat) : KeepsFrom B W w' := by
  refine ⟨h.size, fun k o _ hk ho => (h.far k (Array.getElem?_eq_some_iff.1 hk).1 (fun b hb e => ?_)).trans hk⟩
  subst hb
  rcases hown.1.2 with ⟨h3, _⟩ | ⟨g', cap, cur, h3, _, hg', _⟩
  · cases h3
  · injection h3 with h3
    injection h3 with h3
    subst h3
    subst e
    rw [hg'] at hk
    cases hk
    cases ho
end Go.Proofs.YtafclpmnpamipaaGreat

/- Corners, plainly: the reference's groups are the groups of bends; the turning between a group's ends is its angle. No program in sight. -/
namespace Go.Proofs.YtafclpmnpamipaaGreat
open Go.RowKit Go.Proofs

theorem ends {g : List Bd} (h : g ≠ []) : ∃ x gt gi y, g = x :: gt ∧ g = gi ++ [y] := by
  cases g with
  | nil => exact absurd rfl h
  | cons x gt => exact ⟨x, gt, (x :: gt).dropLast, (x :: gt).getLast h, rfl, (List.dropLast_concat_getLast h).symm⟩
end Go.Proofs.YtafclpmnpamipaaGreat

/- road.Corners: what is refused. -/
namespace Go.Proofs.YtafclpmnpamipaaGreat
open Go.RowKit Go.Shelf Go.Sort Go.Proofs

end Go.Proofs.YtafclpmnpamipaaGreat

/- SameCorners: two lists of corners that are one list. -/
namespace Go.Proofs.YtafclpmnpamipaaGreat
open Go.RowKit Go.Shelf Go.Sort Go.Proofs

theorem KS.at_ {w : World} {B n : Nat} {A : Option Addr} {xs : List Corner} (h : SL kC 7 w B A n xs) {k : Nat} (hk : k < xs.length) : ∃ b off, A = some ⟨b, off, none⟩ ∧ b < B ∧
    w.cell? ⟨b, off + k * 7, none⟩ = some (.int .i64 xs[k].fr) ∧ w.cell? ⟨b, off + k * 7 + 1, none⟩ = some (.int .i64 xs[k].til) ∧ w.cell? ⟨b, off + k * 7 + 2, none⟩ = some (.int .i64 xs[k].turn) ∧
    w.cell? ⟨b, off + k * 7 + 3, none⟩ = some (.int .i64 xs[k].rad) ∧ w.cell? ⟨b, off + k * 7 + 4, none⟩ = some (.int .i64 xs[k].inn) ∧ w.cell? ⟨b, off + k * 7 + 5, none⟩ = some (.int .i64 xs[k].out) ∧ w.cell? ⟨b, off + k * 7 + 6, none⟩ = some (.int .i64 xs[k].ang) := by
  obtain ⟨b, off, e, hb, hc⟩ := h.at_ hk
  exact ⟨b, off, e, hb, hc 0 _ rfl, hc 1 _ rfl, hc 2 _ rfl, hc 3 _ rfl, hc 4 _ rfl, hc 5 _ rfl, hc 6 _ rfl⟩
end Go.Proofs.YtafclpmnpamipaaGreat

/- Groups of pieces: plainly, and how they lie in memory. -/
namespace Go.Proofs.YtafclpmnpamipaaGreat
open Go.RowKit Go.Shelf Go.Sort Go.Proofs

/-- The groups gs in memory: a row of headers, a row for each group; the last group's row apart from the others, the headers' row apart from all. -/
structure GP (w : World) (base : Nat) (A : Option Addr) (n c : Nat) (gs : List (Hdr × List Piece)) : Prop where
  out : OW hC 1 22 base w A n c (gs.map (·.1))
  grp : ∀ p ∈ gs, OW pC 5 89 base w p.1.A p.1.n p.1.c p.2 ∧ p.2 ≠ []
  off : ∀ p ∈ gs, ∀ a b, p.1.A = some a → A = some b → a.block ≠ b.block
  last : ∀ ds q, gs = ds ++ [q] → ∀ p ∈ ds, ∀ a b, p.1.A = some a → q.1.A = some b → a.block ≠ b.block
theorem GP.nil_ (w : World) (base : Nat) : GP w base none 0 0 [] :=
  ⟨OW.nil_, fun p hp => (by cases hp), fun p hp => (by cases hp), fun ds q e => (by simp at e)⟩
section
variable {w w' : World} {base n c : Nat} {A : Option Addr} {gs ds : List (Hdr × List Piece)} {q : Hdr × List Piece}
theorem GP.call (h : GP w base A n c gs) (hb : Below w.heap.size w w') : GP w' base A n c gs :=
  ⟨h.out.call hb, fun p hp => ⟨(h.grp p hp).1.call hb, (h.grp p hp).2⟩, h.off, h.last⟩
/-- The last group grows. -/
theorem GP.more {x : Piece} {g c' : Nat} {w1 : World} (h : GP w base A n c (ds ++ [q])) (h1 : App1 pC 5 89 base w q.1.A q.1.n q.1.c q.2 x g c' w1) (b0 : Nat) (hA : A = some ⟨b0, 0, none⟩)
    (ho : OW hC 1 22 base w' A n c (ds.map (·.1) ++ [⟨some ⟨g, 0, none⟩, q.1.n + 1, c'⟩])) (hw : ∀ k, k ≠ b0 → w'.heap[k]? = w1.heap[k]?) :
    GP w' base A n c (ds ++ [(⟨some ⟨g, 0, none⟩, q.1.n + 1, c'⟩, q.2 ++ [x])]) := by
  have hlt : ∀ p ∈ ds ++ [q], ∀ a, p.1.A = some a → a.block < w.heap.size := fun p hp a ha => ((h.grp p hp).1.lt ha).2
  have hq : q ∈ ds ++ [q] := by simp
  have hds : ∀ p ∈ ds, p ∈ ds ++ [q] := fun p hp => List.mem_append_left _ hp
  have hbA := (h.out.lt hA).2
  have hgb : g ≠ b0 := by
    rcases h1.at_ with ⟨b, hb, rfl⟩ | hg
    · exact h.off q hq b _ hb hA
    · simp at hbA; omega
  have hgd : ∀ p ∈ ds, ∀ a, p.1.A = some a → a.block ≠ g := fun p hp a ha => by
    rcases h1.at_ with ⟨b, hb, rfl⟩ | hg
    · exact h.last ds q rfl p hp a b ha hb
    · have := hlt p (hds p hp) a ha; omega
  refine ⟨by simpa using ho, fun p hp => ?_, fun p hp a b ha hb => ?_, fun ds' q' e p hp a b ha hb => ?_⟩
  · rcases List.mem_append.1 hp with hp | hp
    · refine ⟨(h.grp p (hds p hp)).1.keep (fun a ha => ?_), (h.grp p (hds p hp)).2⟩
      rw [hw _ (by have := h.off p (hds p hp) a _ ha hA; exact this)]
      exact h1.far _ (hlt p (hds p hp) a ha) (fun b hb => (h.last ds q rfl p hp a b ha hb).symm)
    · simp at hp; subst hp
      exact ⟨h1.own.keep (fun a ha => by cases ha; exact hw _ hgb), by simp⟩
  · rcases List.mem_append.1 hp with hp | hp
    · exact h.off p (hds p hp) a b ha hb
    · simp at hp; subst hp
      cases ha
      rw [hA] at hb
      cases hb
      exact hgb
  · obtain ⟨rfl, e2⟩ := List.append_inj' e rfl
    simp at e2
    subst e2
    cases hb
    exact hgd p hp a ha
end
end Go.Proofs.YtafclpmnpamipaaGreat

/- The normal road, plainly. -/
namespace Go.Proofs.YtafclpmnpamipaaGreat
open Go.RowKit Go.Shelf Go.Sort Go.Proofs

def one (p : Piece) : Piece := { p with len := 1 }
def units (ps : List Piece) : List Piece := ps.flatMap fun p => List.replicate p.len.toNat (one p)
theorem units_append (a b : List Piece) : units (a ++ b) = units a ++ units b := by simp [units]
theorem units_one (p : Piece) : units [p] = List.replicate p.len.toNat (one p) := by simp [units]
theorem units_cons (p : Piece) (l : List Piece) : units (p :: l) = List.replicate p.len.toNat (one p) ++ units l := by simp [units]
theorem sumL_cons (p : Piece) (l : List Piece) : sumL (p :: l) = p.len + sumL l := by simp [sumL]
theorem sumL_append (a b : List Piece) : sumL (a ++ b) = sumL a + sumL b := by simp [sumL]
theorem units_len : ∀ {ps : List Piece}, (∀ q ∈ ps, 0 ≤ q.len) → ((units ps).length : Int) = sumL ps
  | [], _ => rfl
  | p :: ps, h => by
    have hp := h p (List.mem_cons_self ..)
    rw [units_cons, List.length_append, List.length_replicate, sumL_cons, ← units_len (fun q hq => h q (List.mem_cons_of_mem _ hq))]
    omega
theorem units_mem {ps : List Piece} {x : Piece} (h : x ∈ units ps) : ∃ p ∈ ps, x = one p := by
  obtain ⟨p, hp, hq⟩ := List.mem_flatMap.1 h
  exact ⟨p, hp, List.eq_of_mem_replicate hq⟩
theorem pOk_one {p q : Piece} (h : pOk p = true) (e : one q = one p) (hl : 1 ≤ q.len ∧ q.len ≤ 5000) : pOk q = true := by
  obtain ⟨a, b, c, d, f⟩ := p
  obtain ⟨a', b', c', d', f'⟩ := q
  simp [one] at e
  obtain ⟨rfl, rfl, rfl, rfl⟩ := e
  simp only [pOk, Bool.and_eq_true] at h ⊢
  exact ⟨by simp [inR]; exact hl, h.2⟩
/-- A group as one run. -/
def hs : List Piece → Piece
  | [] => ⟨0, 0, 0, 0, 0⟩
  | x :: l => { x with len := sumL (x :: l) }
end Go.Proofs.YtafclpmnpamipaaGreat

/- The piece at a place, by unit pieces. -/
namespace Go.Proofs.YtafclpmnpamipaaGreat
open Go.RowKit Go.Shelf Go.Sort Go.Proofs

theorem at_units {ps : List Piece} (h : ∀ q ∈ ps, 0 ≤ q.len) {x : Int} {i : Nat} {p : Piece} (h0 : 0 ≤ x) (ha : At ps x i) (hp : ps[i]? = some p) : (units ps)[x.toNat]? = some (one p) := by
  obtain ⟨hi, h1, h2⟩ := ha
  have hpe : ps[i] = p := by rw [List.getElem?_eq_getElem hi] at hp; exact Option.some.inj hp
  have e := (List.take_append_drop i ps).symm
  rw [List.drop_eq_getElem_cons hi, hpe] at e
  have h3 : (units ps)[x.toNat]? = (units (ps.take i ++ p :: ps.drop (i + 1)))[x.toNat]? := congrArg (fun l => (units l)[x.toNat]?) e
  have h4 := units_len (ps := ps.take i) (fun q hq => h q (List.mem_of_mem_take hq))
  have h5 := sumL_take ps i hi
  rw [hpe] at h5
  rw [h3, units_append, units_cons, List.getElem?_append_right (by omega), List.getElem?_append_left (by rw [List.length_replicate]; omega), List.getElem?_replicate, if_pos (by omega)]
end Go.Proofs.YtafclpmnpamipaaGreat

/- What the functions of package road answer for a road that is not as defined. -/
namespace Go.Proofs.YtafclpmnpamipaaGreat
open Go.RowKit Go.Shelf Go.Sort Go.Proofs

set_option maxRecDepth 100000 in
set_option maxHeartbeats 4000000 in
theorem Length_bad  (pa : Option Addr) (pn pc : Nat) (ca : Option Addr) (cn cc : Nat) (ja : Option Addr) (jn jc : Nat) (R : Road) (w : World) (h : RD w w.heap.size pa pn ca cn ja jn R) (hbad : ¬ OK R) :
    Calls Tryz.prog 25 #[.agg #[.slice pa pn pc, .slice ca cn cc, .slice ja jn jc]] w fun e w' => e = .returned (.tuple #[.int .i64 0, .int .i64 2]) ∧ Below w.heap.size w w' := by
  have hR := Lib.hid h
  have hc := Lib.hid (chk_bad hbad)
  clear h hbad
  obtain ⟨w0, hw0⟩ : ∃ w0, w0 = w.alloc (.cells #[.slice pa pn pc, .slice ca cn cc, .slice ja jn jc] 26) := ⟨_, rfl⟩
  have hB0 : Below w.heap.size w w0 := by rw [hw0]; exact (Below.refl w.heap.size w).alloc (Nat.le_refl _) _
  have hX0 : BK w0 (w.heap.size) 26 #[.slice pa pn pc, .slice ca cn cc, .slice ja jn jc] := by rw [hw0]; exact (BK.new w 26 #[.slice pa pn pc, .slice ca cn cc, .slice ja jn jc])
  go_enter Tryz.func25, Tryz.ntmps25
  go_wp2_with fail
  rw [← hw0]
  clear hw0
  refine (Check_any _ _ _ _ _ _ _ _ _ R _ (hR.out.grow hB0 hB0.size)).mono ?_
  rintro e w1 ⟨rfl, hk0⟩
  rw [hc.out]
  have hB1 := hB0.trans (hk0.mono hB0.size)
  go_wp2_with fail
  go_ret2
  exact ⟨rfl, hB1⟩
end Go.Proofs.YtafclpmnpamipaaGreat
