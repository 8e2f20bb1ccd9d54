/- Narrowed passings: forward, backward, and what stays in bounds: plain. No program in sight. -/
import Derived.Test.YtijcbfhlhgjedaaDoorPPas
import Derived.Test.YtijcbfhlhgjedaaDoorPHeardP
namespace Go.Proofs.YtijcbfhlhgjedaaDoor
open Go.RowKit Go.Shelf Go.Sort Go.Proofs

def zP : PassR := ⟨0, 0, 0⟩
/-- The passing x behind the passing b. -/
def stepF (Q Mo : Int → Int) (b x : PassR) : PassR := ⟨x.place, max x.early (b.early + (Q x.place - Q b.place)), min x.late (b.late + (Mo x.place - Mo b.place))⟩
/-- The passing x before the passing n. -/
def stepB (Q Mo : Int → Int) (n x : PassR) : PassR := ⟨x.place, max x.early (n.early - (Mo n.place - Mo x.place)), min x.late (n.late - (Q n.place - Q x.place))⟩
/-- The passing before place k of a list. -/
def befP (L : List PassR) (k : Nat) : PassR := if k = 0 then zP else L.getD (k - 1) zP
/-- Behind k rounds forward. -/
def fwd (Q Mo : Int → Int) (ps : List PassR) : Nat → List PassR
  | 0 => ps
  | k + 1 => (fwd Q Mo ps k).set k (stepF Q Mo (befP (fwd Q Mo ps k) k) ((fwd Q Mo ps k).getD k zP))
/-- Behind k rounds backward. -/
def bwd (Q Mo : Int → Int) (ps : List PassR) : Nat → List PassR
  | 0 => ps
  | k + 1 => (bwd Q Mo ps k).set (ps.length - 2 - k) (stepB Q Mo ((bwd Q Mo ps k).getD (ps.length - 1 - k) zP) ((bwd Q Mo ps k).getD (ps.length - 2 - k) zP))
def nrw (Q Mo : Int → Int) (ps : List PassR) : List PassR := bwd Q Mo (fwd Q Mo ps ps.length) (ps.length - 1)
def nrwOk (ps : List PassR) : Bool := ps.all fun x => decide (x.early ≤ x.late)
theorem fwd_len (Q Mo : Int → Int) (ps : List PassR) : ∀ k, (fwd Q Mo ps k).length = ps.length
  | 0 => rfl
  | k + 1 => by rw [fwd, List.length_set, fwd_len Q Mo ps k]
theorem getD_at {L : List PassR} {k : Nat} (h : k < L.length) : L.getD k zP = L[k]'h := by rw [List.getD, List.getElem?_eq_getElem h]; rfl
/-- Every element of a list of passings keeps its place, and something more. -/
structure PKeep (P : PassR → Prop) (ps L : List PassR) : Prop where
  l : L.length = ps.length
  e : ∀ i (h : i < ps.length) (h' : i < L.length), (L[i]'h').place = (ps[i]'h).place ∧ P (L[i]'h')
theorem PKeep.set {P : PassR → Prop} {ps L : List PassR} (h : PKeep P ps L) {k : Nat} {y : PassR} (hy : ∀ hk : k < ps.length, y.place = (ps[k]'hk).place ∧ P y) : PKeep P ps (L.set k y) := by
  refine ⟨by rw [List.length_set]; exact h.l, fun i hi hi' => ?_⟩
  rw [List.getElem_set]
  by_cases he : k = i
  · subst he
    rw [if_pos rfl]
    exact hy hi
  · rw [if_neg he]
    exact h.e i hi (by rw [h.l]; exact hi)
/-- What the sums of times satisfy on the places that occur. -/
structure QM (n T : Int) (Q Mo : Int → Int) : Prop where
  z : Q 0 = 0 ∧ Mo 0 = 0
  q : ∀ a b, 0 ≤ a → a ≤ b → b ≤ n → Q a ≤ Q b ∧ Q b - Q a ≤ Mo b - Mo a
  t : ∀ a, 0 ≤ a → a ≤ n → 0 ≤ Q a ∧ Q a ≤ T ∧ 0 ≤ Mo a ∧ Mo a ≤ T
theorem qm_of {S : Spd} {R : Road} (hS : SOK S) (hv : OK R) : QM (sumL R.ps) 1000070000000 (qS S R) (sS S R) := by
  refine ⟨⟨tQ_zero S R.ps, tSl_zero S R.ps⟩, fun a b ha hab hb => ?_, fun a ha hb => ?_⟩
  · have hr := runV_runs hS hv (N := (sumL R.ps).toNat) (by omega) []
    have h1 := hr.at_ (a := a.toNat) (b := b.toNat) (by omega) (by omega)
    have h2 := tQ_up hS hv (a := a.toNat) (b := b.toNat) (by omega) (by omega)
    unfold qS sS
    omega
  · have h1 := tQ_bd hS hv a.toNat
    have h2 := tSl_bd hS hv a.toNat
    unfold qS sS
    omega
theorem pok_at {n : Int} {ps : List PassR} (h : POK n ps) {i : Nat} (hi : i < ps.length) : (0 ≤ (ps[i]'hi).place ∧ (ps[i]'hi).place ≤ n) ∧ 0 ≤ (ps[i]'hi).early ∧ (ps[i]'hi).early ≤ (ps[i]'hi).late ∧ (ps[i]'hi).late ≤ maxM := by
  obtain ⟨h1, h2, h3, h4, -⟩ := h.k i hi _ (List.getElem?_eq_getElem hi)
  simp only [inR, Bool.and_eq_true, decide_eq_true_eq] at h1
  exact ⟨h1, h2, h3, h4⟩
theorem pok_lt {n : Int} {ps : List PassR} (h : POK n ps) {i : Nat} (hi : i + 1 < ps.length) : (ps[i]'(by omega)).place < (ps[i + 1]'hi).place := by
  obtain ⟨-, -, -, -, h5⟩ := h.k (i + 1) hi _ (List.getElem?_eq_getElem hi)
  exact h5 _ (by omega) (by rw [Nat.add_sub_cancel]; exact List.getElem?_eq_getElem (by omega))
/-- The bounds of a passing that is being narrowed. -/
def bdF (_T : Int) (Q : Int → Int) (x : PassR) : Prop := 0 ≤ x.early ∧ x.early ≤ maxM + Q x.place ∧ 0 ≤ x.late ∧ x.late ≤ maxM
def bdB2 (T : Int) (Q : Int → Int) (x : PassR) : Prop := 0 ≤ x.early ∧ x.early ≤ maxM + T ∧ Q x.place - T ≤ x.late ∧ x.late ≤ maxM
theorem bef_place {P : PassR → Prop} {ps L : List PassR} (hk : PKeep P ps L) {k : Nat} (h : k < ps.length) : (k = 0 ∧ befP L k = zP) ∨ (∃ (h1 : k - 1 < ps.length) (h2 : k - 1 < L.length), 0 < k ∧ befP L k = L[k - 1]'h2 ∧ (befP L k).place = (ps[k - 1]'h1).place ∧ P (befP L k)) := by
  unfold befP
  rcases Nat.eq_zero_or_pos k with h0 | h0
  · exact .inl ⟨h0, if_pos h0⟩
  · have h2 : k - 1 < L.length := by rw [hk.l]; omega
    rw [if_neg (by omega), getD_at h2]
    exact .inr ⟨by omega, h2, h0, rfl, hk.e (k - 1) (by omega) h2⟩
theorem fwd_keep {n T : Int} {Q Mo : Int → Int} (hq : QM n T Q Mo) {ps : List PassR} (hp : POK n ps) : ∀ k, k ≤ ps.length → PKeep (bdF T Q) ps (fwd Q Mo ps k)
  | 0, _ => ⟨rfl, fun i h _ => ⟨rfl, by
      obtain ⟨h1, h2, h3, h4⟩ := pok_at hp h
      have := hq.t _ h1.1 h1.2
      simp only [fwd]
      exact ⟨h2, by omega, by omega, h4⟩⟩⟩
  | k + 1, hk => by
    have ih := fwd_keep hq hp k (by omega)
    rw [fwd]
    refine ih.set fun hkl => ?_
    have hl : k < (fwd Q Mo ps k).length := by rw [ih.l]; exact hkl
    rw [getD_at hl]
    obtain ⟨e1, e2, e3, e4, e5⟩ := ih.e k hkl hl
    obtain ⟨p1, -⟩ := pok_at hp hkl
    generalize (fwd Q Mo ps k)[k]'hl = x at *
    have hT := hq.t _ p1.1 p1.2
    rw [← e1] at p1 hT
    rcases bef_place ih hkl with ⟨h0, hb⟩ | ⟨h1, h2, h0, -, hb, q1, q2, q3, q4⟩
    · rw [hb]
      refine ⟨e1, ?_⟩
      have hz := hq.z
      simp only [stepF, bdF, zP]
      omega
    · have hlt := pok_lt hp (i := k - 1) (by omega)
      have hpp := (pok_at hp h1).1
      simp only [show k - 1 + 1 = k by omega] at hlt
      rw [← e1, ← hb] at hlt
      rw [← hb] at hpp
      generalize befP (fwd Q Mo ps k) k = b at *
      have h5 := hq.q b.place x.place hpp.1 (by omega) p1.2
      refine ⟨e1, ?_⟩
      simp only [stepF, bdF]
      omega
theorem bwd_keep {n T : Int} {Q Mo : Int → Int} (hq : QM n T Q Mo) {ps L : List PassR} (hp : POK n ps) (hL : PKeep (bdF T Q) ps L) : ∀ k, k + 1 ≤ ps.length → PKeep (bdB2 T Q) ps (bwd Q Mo L k)
  | 0, _ => ⟨hL.l, fun i h h' => by
      obtain ⟨e1, e2, e3, e4, e5⟩ := hL.e i h h'
      obtain ⟨p1, -⟩ := pok_at hp h
      have hT := hq.t _ p1.1 p1.2
      refine ⟨e1, ?_⟩
      simp only [bwd]
      rw [← e1] at hT
      exact ⟨e2, by omega, by omega, e5⟩⟩
  | k + 1, hk => by
    have ih := bwd_keep hq hp hL k (by omega)
    rw [bwd]
    refine ih.set fun hkl => ?_
    have hl : L.length - 2 - k < (bwd Q Mo L k).length := by rw [ih.l, hL.l]; omega
    have hl2 : L.length - 1 - k < (bwd Q Mo L k).length := by rw [ih.l, hL.l]; omega
    rw [getD_at hl, getD_at hl2]
    obtain ⟨e1, e2, e3, e4, e5⟩ := ih.e (L.length - 2 - k) hkl hl
    obtain ⟨f1, f2, f3, f4, f5⟩ := ih.e (L.length - 1 - k) (by rw [hL.l]; omega) hl2
    have hlt := pok_lt hp (i := L.length - 2 - k) (by rw [hL.l]; omega)
    obtain ⟨p1, -⟩ := pok_at hp hkl
    obtain ⟨p2, -⟩ := pok_at hp (i := L.length - 1 - k) (by rw [hL.l]; omega)
    have hi : L.length - 2 - k + 1 = L.length - 1 - k := by rw [hL.l]; omega
    simp only [hi] at hlt
    rw [← e1] at p1 hlt
    rw [← f1] at p2 hlt
    generalize (bwd Q Mo L k)[L.length - 2 - k]'hl = x at *
    generalize (bwd Q Mo L k)[L.length - 1 - k]'hl2 = y at *
    have h5 := hq.q x.place y.place p1.1 (by omega) p2.2
    refine ⟨e1, ?_⟩
    simp only [stepB, bdB2]
    omega
end Go.Proofs.YtijcbfhlhgjedaaDoor
