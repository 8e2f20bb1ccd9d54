/- Speeds that are narrower: as defined, and no meter's least time is less, nor its most time more: plain. No program in sight. -/
import Derived.Test.YtijcbfhlhgjedaaDoorLate3
namespace Go.Proofs.YtijcbfhlhgjedaaDoor
open Go.RowKit Go.Shelf Go.Sort Go.Proofs

/-- A row of speeds with less play. -/
def narR (x : SpRow) : SpRow := ⟨x.rad, (x.least + x.most) / 2, (x.least + x.most + 1) / 2⟩
/-- Speeds with less play. -/
def narS (S : Spd) : Spd := ⟨(S.least + S.most) / 2, (S.least + S.most + 1) / 2, S.rows.map narR, S.surf⟩
theorem nar_bd {l m : Int} (h : bdB l m = true) : bdB ((l + m) / 2) ((l + m + 1) / 2) = true ∧ l ≤ (l + m) / 2 ∧ (l + m + 1) / 2 ≤ m := by
  rw [bdB_iff] at h ⊢
  omega
theorem nar_ok {S : Spd} (h : SOK S) : SOK (narS S) := by
  refine ⟨(nar_bd h.b).1, by simp [narS]; have := h.r1; omega, by simp [narS]; exact h.r2, h.s9, ?_, ?_, h.sk⟩
  · intro r hr
    simp only [narS, List.getElem?_map, Option.map_eq_some_iff] at hr
    obtain ⟨x, hx, rfl⟩ := hr
    exact h.r0 x hx
  · intro i hi r hr
    simp only [narS, List.getElem?_map, Option.map_eq_some_iff, List.length_map] at hi hr
    obtain ⟨x, hx, rfl⟩ := hr
    obtain ⟨h1, h2, h3⟩ := h.rk i hi x hx
    refine ⟨(nar_bd h1).1, h2, fun q h0 hq => ?_⟩
    simp only [narS, List.getElem?_map, Option.map_eq_some_iff] at hq
    obtain ⟨y, hy, rfl⟩ := hq
    exact h3 y h0 hy
theorem rowF_nar (r : Int) : ∀ (rs : List SpRow) (o : Option SpRow), (rs.map narR).foldl (fun o x => if x.rad ≤ r then some x else o) (o.map narR) = (rs.foldl (fun o x => if x.rad ≤ r then some x else o) o).map narR
  | [], o => rfl
  | x :: rs, o => by
    rw [List.map_cons, List.foldl_cons, List.foldl_cons]
    by_cases h : x.rad ≤ r
    · rw [if_pos h, if_pos (show (narR x).rad ≤ r from h)]
      exact rowF_nar r rs (some x)
    · rw [if_neg h, if_neg (show ¬ (narR x).rad ≤ r from h)]
      exact rowF_nar r rs o
theorem rowS_nar (S : Spd) (p : Piece) : rowS (narS S) p = (((rowS S p).1 + (rowS S p).2) / 2, ((rowS S p).1 + (rowS S p).2 + 1) / 2) := by
  have hf : rowF (narS S).rows p.rad = (rowF S.rows p.rad).map narR := rowF_nar p.rad S.rows none
  unfold rowS
  by_cases ht : p.turn = 0
  · rw [if_pos ht, if_pos ht]
    rfl
  · rw [if_neg ht, if_neg ht, hf]
    cases rowF S.rows p.rad with
    | none => rfl
    | some x => rfl
theorem div_le_div {N d e : Int} (hN : 0 ≤ N) (he : 1 ≤ e) (h : e ≤ d) : N / d ≤ N / e := by
  refine (Int.le_ediv_iff_mul_le (by omega)).2 ?_
  have h3 : N / d * e ≤ N / d * d := Int.mul_le_mul_of_nonneg_left h (Int.ediv_nonneg hN (by omega))
  have h4 := Int.ediv_mul_le N (show d ≠ 0 by omega)
  omega
theorem up_div {N l : Int} (hl : 1 ≤ l) : (N + l - 1) / l = (N - 1) / l + 1 := by
  have h := Int.add_mul_ediv_right (N - 1) 1 (show l ≠ 0 by omega)
  rw [← h]
  congr 1
  omega
theorem m_nar {S : Spd} (hS : SOK S) {p : Piece} (hp : pOk p = true) : mQ S p ≤ mQ (narS S) p ∧ mSl (narS S) p ≤ mSl S p := by
  obtain ⟨a1, a2, a3⟩ := rowS_bd hS p
  obtain ⟨b1, b2⟩ := surS_bd hS hp
  have hr := rowS_nar S p
  have hs : surS (narS S) p = surS S p := rfl
  unfold mQ mSl
  rw [hs, hr]
  dsimp only
  generalize surS S p = s at *
  generalize (rowS S p).1 = l at *
  generalize (rowS S p).2 = m at *
  constructor
  · have h1 : (l + m + 1) / 2 * s ≤ m * s := Int.mul_le_mul_of_nonneg_right (by omega) (by omega)
    have h0 : 1 * 1 ≤ (l + m + 1) / 2 * s := Int.mul_le_mul (by omega) b1 (by omega) (by omega)
    exact div_le_div (by omega) (by omega) (by omega)
  · have h1 : l * s ≤ (l + m) / 2 * s := Int.mul_le_mul_of_nonneg_right (by omega) (by omega)
    rw [up_div (by omega), up_div (by omega)]
    have := div_le_div (N := 10000000 - 1) (d := max 1 ((l + m) / 2 * s / 100)) (e := max 1 (l * s / 100)) (by omega) (by omega) (by omega)
    omega
/-- Between any two places. -/
theorem t_nar {S : Spd} {R : Road} (hS : SOK S) (hv : OK R) {a : Nat} : ∀ d : Nat, ((a + d : Nat) : Int) ≤ sumL R.ps →
    tQ S R.ps (a + d) - tQ S R.ps a ≤ tQ (narS S) R.ps (a + d) - tQ (narS S) R.ps a ∧ tSl (narS S) R.ps (a + d) - tSl (narS S) R.ps a ≤ tSl S R.ps (a + d) - tSl S R.ps a
  | 0, _ => by simp
  | d + 1, h => by
    obtain ⟨p, hp, h1, _⟩ := meter_at hS hv (k := a + d) (by omega)
    have h4 := t_nar hS hv (a := a) d (by omega)
    have h5 := m_nar hS hp
    rw [← Nat.add_assoc, tQ_succ S R.ps h1, tSl_succ S R.ps h1, tQ_succ (narS S) R.ps h1, tSl_succ (narS S) R.ps h1]
    rw [mQ_one, mSl_one, mQ_one, mSl_one]
    omega
/-- A good plan stays good under narrower speeds. -/
theorem good_nar {S : Spd} {R : Road} {cs : List CallR} {ls : List Int} (hS : SOK S) (hv : OK R) (hc : COK (sumL R.ps) cs) (ht : TOK (sumL R.ps) cs.length ls) (h : ∀ j, j < cs.length → goodAt S R cs ls j = true) : goodM (qS (narS S) R) (sS (narS S) R) cs ls = true :=
  goodM_true (nar_ok hS) hv hc ht fun j hj => good_keeps hc ht rfl (fun _ _ _ => ⟨rfl, rfl, rfl, Int.le_refl _⟩)
    (fun a b hab hb => by
      have := t_nar hS hv (a := a) (b - a) (by omega)
      rwa [show a + (b - a) = b by omega] at this) hj (h j hj)
/-- A call that lasts less long. -/
def lessC (less : Int) (c : CallR) : CallR := ⟨c.place, max 0 (c.lasts - less), c.lead, c.ahead, c.value⟩
theorem less_ok {n : Int} {cs : List CallR} (hc : COK n cs) {less : Int} (hl : 0 ≤ less) : COK n (cs.map (lessC less)) := by
  refine ⟨by rw [List.length_map]; exact hc.l1, fun i hi c hci => ?_⟩
  simp only [List.getElem?_map, Option.map_eq_some_iff, List.length_map] at hi hci
  obtain ⟨x, hx, rfl⟩ := hci
  obtain ⟨h1, h2, h3, h4, h5, h6⟩ := hc.k i hi x hx
  refine ⟨h1, ?_, h3, h4, h5, fun d h0 hd => ?_⟩
  · show inR (max 0 (x.lasts - less)) 0 maxM = true
    have hM : maxM = 1125899906842624 := rfl
    rw [hM] at h2 ⊢
    simp only [inR, Bool.and_eq_true, decide_eq_true_eq] at h2 ⊢
    omega
  · simp only [List.getElem?_map, Option.map_eq_some_iff] at hd
    obtain ⟨y, hy, rfl⟩ := hd
    exact h6 y h0 hy
theorem good_less {S : Spd} {R : Road} {cs : List CallR} {ls : List Int} (hS : SOK S) (hv : OK R) (hc : COK (sumL R.ps) cs) (ht : TOK (sumL R.ps) cs.length ls) {less : Int} (hl : 0 ≤ less) (h : ∀ j, j < cs.length → goodAt S R cs ls j = true) : goodM (qS S R) (sS S R) (cs.map (lessC less)) ls = true := by
  have ht2 : TOK (sumL R.ps) (cs.map (lessC less)).length ls := by rw [List.length_map]; exact ht
  refine goodM_true hS hv (less_ok hc hl) ht2 fun j hj => ?_
  rw [List.length_map] at hj
  refine good_keeps hc ht (by rw [List.length_map]) (fun i hi hi' => ?_) (fun a b hab hb => ⟨Int.le_refl _, Int.le_refl _⟩) hj (h j hj)
  rw [List.getElem_map]
  refine ⟨rfl, rfl, rfl, ?_⟩
  have := (hc.k i hi _ (List.getElem?_eq_getElem hi)).2.1
  simp only [inR, Bool.and_eq_true, decide_eq_true_eq] at this
  show max 0 ((cs[i]'hi).lasts - less) ≤ (cs[i]'hi).lasts
  omega
end Go.Proofs.YtijcbfhlhgjedaaDoor
