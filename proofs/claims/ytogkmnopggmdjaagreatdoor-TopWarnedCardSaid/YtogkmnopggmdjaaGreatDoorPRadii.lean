/- The radii that a grade means. -/
import Derived.Test.YtogkmnopggmdjaaGreatDoorPTStab
import Derived.Test.YtogkmnopggmdjaaGreatDoorPNList
import Derived.Test.YtogkmnopggmdjaaGreatDoorPMake
import Derived.Test.YtogkmnopggmdjaaGreatDoorPRMan
import Derived.Test.YtogkmnopggmdjaaGreatDoorPSpCk
import Derived.Test.YtogkmnopggmdjaaGreatDoorPUThg
namespace Go.Proofs.YtogkmnopggmdjaaGreatDoor
open Go.RowKit Go.Shelf Go.Sort Go.Proofs

def radLo (b : BkR) (g : Int) : Int := if 1 < g then b.gs.getD (g - 2).toNat 0 else 5
def radHi (b : BkR) (g : Int) : Int := if g ≤ (b.gs.length : Nat) then b.gs.getD (g - 1).toNat 0 - 1 else 2000
def radIn (b : BkR) (g : Int) : Bool := decide (1 ≤ g) && decide (g ≤ (b.gs.length : Nat) + 1)
/-- The radii of a grade; none. -/
def radI (b : BkR) (g : Int) : Int × Int × Bool := if radIn b g then (radLo b g, radHi b g, true) else (0, 0, false)
end Go.Proofs.YtogkmnopggmdjaaGreatDoor

/- The meaning of a note. Printed by genmean.py. -/
namespace Go.Proofs.YtogkmnopggmdjaaGreatDoor
open Go.RowKit Go.Shelf Go.Sort Go.Proofs

/-- The meaning of a corner's note. -/
structure MeanR where
  fr : Int
  to_ : Int
  lt : Int
  la : Int
  an : Int
  mo : Int
def latR (b : BkR) (nt : NoteR) : Int × Int × Bool := if nt.ch = 0 then (0, 0, true) else radI b nt.ton
def angM (b : BkR) (l : Int) : Int := if l = -1 then 0 else if l = 0 then b.sh else b.lo
def mosM (b : BkR) (l : Int) : Int := if l = -1 then b.sh - 1 else if l = 0 then b.lo - 1 else 10000
/-- The meaning; none. -/
def meanN (b : BkR) (nt : NoteR) : Option MeanR :=
  if (radI b nt.gr).2.2 && (latR b nt).2.2 then some ⟨(radI b nt.gr).1, (radI b nt.gr).2.1, (latR b nt).1, (latR b nt).2.1, angM b nt.lo, mosM b nt.lo⟩ else none
theorem BK.t6 {w : World} {g : Nat} {t : TypeId} {v0 v1 v2 v3 v4 v5 : Value} (h : BK w g t #[v0, v1, v2, v3, v4, v5]) :
    w.cell? ⟨g, 0, none⟩ = some v0 ∧ w.cell? ⟨g, 1, none⟩ = some v1 ∧ w.cell? ⟨g, 2, none⟩ = some v2 ∧ w.cell? ⟨g, 3, none⟩ = some v3 ∧ w.cell? ⟨g, 4, none⟩ = some v4 ∧ w.cell? ⟨g, 5, none⟩ = some v5 := by
  have c0 := h.cell 0
  have c1 := h.cell 1
  have c2 := h.cell 2
  have c3 := h.cell 3
  have c4 := h.cell 4
  have c5 := h.cell 5
  simp only [List.getElem?_toArray, List.getElem?_cons_zero, List.getElem?_cons_succ] at c0 c1 c2 c3 c4 c5
  exact ⟨c0, c1, c2, c3, c4, c5⟩
end Go.Proofs.YtogkmnopggmdjaaGreatDoor

/- Grades, plain: each radius has one grade whose meaning contains it; a greater radius never has a less one. -/
namespace Go.Proofs.YtogkmnopggmdjaaGreatDoor

theorem cnt_iff : ∀ (l : List Int) (x : Int), l.Pairwise (· < ·) → ∀ k (hk : k < l.length), l[k] ≤ x ↔ k < l.countP (fun g => decide (g ≤ x))
  | [], _, _, k, hk => by simp at hk
  | a :: l, x, h, k, hk => by
    obtain ⟨h1, h2⟩ := List.pairwise_cons.1 h
    have ih := cnt_iff l x h2
    rw [List.countP_cons]
    by_cases ha : a ≤ x
    · rw [if_pos (decide_eq_true ha)]
      cases k with
      | zero => simp [ha]
      | succ k =>
        have := ih k (by simpa using hk)
        rw [List.getElem_cons_succ, this]
        omega
    · have h0 : l.countP (fun g => decide (g ≤ x)) = 0 := by
        rw [List.countP_eq_zero]
        intro y hy
        have := h1 y hy
        simp
        omega
      rw [if_neg (by simpa using ha), h0]
      cases k with
      | zero => simp [ha]
      | succ k =>
        have hk' : k < l.length := by simpa using hk
        have := h1 l[k] (List.getElem_mem hk')
        rw [List.getElem_cons_succ]
        omega
theorem gradeI_rng (b : BkR) (x : Int) : 1 ≤ gradeI b x ∧ gradeI b x ≤ (b.gs.length : Nat) + 1 := by
  unfold gradeI
  have : b.gs.countP (fun g => decide (g ≤ x)) ≤ b.gs.length := List.countP_le_length
  omega
/-- A radius lies within the radii of a grade exactly if it has that grade. -/
theorem grade_iff {b : BkR} (hv : BkOK b) {x : Int} (h5 : 5 ≤ x) (h2 : x ≤ 2000) {g : Nat} (h1 : 1 ≤ g) (hg : g ≤ b.gs.length + 1) : (radLo b g ≤ x ∧ x ≤ radHi b g) ↔ gradeI b x = g := by
  have hc : b.gs.countP (fun g => decide (g ≤ x)) ≤ b.gs.length := List.countP_le_length
  have hi := cnt_iff b.gs x hv.inc
  have hL : radLo b g ≤ x ↔ (1 < g → g - 2 < b.gs.countP (fun g => decide (g ≤ x))) := by
    unfold radLo
    by_cases e : 1 < g
    · rw [if_pos (by omega), show ((g : Int) - 2).toNat = g - 2 by omega, List.getD_eq_getElem?_getD, List.getElem?_eq_getElem (by omega)]
      rw [Option.getD_some, hi (g - 2) (by omega)]
      simp [e]
    · rw [if_neg (by omega)]
      simp [e, h5]
  have hH : x ≤ radHi b g ↔ (g ≤ b.gs.length → ¬ g - 1 < b.gs.countP (fun g => decide (g ≤ x))) := by
    unfold radHi
    by_cases e : g ≤ b.gs.length
    · rw [if_pos (by omega), show ((g : Int) - 1).toNat = g - 1 by omega, List.getD_eq_getElem?_getD, List.getElem?_eq_getElem (by omega)]
      rw [Option.getD_some, ← hi (g - 1) (by omega)]
      simp only [e, true_implies]
      omega
    · rw [if_neg (by omega)]
      simp [e, h2]
  rw [hL, hH]
  unfold gradeI
  constructor
  · rintro ⟨a1, a2⟩
    by_cases e1 : 1 < g <;> by_cases e2 : g ≤ b.gs.length
    · have := a1 e1; have := a2 e2; omega
    · have := a1 e1; omega
    · have := a2 e2; omega
    · omega
  · intro e
    exact ⟨fun _ => by omega, fun _ => by omega⟩
end Go.Proofs.YtogkmnopggmdjaaGreatDoor

/- What the notes of a road tell, plain: its corners, crests and junctions, in order; every note is as defined. No program in sight. -/
namespace Go.Proofs.YtogkmnopggmdjaaGreatDoor
open Go.RowKit Go.Shelf Go.Sort Go.Proofs

section
variable {α : Type} (key : α → Int) (p : α → Bool)
end
theorem cornN_k (b : BkR) (k : Corner) : (cornN b k).k = 1 := by
  unfold cornN
  split
  · rfl
  · split <;> rfl
theorem linkN_k {b : BkR} {d : Int} {f : Bool} {n : NoteR} (h : linkN b d f = some n) : n.k = 2 ∨ n.k = 3 ∨ n.k = 4 := by
  unfold linkN at h
  split at h
  · cases h; exact .inl rfl
  · split at h
    · cases h
    · split at h
      · cases h; exact .inr (.inr rfl)
      · cases h; exact .inr (.inl rfl)
theorem minR_ge {a : Int} : ∀ (g : List Bd) (b : Int), a ≤ b → (∀ e ∈ g, a ≤ e.2.rad) → a ≤ g.foldl (fun r e => min r e.2.rad) b
  | [], b, h, _ => h
  | e :: g, b, h, hg => by
    rw [List.foldl_cons]
    have := hg e (List.mem_cons_self ..)
    exact minR_ge g _ (by omega) (fun d hd => hg d (List.mem_cons_of_mem _ hd))
theorem crn_rad {R : Road} (hv : OK R) {gap least : Int} {c : Corner} (h : c ∈ crns gap least R) : 5 ≤ c.rad ∧ c.rad ≤ 2000 := by
  have h1 := crn_fine hv h
  have h2 := (crn_rads hv h).1.2
  refine ⟨?_, by have := h1.inn; omega⟩
  obtain ⟨g, hg, rfl⟩ := List.mem_map.1 (List.mem_filter.1 h).1
  have hb : ∀ e ∈ g, 5 ≤ e.2.rad := fun e he => by
    have hm := bds_mem hv (grp_mem hg he)
    exact ((pOk_tOk hm.2.1).2.2 hm.2.2).1
  obtain ⟨x, gt, gi, y, e0, e1⟩ := ends (grp_ne _ _ g hg)
  rw [crn_of e0 e1]
  exact minR_ge g _ (hb y (by rw [e1]; simp)) hb
theorem radI_of {b : BkR} {g : Int} (h1 : 1 ≤ g) (h2 : g ≤ (b.gs.length : Nat) + 1) : radI b g = (radLo b g, radHi b g, true) := by
  unfold radI radIn
  rw [if_pos]
  simp
  omega
/-- The note of a corner is as defined, and means what the corner is. -/
theorem corn_tell {b : BkR} (hb : BkOK b) {R : Road} (hv : OK R) {c : Corner} (h : c ∈ crns b.ga b.le R) : nVal (cornN b c) = true ∧ (cornN b c).tu = c.turn ∧
    ∃ m, meanN b (cornN b c) = some m ∧ m.an ≤ c.ang ∧ (m.mo < 10000 → c.ang ≤ m.mo) ∧ ((cornN b c).ch = 0 → m.fr ≤ c.rad ∧ c.rad ≤ m.to_) := by
  have hf := crn_fine hv h
  have hr := crn_rad hv h
  have g1 := gradeI_rng b c.inn
  have g2 := gradeI_rng b c.out
  have g3 := gradeI_rng b c.rad
  have h8 := hb.n8
  have hs := hf.side
  have ha := hf.ang
  have hle := hb.le1
  have hl : -1 ≤ lngI b c.ang ∧ lngI b c.ang ≤ 1 := by
    unfold lngI
    split
    · omega
    · split <;> omega
  have hA : angM b (lngI b c.ang) ≤ c.ang ∧ (mosM b (lngI b c.ang) < 10000 → c.ang ≤ mosM b (lngI b c.ang)) := by
    unfold angM mosM lngI
    by_cases a1 : c.ang < b.sh
    · rw [if_pos a1, if_pos rfl, if_pos rfl]
      omega
    · rw [if_neg a1]
      by_cases a2 : b.lo ≤ c.ang
      · rw [if_pos a2, if_neg (by decide), if_neg (by decide), if_neg (by decide), if_neg (by decide)]
        omega
      · rw [if_neg a2, if_neg (by decide), if_pos rfl, if_neg (by decide), if_pos rfl]
        omega
  have r1 := radI_of g1.1 g1.2
  have r2 := radI_of g2.1 g2.2
  have r3 := radI_of g3.1 g3.2
  unfold cornN
  split
  · rename_i hc
    refine ⟨(nVal1 ..).2 ⟨⟨by omega, by omega, hl, .inr (.inr ⟨rfl, by omega, by omega⟩)⟩, rfl, rfl, rfl, rfl⟩, rfl, ?_⟩
    refine ⟨⟨radLo b (gradeI b c.inn), radHi b (gradeI b c.inn), radLo b (gradeI b c.out), radHi b (gradeI b c.out), angM b (lngI b c.ang), mosM b (lngI b c.ang)⟩, ?_, hA.1, hA.2, fun q => absurd q (by show ¬ (_ : Int) = 0; simp)⟩
    have hL : latR b ⟨1, c.turn, gradeI b c.inn, lngI b c.ang, 1, gradeI b c.out, 0, 0, 0, 0⟩ = radI b (gradeI b c.out) := by
      unfold latR
      exact if_neg (by simp)
    unfold meanN
    rw [hL]
    simp only
    rw [r1, r2]
    rfl
  · split
    · rename_i hc
      refine ⟨(nVal1 ..).2 ⟨⟨by omega, by omega, hl, .inr (.inl ⟨rfl, by omega, by omega⟩)⟩, rfl, rfl, rfl, rfl⟩, rfl, ?_⟩
      refine ⟨⟨radLo b (gradeI b c.inn), radHi b (gradeI b c.inn), radLo b (gradeI b c.out), radHi b (gradeI b c.out), angM b (lngI b c.ang), mosM b (lngI b c.ang)⟩, ?_, hA.1, hA.2, fun q => absurd q (by show ¬ (_ : Int) = 0; simp)⟩
      have hL : latR b ⟨1, c.turn, gradeI b c.inn, lngI b c.ang, -1, gradeI b c.out, 0, 0, 0, 0⟩ = radI b (gradeI b c.out) := by
        unfold latR
        exact if_neg (by simp)
      unfold meanN
      rw [hL]
      simp only
      rw [r1, r2]
      rfl
    · refine ⟨(nVal1 ..).2 ⟨⟨by omega, by omega, hl, .inl ⟨rfl, rfl⟩⟩, rfl, rfl, rfl, rfl⟩, rfl, ?_⟩
      refine ⟨⟨radLo b (gradeI b c.rad), radHi b (gradeI b c.rad), 0, 0, angM b (lngI b c.ang), mosM b (lngI b c.ang)⟩, ?_, hA.1, hA.2, fun _ => ?_⟩
      · have hL : latR b ⟨1, c.turn, gradeI b c.rad, lngI b c.ang, 0, 0, 0, 0, 0, 0⟩ = (0, 0, true) := rfl
        unfold meanN
        rw [hL]
        simp only
        rw [r3]
        rfl
      · obtain ⟨g, hg⟩ : ∃ g : Nat, gradeI b c.rad = g := ⟨(gradeI b c.rad).toNat, by omega⟩
        have := (grade_iff hb hr.1 hr.2 (g := g) (by omega) (by omega)).2 hg
        rw [hg]
        exact this
theorem metI_rng {b : BkR} (hb : BkOK b) (d : Int) : 1 ≤ metI b d ∧ metI b d ≤ 9999 := by
  unfold metI
  have := hb.st1
  omega
theorem mkL_mem (b : BkR) (P : NoteR → Prop) (hl : ∀ d f n, linkN b d f = some n → P n) : ∀ (ts : List ThR) (e : Int) (f : Bool), (∀ t ∈ ts, P t.nt) → ∀ n ∈ mkL b e f ts, P n
  | [], e, f, _, n, h => by rw [mkL] at h; cases h
  | t :: r, e, f, ht, n, h => by
    rw [mkL] at h
    rcases List.mem_append.1 h with h | h
    · exact hl _ _ _ (by simpa using h)
    · rcases List.mem_cons.1 h with rfl | h
      · exact ht t (List.mem_cons_self ..)
      · exact mkL_mem b P hl r _ _ (fun q hq => ht q (List.mem_cons_of_mem _ hq)) n h
/-- The notes of a road are as defined. -/
theorem makeL_val {b : BkR} (hb : BkOK b) {R : Road} (hv : OK R) : ∀ n ∈ makeL b R, nVal n = true := by
  unfold makeL
  refine mkL_mem b _ (fun d f n h => ?_) _ _ _ (fun t ht => ?_)
  · have hm := metI_rng hb d
    unfold linkN at h
    split at h
    · cases h; exact (nVal2 ..).2 ⟨⟨rfl, rfl, rfl, rfl, rfl⟩, hm.1, hm.2, rfl, rfl, rfl⟩
    · split at h
      · cases h
      · split at h
        · cases h; rfl
        · cases h; rfl
  · rcases List.mem_append.1 (ssort_mem _ _ ht) with h | h
    · obtain ⟨j, hj, rfl⟩ := List.mem_map.1 h
      obtain ⟨i, hi, rfl⟩ := List.getElem_of_mem hj
      have h1 := hv.jk i hi _ (List.getElem?_eq_getElem hi)
      simp only [inR, Bool.and_eq_true, decide_eq_true_eq] at h1
      show nVal ⟨7, 0, 0, 0, 0, 0, 0, 0, R.js[i].way, R.js[i].arms⟩ = true
      exact decide_eq_true (by refine ⟨⟨rfl, rfl, rfl, rfl, rfl⟩, rfl, rfl, ?_, ?_, ?_, ?_⟩ <;> dsimp only <;> omega)
    rcases List.mem_append.1 h with h | h
    · obtain ⟨c, hc, rfl⟩ := List.mem_map.1 h
      obtain ⟨i, hi, rfl⟩ := List.getElem_of_mem hc
      have h1 := hv.ck i hi _ (List.getElem?_eq_getElem hi)
      simp only [inR, Bool.and_eq_true, decide_eq_true_eq] at h1
      show nVal ⟨5, 0, 0, 0, 0, 0, 0, R.cs[i].siz, 0, 0⟩ = true
      exact decide_eq_true (by refine ⟨⟨rfl, rfl, rfl, rfl, rfl⟩, rfl, ?_, ?_, ?_, ?_⟩ <;> dsimp only <;> omega)
    · obtain ⟨k, hk, rfl⟩ := List.mem_map.1 h
      exact (corn_tell hb hv hk).1
theorem mkL_len (b : BkR) : ∀ (ts : List ThR) (e : Int) (f : Bool), (mkL b e f ts).length ≤ 2 * ts.length
  | [], e, f => by rw [mkL]; simp
  | t :: r, e, f => by
    have := mkL_len b r (max e t.en) false
    rw [mkL, List.length_append, List.length_cons, List.length_cons]
    have : ((linkN b (max 0 (t.at_ - e)) f).toList).length ≤ 1 := by cases linkN b (max 0 (t.at_ - e)) f <;> simp
    omega
theorem makeL_len {b : BkR} {R : Road} : (makeL b R).length ≤ 2 * (R.js.length + R.cs.length + R.ps.length) := by
  have h1 := mkL_len b (sthings b R) 0 true
  have h2 := crns_len b.ga b.le R
  have h3 : (sthings b R).length = R.js.length + (R.cs.length + (crns b.ga b.le R).length) := by
    rw [sthings_len]
    unfold things
    simp
  unfold makeL
  omega
end Go.Proofs.YtogkmnopggmdjaaGreatDoor

/- The calls of a road, plain: out of its notes, and out of what is noted. No program in sight. -/
namespace Go.Proofs.YtogkmnopggmdjaaGreatDoor
open Go.RowKit Go.Shelf Go.Sort Go.Proofs

/-- What a note is worth; nothing if it is a link. -/
def worthI (n : NoteR) : Int := if n.k = 1 then max 1 (10 - n.gr) else if n.k = 5 then 4 - n.si else if n.k = 7 then 3 else 0
/-- The calls of notes, from the call k on, behind what was said so far. -/
def callsF (ps : List Int) (v l lead ahead : Int) : Nat → Int → List NoteR → List CallR
  | _, _, [] => []
  | k, long, n :: r => if 0 < worthI n then ⟨ps.getD k 0, long + lastS v l (nTxt n), lead, ahead, worthI n⟩ :: callsF ps v l lead ahead (k + 1) 0 r else callsF ps v l lead ahead k (long + lastS v l (nTxt n)) r
def placesL (b : BkR) (R : Road) : List Int := (sthings b R).map ThR.at_
/-- The calls of a road. -/
def callsR (b : BkR) (R : Road) (v l lead ahead : Int) : List CallR := callsF (placesL b R) v l lead ahead 0 0 (makeL b R)
/-- How long notes take. -/
def allS (v l : Int) (ns : List NoteR) : Int := (ns.map fun n => lastS v l (nTxt n)).sum
/-- The calls of what is noted, each with the link ahead of it. -/
def callsT (b : BkR) (v l lead ahead : Int) : Int → Bool → List ThR → List CallR
  | _, _, [] => []
  | e, f, t :: r => ⟨t.at_, allS v l ((linkN b (max 0 (t.at_ - e)) f).toList ++ [t.nt]), lead, ahead, worthI t.nt⟩ :: callsT b v l lead ahead (max e t.en) false r
section
variable (b : BkR) (v l lead ahead : Int)
theorem worth_link {d : Int} {f : Bool} {n : NoteR} (h : linkN b d f = some n) : worthI n = 0 := by
  have := linkN_k h
  unfold worthI
  rw [if_neg (by omega), if_neg (by omega), if_neg (by omega)]
theorem callsF_T (ps : List Int) : ∀ (ts : List ThR) (e : Int) (f : Bool) (k : Nat), (∀ t ∈ ts, 0 < worthI t.nt) → ps.drop k = ts.map ThR.at_ → callsF ps v l lead ahead k 0 (mkL b e f ts) = callsT b v l lead ahead e f ts
  | [], _, _, _, _, _ => by unfold mkL callsF callsT; rfl
  | t :: r, e, f, k, hw, hp => by
    have ih := callsF_T ps r (max e t.en) false (k + 1) (fun x hx => hw x (List.mem_cons_of_mem _ hx)) (by rw [← List.drop_drop, hp]; rfl)
    have hk : ps.getD k 0 = t.at_ := by
      have h1 : (ps.drop k)[0]? = some t.at_ := by rw [hp]; rfl
      rw [List.getElem?_drop, Nat.add_zero] at h1
      rw [List.getD_eq_getElem?_getD, h1]; rfl
    have ht := hw t (List.mem_cons_self ..)
    unfold mkL callsT
    cases hl : linkN b (max 0 (t.at_ - e)) f with
    | none =>
      show callsF ps v l lead ahead k 0 (t.nt :: mkL b (max e t.en) false r) = _
      unfold callsF
      rw [if_pos ht, hk, ih]
      simp [allS]
    | some n =>
      show callsF ps v l lead ahead k 0 (n :: t.nt :: mkL b (max e t.en) false r) = _
      unfold callsF
      rw [if_neg (by rw [worth_link b hl]; decide)]
      unfold callsF
      rw [if_pos ht, hk, ih]
      simp [allS]
theorem callsT_len : ∀ (ts : List ThR) (e : Int) (f : Bool), (callsT b v l lead ahead e f ts).length = ts.length
  | [], _, _ => by unfold callsT; rfl
  | t :: r, e, f => by unfold callsT; rw [List.length_cons, List.length_cons, callsT_len r]
theorem callsT_place : ∀ (ts : List ThR) (e : Int) (f : Bool), (callsT b v l lead ahead e f ts).map CallR.place = ts.map ThR.at_
  | [], _, _ => by unfold callsT; rfl
  | t :: r, e, f => by unfold callsT; rw [List.map_cons, List.map_cons, callsT_place r]
theorem allS_app (xs ys : List NoteR) : allS v l (xs ++ ys) = allS v l xs + allS v l ys := by simp [allS]
theorem callsT_sum : ∀ (ts : List ThR) (e : Int) (f : Bool), ((callsT b v l lead ahead e f ts).map CallR.lasts).sum = allS v l (mkL b e f ts)
  | [], _, _ => by unfold callsT mkL; rfl
  | t :: r, e, f => by
    unfold callsT mkL
    rw [List.map_cons, List.sum_cons, callsT_sum r, show (linkN b (max 0 (t.at_ - e)) f).toList ++ t.nt :: mkL b (max e t.en) false r = ((linkN b (max 0 (t.at_ - e)) f).toList ++ [t.nt]) ++ mkL b (max e t.en) false r by simp]
    exact (allS_app v l _ _).symm
end
theorem worth_thing {b : BkR} {R : Road} (hv : OK R) : ∀ t ∈ things b R, 1 ≤ worthI t.nt ∧ worthI t.nt ≤ 100 ∨ t.nt.k = 1 ∧ 1 ≤ worthI t.nt := by
  intro t ht
  rcases List.mem_append.1 ht with h | h
  · obtain ⟨j, hj, rfl⟩ := List.mem_map.1 h
    exact .inl (by show 1 ≤ worthI ⟨7, 0, 0, 0, 0, 0, 0, 0, _, _⟩ ∧ worthI ⟨7, 0, 0, 0, 0, 0, 0, 0, _, _⟩ ≤ 100; simp [worthI])
  rcases List.mem_append.1 h with h | h
  · obtain ⟨c, hc, rfl⟩ := List.mem_map.1 h
    obtain ⟨i, hi, rfl⟩ := List.getElem_of_mem hc
    have h1 := (hv.ck i hi _ (List.getElem?_eq_getElem hi)).2.1
    simp only [inR, Bool.and_eq_true, decide_eq_true_eq] at h1
    refine .inl ?_
    show 1 ≤ worthI ⟨5, 0, 0, 0, 0, 0, 0, R.cs[i].siz, 0, 0⟩ ∧ worthI ⟨5, 0, 0, 0, 0, 0, 0, R.cs[i].siz, 0, 0⟩ ≤ 100
    simp [worthI]
    omega
  · obtain ⟨k, hk, rfl⟩ := List.mem_map.1 h
    have h1 := cornN_k b k
    refine .inr ⟨h1, ?_⟩
    show 1 ≤ worthI (cornN b k)
    unfold worthI
    rw [if_pos h1]
    omega
theorem insR_mem' {α : Type} (key : α → Int) : ∀ (S : List α) (x z : α), z = x ∨ z ∈ S → z ∈ insR key S x
  | [], x, z, h => by unfold insR; simpa using h
  | y :: S, x, z, h => by
    unfold insR
    split
    · simpa using h
    · rcases h with h | h
      · exact List.mem_cons_of_mem _ (insR_mem' key S x z (.inl h))
      · rcases List.mem_cons.1 h with rfl | h
        · exact List.mem_cons_self ..
        · exact List.mem_cons_of_mem _ (insR_mem' key S x z (.inr h))
theorem ssort_mem' {α : Type} (key : α → Int) {z : α} (l : List α) : z ∈ l → z ∈ ssort key l := by
  induction l using snoc_ind with
  | h0 => exact id
  | h1 l x ih =>
    intro h
    rw [ssort_snoc]
    rcases List.mem_append.1 h with h | h
    · exact insR_mem' key _ _ _ (.inr (ih h))
    · exact insR_mem' key _ _ _ (.inl (by simpa using h))
/-- The calls of a road: out of what is noted. -/
theorem callsR_T {b : BkR} {R : Road} (hv : OK R) (v l lead ahead : Int) : callsR b R v l lead ahead = callsT b v l lead ahead 0 true (sthings b R) := by
  unfold callsR makeL placesL
  exact callsF_T b v l lead ahead _ _ _ _ _ (fun t ht => by rcases worth_thing hv t (ssort_mem _ _ ht) with h | h <;> omega) rfl
theorem callsR_len {b : BkR} {R : Road} (hv : OK R) (v l lead ahead : Int) : (callsR b R v l lead ahead).length = R.js.length + R.cs.length + (crns b.ga b.le R).length := by
  rw [callsR_T hv, callsT_len, sthings_len]
  unfold things
  simp
  omega
theorem callsR_sum {b : BkR} {R : Road} (hv : OK R) (v l lead ahead : Int) : ((callsR b R v l lead ahead).map CallR.lasts).sum = allS v l (makeL b R) := by
  rw [callsR_T hv, callsT_sum]
  rfl
theorem callsR_place {b : BkR} {R : Road} (hv : OK R) (v l lead ahead : Int) : (callsR b R v l lead ahead).map CallR.place = placesL b R := by
  rw [callsR_T hv, callsT_place]
  rfl
/-- Each corner has a call. -/
theorem callsR_corner {b : BkR} {R : Road} (hv : OK R) (v l lead ahead : Int) {c : Corner} (hc : c ∈ crns b.ga b.le R) : ∃ i : Nat, ∃ x : CallR, (callsR b R v l lead ahead)[i]? = some x ∧ x.place = c.fr := by
  have h1 : kTh b c ∈ sthings b R := ssort_mem' _ _ (List.mem_append_right _ (List.mem_append_right _ (List.mem_map_of_mem hc)))
  have h2 : c.fr ∈ (callsR b R v l lead ahead).map CallR.place := by
    rw [callsR_place hv]
    exact List.mem_map.2 ⟨_, h1, rfl⟩
  obtain ⟨x, hx, he⟩ := List.mem_map.1 h2
  obtain ⟨i, hi, rfl⟩ := List.getElem_of_mem hx
  exact ⟨i, _, List.getElem?_eq_getElem hi, he⟩
theorem callsR_lead {b : BkR} {R : Road} (hv : OK R) (v l lead ahead : Int) {x : CallR} (h : x ∈ callsR b R v l lead ahead) : x.lead = lead := by
  rw [callsR_T hv] at h
  generalize (0 : Int) = e at h
  generalize true = f at h
  generalize sthings b R = ts at h
  induction ts generalizing e f with
  | nil => unfold callsT at h; cases h
  | cons t r ih =>
    unfold callsT at h
    rcases List.mem_cons.1 h with rfl | h
    · rfl
    · exact ih _ _ h
theorem sthings_up {b : BkR} {R : Road} : (sthings b R).Pairwise fun x y => x.at_ ≤ y.at_ :=
  (ssort_srt (fun x : ThR => x.pos) (things b R)).imp fun {x y} h => by
    have h1 := x.od.isLt
    have h2 := y.od.isLt
    have h3 : x.pos ≤ y.pos := h
    unfold ThR.pos at h3
    omega
theorem placesL_up {b : BkR} {R : Road} : (placesL b R).Pairwise (· ≤ ·) := by
  unfold placesL
  rw [List.pairwise_map]
  exact sthings_up
theorem things_place {b : BkR} {R : Road} (hv : OK R) : ∀ t ∈ things b R, 0 ≤ t.at_ ∧ t.at_ ≤ sumL R.ps := by
  intro t ht
  rcases List.mem_append.1 ht with h | h
  · obtain ⟨j, hj, rfl⟩ := List.mem_map.1 h
    obtain ⟨i, hi, rfl⟩ := List.getElem_of_mem hj
    have h1 := (hv.jk i hi _ (List.getElem?_eq_getElem hi)).1
    simp only [inR, Bool.and_eq_true, decide_eq_true_eq] at h1
    exact h1
  rcases List.mem_append.1 h with h | h
  · obtain ⟨c, hc, rfl⟩ := List.mem_map.1 h
    obtain ⟨i, hi, rfl⟩ := List.getElem_of_mem hc
    have h1 := (hv.ck i hi _ (List.getElem?_eq_getElem hi)).1
    simp only [inR, Bool.and_eq_true, decide_eq_true_eq] at h1
    exact h1
  · obtain ⟨k, hk, rfl⟩ := List.mem_map.1 h
    have := crn_fine hv hk
    have h1 := this.lt
    have h2 := this.lo
    have h3 := this.hi
    exact ⟨h2, by show k.fr ≤ _; omega⟩
theorem lastS_le {v l : Int} (hv : 0 ≤ v ∧ v ≤ 10000000) (hl : 0 ≤ l ∧ l ≤ 1000000) {n : NoteR} (hn : nVal n = true) : 0 ≤ lastS v l (nTxt n) ∧ lastS v l (nTxt n) ≤ 1000000000000 := by
  have := lastS_bd v l (nTxt n) hv hl (Nat.le_trans (nTxt_len_valid n hn) (by decide)) (nTxt n).length
  rwa [List.take_length] at this
theorem linkN_val {b : BkR} (hb : BkOK b) {d : Int} {f : Bool} {n : NoteR} (h : linkN b d f = some n) : nVal n = true := by
  have hm := metI_rng hb d
  unfold linkN at h
  split at h
  · cases h; exact (nVal2 ..).2 ⟨⟨rfl, rfl, rfl, rfl, rfl⟩, hm.1, hm.2, rfl, rfl, rfl⟩
  · split at h
    · cases h
    · split at h <;> cases h
      · exact (nVal4 ..).2 ⟨⟨rfl, rfl, rfl, rfl, rfl⟩, rfl, rfl, rfl, rfl⟩
      · exact (nVal3 ..).2 ⟨⟨rfl, rfl, rfl, rfl, rfl⟩, rfl, rfl, rfl, rfl⟩
theorem things_val {b : BkR} (hb : BkOK b) {R : Road} (hv : OK R) : ∀ t ∈ sthings b R, nVal t.nt = true := by
  intro t ht
  refine makeL_val hb hv t.nt ?_
  unfold makeL
  generalize (0 : Int) = e
  generalize true = f
  generalize sthings b R = ts at ht
  induction ts generalizing e f with
  | nil => cases ht
  | cons x r ih =>
    unfold mkL
    rcases List.mem_cons.1 ht with rfl | h
    · simp
    · exact List.mem_append_right _ (List.mem_cons_of_mem _ (ih _ _ h))
theorem worth_val {n : NoteR} (h : nVal n = true) : 0 ≤ worthI n ∧ worthI n ≤ 100 := by
  obtain ⟨k, tu, gr, lo, ch, ton, me, si, wa, ar⟩ := n
  unfold worthI
  by_cases k1 : k = 1
  · subst k1; rw [nVal1] at h; simp only [if_pos]; omega
  by_cases k5 : k = 5
  · subst k5; rw [nVal5] at h; simp; omega
  by_cases k7 : k = 7
  · subst k7; simp
  · simp [k1, k5, k7]
/-- The calls of a road are as defined. -/
theorem callsR_ok {b : BkR} (hb : BkOK b) {R : Road} (hv : OK R) {v l lead ahead : Int} (hs : 0 ≤ v ∧ v ≤ 10000000) (hl : 0 ≤ l ∧ l ≤ 1000000) (h1 : 0 ≤ lead ∧ lead ≤ maxM) (h2 : 0 ≤ ahead ∧ ahead ≤ maxM)
    (hn : R.js.length + R.cs.length + (crns b.ga b.le R).length ≤ 300) : COK (sumL R.ps) (callsR b R v l lead ahead) := by
  have hlen := callsR_len (b := b) hv v l lead ahead
  have hpl := callsR_place (b := b) hv v l lead ahead
  have hT := callsR_T (b := b) hv v l lead ahead
  refine ⟨by omega, fun i hi c hc => ?_⟩
  have hmem : c ∈ callsR b R v l lead ahead := List.mem_of_getElem? hc
  have hall : ∀ (ts : List ThR) (e : Int) (f : Bool), (∀ t ∈ ts, (0 ≤ t.at_ ∧ t.at_ ≤ sumL R.ps) ∧ nVal t.nt = true) → ∀ c ∈ callsT b v l lead ahead e f ts, (0 ≤ c.place ∧ c.place ≤ sumL R.ps) ∧ (0 ≤ c.lasts ∧ c.lasts ≤ maxM) ∧ c.lead = lead ∧ c.ahead = ahead ∧ 0 ≤ c.value ∧ c.value ≤ 100 := by
    intro ts
    induction ts with
    | nil => intro e f _ c hc; unfold callsT at hc; cases hc
    | cons t r ih =>
      intro e f ht c hc
      unfold callsT at hc
      rcases List.mem_cons.1 hc with rfl | hc
      · have ht0 := ht t (List.mem_cons_self ..)
        have hT := lastS_le hs hl ht0.2
        refine ⟨ht0.1, ?_, rfl, rfl, worth_val ht0.2⟩
        show 0 ≤ allS v l _ ∧ allS v l _ ≤ maxM
        unfold maxM
        cases hk : linkN b (max 0 (t.at_ - e)) f with
        | none => simp [allS]; omega
        | some n =>
          have hN := lastS_le hs hl (linkN_val hb hk)
          simp [allS]
          omega
      · exact ih _ _ (fun x hx => ht x (List.mem_cons_of_mem _ hx)) c hc
  have hc0 := hall (sthings b R) 0 true (fun t ht => ⟨things_place hv t (ssort_mem _ _ ht), things_val hb hv t ht⟩) c (by rw [← hT]; exact hmem)
  refine ⟨by simp [inR]; omega, by simp [inR]; omega, by simp [inR]; omega, by simp [inR]; omega, by simp [inR]; omega, fun d hi0 hd => ?_⟩
  have hup := placesL_up (b := b) (R := R)
  rw [← hpl] at hup
  have h3 : ((callsR b R v l lead ahead).map CallR.place)[i]? = some c.place := by rw [List.getElem?_map, hc]; rfl
  have h4 : ((callsR b R v l lead ahead).map CallR.place)[i - 1]? = some d.place := by rw [List.getElem?_map, hd]; rfl
  obtain ⟨hi3, h3⟩ := List.getElem?_eq_some_iff.1 h3
  obtain ⟨hi4, h4⟩ := List.getElem?_eq_some_iff.1 h4
  rw [← h3, ← h4]
  exact List.pairwise_iff_getElem.1 hup (i - 1) i hi4 hi3 (by omega)
end Go.Proofs.YtogkmnopggmdjaaGreatDoor
