/- Two strictly sorted lists, merged by steps: what sorting and joining neighbours makes of them. No program in sight. -/
import Derived.Test.YtomloklckpcaiaaZSafM
import Derived.Test.YtomloklckpcaiaaZRSame
import Derived.Test.YtomloklckpcaiaaZBound
import Derived.Test.YtomloklckpcaiaaZRuns
namespace Go.Proofs.Ytomloklckpcaiaa
open Go.RowKit Go.Shelf Go.Sort Go.Proofs

section
variable {α : Type} (key : α → Int) (both : α → α → α) (ok : α → α → Bool)
def mr2 : List α → List α → List α
  | [], R => R
  | l :: L, [] => l :: L
  | l :: L, r :: R => if key l < key r then l :: mr2 L (r :: R) else if key r < key l then r :: mr2 (l :: L) R else both l r :: mr2 L R
termination_by L R => L.length + R.length
def mr2g : List α → List α → Bool
  | [], _ => true
  | _ :: _, [] => true
  | l :: L, r :: R => if key l < key r then mr2g L (r :: R) else if key r < key l then mr2g (l :: L) R else ok l r && mr2g L R
termination_by L R => L.length + R.length
theorem mr2_nil (L : List α) : mr2 key both L [] = L := by cases L <;> simp [mr2]
theorem nil_mr2 (R : List α) : mr2 key both [] R = R := by simp [mr2]
theorem mr2_cons (l : α) (L : List α) (r : α) (R : List α) : mr2 key both (l :: L) (r :: R) = if key l < key r then l :: mr2 key both L (r :: R) else if key r < key l then r :: mr2 key both (l :: L) R else both l r :: mr2 key both L R := by rw [mr2]
theorem mr2g_nil (L : List α) : mr2g key ok L [] = true := by cases L <;> simp [mr2g]
theorem nil_mr2g (R : List α) : mr2g key ok [] R = true := by simp [mr2g]
theorem mr2g_cons (l : α) (L : List α) (r : α) (R : List α) : mr2g key ok (l :: L) (r :: R) = if key l < key r then mr2g key ok L (r :: R) else if key r < key l then mr2g key ok (l :: L) R else ok l r && mr2g key ok L R := by rw [mr2g]
theorem mr2_len : ∀ L R : List α, (mr2 key both L R).length ≤ L.length + R.length
  | [], R => by simp [mr2]
  | l :: L, [] => by simp [mr2]
  | l :: L, r :: R => by
    rw [mr2_cons]
    split
    · have := mr2_len L (r :: R); simp only [List.length_cons] at this ⊢; omega
    · split
      · have := mr2_len (l :: L) R; simp only [List.length_cons] at this ⊢; omega
      · have := mr2_len L R; simp only [List.length_cons] at this ⊢; omega
termination_by L R => L.length + R.length
theorem mrg_mem : ∀ {L R : List α} {z : α}, z ∈ mrg key L R → z ∈ L ∨ z ∈ R
  | [], R, z, h => .inr (by rwa [nil_mrg] at h)
  | l :: L, [], z, h => .inl (by rwa [mrg_nil] at h)
  | l :: L, r :: R, z, h => by
    rw [mrg_cons] at h
    split at h
    · rcases List.mem_cons.1 h with rfl | h
      · exact .inr (List.mem_cons_self ..)
      · rcases mrg_mem h with h | h
        · exact .inl h
        · exact .inr (List.mem_cons_of_mem _ h)
    · rcases List.mem_cons.1 h with rfl | h
      · exact .inl (List.mem_cons_self ..)
      · rcases mrg_mem h with h | h
        · exact .inl (List.mem_cons_of_mem _ h)
        · exact .inr h
termination_by L R => L.length + R.length
theorem ded_far {x : α} {l : List α} (h : ∀ z ∈ l, key x < key z) : ded key both x l = x :: mgd key both l := by
  cases l with
  | nil => rfl
  | cons y r =>
    have := h y (List.mem_cons_self ..)
    rw [ded, if_neg (by omega)]
    rfl
theorem good_far {x : α} {l : List α} (h : ∀ z ∈ l, key x < key z) : good key both ok x l = mgood key both ok l := by
  cases l with
  | nil => rfl
  | cons y r =>
    have := h y (List.mem_cons_self ..)
    rw [good, if_neg (by omega)]
    rfl
def Pw (l : List α) : Prop := l.Pairwise fun a b => key a < key b
theorem Pw.srt {l : List α} (h : Pw key l) : Srt key l := h.imp (fun h => Int.le_of_lt h)
theorem ssort_app {L R : List α} (hL : Pw key L) (hR : Pw key R) : ssort key (L ++ R) = mrg key L R := by
  rw [← mrg_ssort, ssort_of_srt key hL.srt, ssort_of_srt key hR.srt]
/-- Where the heads are equal, both stand ahead of all else. -/
theorem mrg_eq {l r : α} {L R : List α} (hL : Pw key (l :: L)) (hR : Pw key (r :: R)) (he : key l = key r) : mrg key (l :: L) (r :: R) = l :: r :: mrg key L R ∧ (∀ z ∈ mrg key L R, key l < key z) := by
  obtain ⟨h1, h2⟩ := List.pairwise_cons.1 hL
  obtain ⟨h3, h4⟩ := List.pairwise_cons.1 hR
  refine ⟨?_, fun z hz => ?_⟩
  · rw [mrg_cons, if_neg (by omega)]
    congr 1
    cases L with
    | nil => rw [nil_mrg, nil_mrg]
    | cons x L =>
      have := h1 x (List.mem_cons_self ..)
      rw [mrg_cons, if_pos (by omega)]
  · rcases mrg_mem key hz with hz | hz
    · exact h1 z hz
    · have := h3 z hz; omega
theorem mgd_mrg (hb : ∀ x y, key (both x y) = key x) : ∀ {L R : List α}, Pw key L → Pw key R → mgd key both (mrg key L R) = mr2 key both L R ∧ mgood key both ok (mrg key L R) = mr2g key ok L R
  | [], R, _, hR => by
    rw [nil_mrg, nil_mr2, nil_mr2g]
    induction R with
    | nil => exact ⟨rfl, rfl⟩
    | cons r R ih =>
      obtain ⟨h3, h4⟩ := List.pairwise_cons.1 hR
      obtain ⟨i1, i2⟩ := ih h4
      exact ⟨by rw [mgd, ded_far key both h3, i1], by rw [mgood, good_far key both ok h3, i2]⟩
  | l :: L, [], hL, _ => by
    rw [mrg_nil, mr2_nil, mr2g_nil]
    obtain ⟨h1, h2⟩ := List.pairwise_cons.1 hL
    have ih := mgd_mrg hb (L := L) (R := []) h2 List.Pairwise.nil
    rw [mrg_nil, mr2_nil, mr2g_nil] at ih
    exact ⟨by rw [mgd, ded_far key both h1, ih.1], by rw [mgood, good_far key both ok h1, ih.2]⟩
  | l :: L, r :: R, hL, hR => by
    obtain ⟨h1, h2⟩ := List.pairwise_cons.1 hL
    obtain ⟨h3, h4⟩ := List.pairwise_cons.1 hR
    rw [mr2_cons, mr2g_cons]
    by_cases c1 : key l < key r
    · have hfar : ∀ z ∈ mrg key L (r :: R), key l < key z := fun z hz => by
        rcases mrg_mem key hz with hz | hz
        · exact h1 z hz
        · rcases List.mem_cons.1 hz with rfl | hz
          · exact c1
          · have := h3 z hz; omega
      have ih := mgd_mrg hb (L := L) (R := r :: R) h2 hR
      rw [mrg_cons, if_neg (by omega), if_pos c1, if_pos c1]
      exact ⟨by rw [mgd, ded_far key both hfar, ih.1], by rw [mgood, good_far key both ok hfar, ih.2]⟩
    · rw [if_neg c1, if_neg c1]
      by_cases c2 : key r < key l
      · have hfar : ∀ z ∈ mrg key (l :: L) R, key r < key z := fun z hz => by
          rcases mrg_mem key hz with hz | hz
          · rcases List.mem_cons.1 hz with rfl | hz
            · exact c2
            · have := h1 z hz; omega
          · exact h3 z hz
        have ih := mgd_mrg hb (L := l :: L) (R := R) hL h4
        rw [mrg_cons, if_pos c2, if_pos c2, if_pos c2]
        exact ⟨by rw [mgd, ded_far key both hfar, ih.1], by rw [mgood, good_far key both ok hfar, ih.2]⟩
      · rw [if_neg c2, if_neg c2]
        obtain ⟨e1, e2⟩ := mrg_eq key hL hR (by omega)
        have ih := mgd_mrg hb (L := L) (R := R) h2 h4
        rw [e1]
        have e3 : ∀ z ∈ mrg key L R, key (both l r) < key z := fun z hz => by rw [hb]; exact e2 z hz
        exact ⟨by rw [mgd, ded, if_pos (by omega), ded_far key both e3, ih.1], by rw [mgood, good, if_pos (by omega), good_far key both ok e3, ih.2]⟩
termination_by L R => L.length + R.length
theorem mr2_own (h1 : ∀ x, both x x = x) (h2 : ∀ x, ok x x = true) : ∀ L : List α, mr2 key both L L = L ∧ mr2g key ok L L = true
  | [] => ⟨by simp [mr2], by simp [mr2g]⟩
  | l :: L => by
    obtain ⟨i1, i2⟩ := mr2_own h1 h2 L
    rw [mr2_cons, mr2g_cons, if_neg (by omega), if_neg (by omega), if_neg (by omega), if_neg (by omega), h1, h2, i1, i2]
    exact ⟨rfl, rfl⟩
theorem mr2_symm (h1 : ∀ x y, key x = key y → ok x y = true → both x y = both y x) (h2 : ∀ x y, ok x y = ok y x) : ∀ L R : List α, mr2g key ok L R = mr2g key ok R L ∧ (mr2g key ok L R = true → mr2 key both L R = mr2 key both R L)
  | [], R => by rw [nil_mr2g, mr2g_nil, nil_mr2, mr2_nil]; exact ⟨rfl, fun _ => rfl⟩
  | l :: L, [] => by rw [nil_mr2g, mr2g_nil, nil_mr2, mr2_nil]; exact ⟨rfl, fun _ => rfl⟩
  | l :: L, r :: R => by
    rw [mr2g_cons, mr2g_cons, mr2_cons, mr2_cons]
    by_cases c1 : key l < key r
    · rw [if_pos c1, if_neg (by omega), if_pos c1, if_pos c1, if_neg (by omega), if_pos c1]
      obtain ⟨i1, i2⟩ := mr2_symm h1 h2 L (r :: R)
      exact ⟨i1, fun h => by rw [i2 h]⟩
    · by_cases c2 : key r < key l
      · rw [if_neg c1, if_pos c2, if_pos c2, if_neg c1, if_pos c2, if_pos c2]
        obtain ⟨i1, i2⟩ := mr2_symm h1 h2 (l :: L) R
        exact ⟨i1, fun h => by rw [i2 h]⟩
      · rw [if_neg c1, if_neg c2, if_neg c2, if_neg c1, if_neg c1, if_neg c2, if_neg c2, if_neg c1]
        obtain ⟨i1, i2⟩ := mr2_symm h1 h2 L R
        refine ⟨by rw [h2 l r, i1], fun h => ?_⟩
        obtain ⟨a1, a2⟩ := Bool.and_eq_true_iff.1 h
        rw [h1 l r (by omega) a1, i2 a2]
termination_by L R => L.length + R.length
end
theorem bothC_own (x : Crest) : bothC x x = x := by unfold bothC; simp
theorem bothC_symm (x y : Crest) (h : x.pos = y.pos) : bothC x y = bothC y x := by
  unfold bothC
  rw [h]
  congr 1
  split <;> split <;> omega
theorem okJ_eq {x y : Junc} (h : okJ x y = true) : x = y := by
  simp only [okJ, Bool.and_eq_true, decide_eq_true_eq] at h
  cases x; cases y
  simp only at h
  obtain ⟨rfl, rfl, rfl⟩ := h
  rfl
theorem okJ_own (x : Junc) : okJ x x = true := by simp [okJ]
theorem okJ_symm (x y : Junc) : okJ x y = okJ y x := by
  unfold okJ
  rw [show decide (x.pos = y.pos) = decide (y.pos = x.pos) by rw [decide_eq_decide]; exact eq_comm, show decide (x.arms = y.arms) = decide (y.arms = x.arms) by rw [decide_eq_decide]; exact eq_comm, show decide (x.way = y.way) = decide (y.way = x.way) by rw [decide_eq_decide]; exact eq_comm]
theorem bothJ_symm (x y : Junc) (h : okJ x y = true) : bothJ x y = bothJ y x := by
  obtain rfl := okJ_eq h
  rfl
theorem sfr_symm {x y : Piece} (hx : pOk x = true) (hy : pOk y = true) (l : Int) : sfr x y l = sfr y x l := by
  have hz : ∀ p : Piece, pOk p = true → p.turn = 0 → p.rad = 0 := by
    intro p h h0
    simp only [pOk, Bool.and_eq_true] at h
    have := h.2.2.2.2
    rw [if_pos h0] at this
    simpa using this
  have e1 : (if y.wid < x.wid then y.wid else x.wid) = (if x.wid < y.wid then x.wid else y.wid) := by split <;> split <;> omega
  have e2 : (if x.sur < y.sur then y.sur else x.sur) = (if y.sur < x.sur then x.sur else y.sur) := by split <;> split <;> omega
  have e3 : (if y.rad < x.rad then y.rad else x.rad) = (if x.rad < y.rad then x.rad else y.rad) := by split <;> split <;> omega
  unfold sfr
  rw [e1, e2, e3]
  by_cases h1 : x.turn = 0
  · by_cases h2 : y.turn = 0
    · rw [if_pos h1, if_pos h2, h1, h2, hz x hx h1, hz y hy h2]
    · rw [if_pos h1, if_neg h2, if_pos h1]
  · by_cases h2 : y.turn = 0
    · rw [if_neg h1, if_pos h2, if_pos h2]
    · rw [if_neg h1, if_neg h2, if_neg h2, if_neg h1]
      by_cases h3 : x.turn = y.turn
      · rw [if_pos h3, if_pos h3.symm, h3]
      · rw [if_neg h3, if_neg (fun h => h3 h.symm)]
theorem sfr_own (x : Piece) (l : Int) : sfr x x l = some { x with len := l } := by
  unfold sfr
  split
  · simp
  · rw [if_pos rfl]; simp
end Go.Proofs.Ytomloklckpcaiaa

/- The document's safer pieces, place by place, are pieces as defined, each of length one. No program in sight. -/
namespace Go.Proofs.Ytomloklckpcaiaa
open Go.RowKit Go.Shelf Go.Sort Go.Proofs
theorem units_ok {ps : List Piece} (h : ∀ q ∈ ps, pOk q = true) : ∀ q ∈ units ps, pOk q = true := by
  intro q hq
  obtain ⟨p, hp, rfl⟩ := units_mem hq
  exact pOk_one (h p hp) rfl (by simp [one])
theorem rfM_ok (xs ys : List Piece) (hx : ∀ q ∈ xs, pOk q = true) (hy : ∀ q ∈ ys, pOk q = true) : ∀ (k : Nat) {L : List Piece}, rfM xs ys k = some L → ∀ z ∈ L, pOk z = true
  | 0, L, h, z, hz => by cases h; cases hz
  | k + 1, L, h, z, hz => by
    rw [rfM] at h
    cases hk : rfM xs ys k with
    | none => rw [hk] at h; cases h
    | some L' =>
      rw [hk] at h
      have ih := rfM_ok xs ys hx hy k hk
      simp only [Option.bind_some] at h
      split at h
      · rename_i x y h1 h2
        cases hs : sfr x y 1 with
        | none => rw [hs] at h; cases h
        | some z' =>
          rw [hs] at h
          cases h
          rcases List.mem_append.1 hz with hz | hz
          · exact ih z hz
          · rw [List.mem_singleton] at hz
            subst hz
            exact sfr_ok (hx _ (List.mem_of_getElem? h1)) (hy _ (List.mem_of_getElem? h2)) (by decide) (by decide) hs
      · cases h
        exact ih z hz
theorem sfr_l {x y z : Piece} {l : Int} (h : sfr x y l = some z) : z.len = l := by
  unfold sfr at h
  split at h
  · cases h; rfl
  · split at h
    · cases h; rfl
    · split at h
      · cases h; rfl
      · cases h
theorem rfM_one (xs ys : List Piece) : ∀ (k : Nat) {L : List Piece}, rfM xs ys k = some L → ∀ z ∈ L, z.len = 1
  | 0, L, h, z, hz => by cases h; cases hz
  | k + 1, L, h, z, hz => by
    rw [rfM] at h
    cases hk : rfM xs ys k with
    | none => rw [hk] at h; cases h
    | some L' =>
      rw [hk] at h
      have ih := rfM_one xs ys k hk
      simp only [Option.bind_some] at h
      split at h
      · rename_i x y _ _
        cases hs : sfr x y 1 with
        | none => rw [hs] at h; cases h
        | some z' =>
          rw [hs] at h
          cases h
          rcases List.mem_append.1 hz with hz | hz
          · exact ih z hz
          · rw [List.mem_singleton] at hz
            subst hz
            exact sfr_l hs
      · cases h
        exact ih z hz
end Go.Proofs.Ytomloklckpcaiaa

/- The safer road of two surveys of the same length and its error: alike both ways round, the road in normal form for a road with itself. No program in sight. -/
namespace Go.Proofs.Ytomloklckpcaiaa
open Go.RowKit Go.Shelf Go.Sort Go.Proofs

/-- What the safer road is, and the error. -/
def sres (R R2 : Road) : Road × Int :=
  match rfM (units R.ps) (units R2.ps) (sumL R.ps).toNat with
  | none => (⟨[], [], []⟩, 5)
  | some L =>
    if mr2g (fun x : Junc => x.pos) okJ R.js R2.js = true then
      (if fitsR ⟨normP L, mr2 (fun x : Crest => x.pos) bothC R.cs R2.cs, mr2 (fun x : Junc => x.pos) bothJ R.js R2.js⟩ = true then (⟨normP L, mr2 (fun x : Crest => x.pos) bothC R.cs R2.cs, mr2 (fun x : Junc => x.pos) bothJ R.js R2.js⟩, 0) else (⟨[], [], []⟩, 4))
    else (⟨[], [], []⟩, 5)
theorem sres_none {R R2 : Road} (h : rfM (units R.ps) (units R2.ps) (sumL R.ps).toNat = none) : sres R R2 = (⟨[], [], []⟩, 5) := by
  simp only [sres, h]
theorem sres_some {R R2 : Road} {L : List Piece} (h : rfM (units R.ps) (units R2.ps) (sumL R.ps).toNat = some L) : sres R R2 =
    if mr2g (fun x : Junc => x.pos) okJ R.js R2.js = true then
      (if fitsR ⟨normP L, mr2 (fun x : Crest => x.pos) bothC R.cs R2.cs, mr2 (fun x : Junc => x.pos) bothJ R.js R2.js⟩ = true then (⟨normP L, mr2 (fun x : Crest => x.pos) bothC R.cs R2.cs, mr2 (fun x : Junc => x.pos) bothJ R.js R2.js⟩, 0) else (⟨[], [], []⟩, 4))
    else (⟨[], [], []⟩, 5) := by
  simp only [sres, h]
theorem rfM_symm {xs ys : List Piece} (hx : ∀ q ∈ xs, pOk q = true) (hy : ∀ q ∈ ys, pOk q = true) : ∀ k, rfM xs ys k = rfM ys xs k
  | 0 => rfl
  | k + 1 => by
    rw [rfM, rfM, rfM_symm hx hy k]
    congr 1
    funext L
    cases h1 : xs[k]? with
    | none => cases ys[k]? <;> rfl
    | some x =>
      cases h2 : ys[k]? with
      | none => rfl
      | some y => simp only [sfr_symm (hx x (List.mem_of_getElem? h1)) (hy y (List.mem_of_getElem? h2)) 1]
theorem mr2g_all {α : Type} (key : α → Int) (ok : α → α → Bool) (h : ∀ x y, ok x y = true) : ∀ L R : List α, mr2g key ok L R = true
  | [], R => nil_mr2g key ok R
  | l :: L, [] => mr2g_nil key ok _
  | l :: L, r :: R => by
    rw [mr2g_cons, h, mr2g_all key ok h L (r :: R), mr2g_all key ok h (l :: L) R, mr2g_all key ok h L R]
    simp
termination_by L R => L.length + R.length
theorem mr2C_symm (L R : List Crest) : mr2 (fun x : Crest => x.pos) bothC L R = mr2 (fun x : Crest => x.pos) bothC R L :=
  (mr2_symm (fun x : Crest => x.pos) bothC okC (fun x y h _ => bothC_symm x y h) (fun _ _ => rfl) L R).2 (mr2g_all _ _ (fun _ _ => rfl) L R)
theorem sres_symm {R R2 : Road} (hv : OK R) (hv2 : OK R2) (hs : sumL R.ps = sumL R2.ps) : sres R R2 = sres R2 R := by
  have e := rfM_symm (units_ok hv.pk) (units_ok hv2.pk) (sumL R.ps).toNat
  obtain ⟨g1, g2⟩ := mr2_symm (fun x : Junc => x.pos) bothJ okJ (fun x y _ h => bothJ_symm x y h) okJ_symm R.js R2.js
  cases h : rfM (units R.ps) (units R2.ps) (sumL R.ps).toNat with
  | none => rw [sres_none h, sres_none (by rw [← hs, ← e, h])]
  | some L =>
    rw [sres_some h, sres_some (show rfM (units R2.ps) (units R.ps) (sumL R2.ps).toNat = some L by rw [← hs, ← e, h]), ← g1, mr2C_symm R2.cs R.cs]
    by_cases hg : mr2g (fun x : Junc => x.pos) okJ R.js R2.js = true
    · rw [if_pos hg, if_pos hg, g2 hg]
    · rw [if_neg hg, if_neg hg]
theorem rfM_own {xs : List Piece} (h : ∀ q ∈ xs, q.len = 1) : ∀ k, rfM xs xs k = some (xs.take k)
  | 0 => by rw [rfM, List.take_zero]
  | k + 1 => by
    rw [rfM, rfM_own h k]
    simp only [Option.bind_some]
    cases h1 : xs[k]? with
    | none => rw [List.take_of_length_le (by have := List.getElem?_eq_none_iff.1 h1; omega), List.take_of_length_le (by have := List.getElem?_eq_none_iff.1 h1; omega)]
    | some x =>
      have hx := h x (List.mem_of_getElem? h1)
      have e : ({ x with len := 1 } : Piece) = x := by cases x; simp only at hx; subst hx; rfl
      simp only [sfr_own, Option.map_some, e]
      rw [List.take_add_one, h1]
      rfl
theorem units_l1 {ps : List Piece} : ∀ q ∈ units ps, q.len = 1 := by
  intro q hq
  obtain ⟨p, -, rfl⟩ := units_mem hq
  rfl
theorem fits_ok {R : Road} (h : OK R) : fitsR R = true := by
  simp only [fitsR, Bool.and_eq_true, decide_eq_true_eq]
  exact ⟨h.p2, h.c1, h.j1, h.n1⟩
theorem sres_own {R : Road} (hv : OK R) : sres R R = (normR R, 0) := by
  have h1 : ∀ q ∈ R.ps, 1 ≤ q.len := fun q hq => (pOk_len (hv.pk q hq)).1
  have hl := units_len (ps := R.ps) (fun q hq => by have := h1 q hq; omega)
  have e := rfM_own (units_l1 (ps := R.ps)) (sumL R.ps).toNat
  rw [List.take_of_length_le (by omega)] at e
  obtain ⟨c1, -⟩ := mr2_own (fun x : Crest => x.pos) bothC okC bothC_own (fun _ => rfl) R.cs
  obtain ⟨j1, j2⟩ := mr2_own (fun x : Junc => x.pos) bothJ okJ (fun _ => rfl) okJ_own R.js
  rw [sres_some e, if_pos j2, c1, j1, norm_units h1]
  have hf : fitsR ⟨normP R.ps, R.cs, R.js⟩ = true := fits_ok (normR_ok hv)
  rw [if_pos hf]
  rfl
/-- The safer road is never too long. -/
theorem sres_bd (R R2 : Road) : (sres R R2).1.ps.length ≤ 2000 ∧ (sres R R2).1.cs.length ≤ 1000 ∧ (sres R R2).1.js.length ≤ 200 := by
  have hz : ∀ k : Int, ((⟨[], [], []⟩ : Road), k).1.ps.length ≤ 2000 ∧ ((⟨[], [], []⟩ : Road), k).1.cs.length ≤ 1000 ∧ ((⟨[], [], []⟩ : Road), k).1.js.length ≤ 200 := fun _ => by simp
  cases h : rfM (units R.ps) (units R2.ps) (sumL R.ps).toNat with
  | none => rw [sres_none h]; exact hz 5
  | some L =>
    rw [sres_some h]
    split
    · split
      · rename_i hf
        simp only [fitsR, Bool.and_eq_true, decide_eq_true_eq] at hf
        exact ⟨hf.1, hf.2.1, hf.2.2.1⟩
      · exact hz 4
    · exact hz 5
end Go.Proofs.Ytomloklckpcaiaa
