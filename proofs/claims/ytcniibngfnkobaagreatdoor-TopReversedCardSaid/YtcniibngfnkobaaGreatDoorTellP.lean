/- What the notes of a road tell, plain: its corners, crests and junctions, in order; every note is as defined. No program in sight. -/
import Derived.Test.YtcniibngfnkobaaGreatDoorPAll
import Derived.Test.YtcniibngfnkobaaGreatDoorGrdP
namespace Go.Proofs.YtcniibngfnkobaaGreatDoor
open Go.RowKit Go.Shelf Go.Sort Go.Proofs

section
variable {α : Type} (key : α → Int) (p : α → Bool)
theorem insR_filter : ∀ (S : List α) (x : α), Srt key S → (insR key S x).filter p = if p x = true then insR key (S.filter p) x else S.filter p
  | [], x, _ => by by_cases h : p x = true <;> simp [insR, h]
  | y :: S, x, h => by
    obtain ⟨h1, h2⟩ := List.pairwise_cons.1 h
    rw [insR]
    by_cases hxy : key x < key y
    · rw [if_pos hxy]
      by_cases hp : p x = true
      · rw [if_pos hp, List.filter_cons_of_pos hp]
        have := insR_split key (x := x) (S1 := []) (S2 := (y :: S).filter p) (fun z hz => by cases hz) (fun z hz => by
          have hz := (List.mem_filter.1 hz).1
          rcases List.mem_cons.1 hz with rfl | hz
          · exact hxy
          · have := h1 z hz; omega)
        exact this.symm
      · rw [if_neg hp, List.filter_cons_of_neg hp]
    · rw [if_neg hxy]
      have ih := insR_filter S x h2
      by_cases hy : p y = true
      · rw [List.filter_cons_of_pos hy, List.filter_cons_of_pos hy, ih]
        by_cases hp : p x = true
        · rw [if_pos hp, if_pos hp, insR, if_neg hxy]
        · rw [if_neg hp, if_neg hp]
      · rw [List.filter_cons_of_neg hy, List.filter_cons_of_neg hy, ih]
theorem ssort_filter (l : List α) : (ssort key l).filter p = ssort key (l.filter p) := by
  induction l using snoc_ind with
  | h0 => rfl
  | h1 l x ih =>
    rw [ssort_snoc, insR_filter key p _ _ (ssort_srt key l), ih, List.filter_append]
    by_cases hp : p x = true
    · rw [if_pos hp, List.filter_cons_of_pos hp, List.filter_nil, ssort_snoc]
    · rw [if_neg hp, List.filter_cons_of_neg hp, List.filter_nil, List.append_nil]
theorem filter_at : ∀ (l : List α) (i : Nat) (hi : i < l.length), p l[i] = true → (l.filter p)[(l.take i).countP p]? = some l[i]
  | [], i, hi, _ => by simp at hi
  | a :: l, 0, _, h => by
    simp only [List.getElem_cons_zero] at h
    simp [List.filter_cons_of_pos h]
  | a :: l, i + 1, hi, h => by
    simp only [List.getElem_cons_succ] at h ⊢
    have ih := filter_at l i (by simpa using hi) h
    rw [List.take_succ_cons, List.countP_cons]
    by_cases hp : p a = true
    · rw [if_pos hp, List.filter_cons_of_pos hp, List.getElem?_cons_succ]
      exact ih
    · rw [if_neg hp, List.filter_cons_of_neg hp]
      exact ih
theorem countP_take_succ (l : List α) (i : Nat) (hi : i < l.length) : (l.take (i + 1)).countP p = (l.take i).countP p + (if p l[i] = true then 1 else 0) := by
  rw [List.take_add_one, List.getElem?_eq_getElem hi, List.countP_append]
  simp [List.countP_cons]
theorem countP_take_le (l : List α) (i : Nat) : (l.take i).countP p ≤ (l.filter p).length := by
  rw [← List.countP_eq_length_filter]
  exact List.Sublist.countP_le (List.take_sublist i l)
theorem srt_of_step (l : List α) (h : ∀ i (hi : i + 1 < l.length), key l[i] ≤ key l[i + 1]) : Srt key l := by
  have mono : ∀ (d i : Nat) (hi : i + d < l.length), key l[i] ≤ key l[i + d] := by
    intro d
    induction d with
    | zero => intro i hi; exact Int.le_refl _
    | succ d ih =>
      intro i hi
      have h1 := ih i (by omega)
      have h2 := h (i + d) (by omega)
      exact Int.le_trans h1 h2
  refine List.pairwise_iff_getElem.2 fun i j hi hj hij => ?_
  have := mono (j - i) i (by omega)
  simpa only [show i + (j - i) = j by omega] using this
end
def isK (q : Int) (n : NoteR) : Bool := decide (n.k = q)
def isT (q : Int) (t : ThR) : Bool := decide (t.nk = q)
theorem cornN_k (b : BkR) (k : Corner) : (cornN b k).k = 1 := by
  unfold cornN
  split
  · rfl
  · split <;> rfl
theorem linkN_k {b : BkR} {d : Int} {f : Bool} {n : NoteR} (h : linkN b d f = some n) : n.k = 2 ∨ n.k = 3 ∨ n.k = 4 := by
  unfold linkN at h
  split at h
  · cases h; exact .inl rfl
  · split at h
    · cases h
    · split at h
      · cases h; exact .inr (.inr rfl)
      · cases h; exact .inr (.inl rfl)
theorem mkL_filter (b : BkR) (q : Int) (hq : q = 1 ∨ q = 5 ∨ q = 7) : ∀ (ts : List ThR) (e : Int) (f : Bool), (mkL b e f ts).filter (isK q) = (ts.filter (isT q)).map ThR.nt
  | [], e, f => by rw [mkL]; rfl
  | t :: r, e, f => by
    rw [mkL, List.filter_append]
    have h0 : ((linkN b (max 0 (t.at_ - e)) f).toList).filter (isK q) = [] := by
      cases hl : linkN b (max 0 (t.at_ - e)) f with
      | none => rfl
      | some n =>
        have := linkN_k hl
        have hn : ¬ isK q n = true := by unfold isK; rw [decide_eq_true_eq]; omega
        simp [List.filter_cons_of_neg hn]
    rw [h0, List.nil_append]
    have ih := mkL_filter b q hq r (max e t.en) false
    by_cases hp : isT q t = true
    · have hp' : isK q t.nt = true := hp
      rw [List.filter_cons_of_pos hp', List.filter_cons_of_pos hp, ih, List.map_cons]
    · have hp' : ¬ isK q t.nt = true := hp
      rw [List.filter_cons_of_neg hp', List.filter_cons_of_neg hp, ih]
theorem filt_all {α β : Type} (f : α → β) (p : β → Bool) (h : ∀ a, p (f a) = true) (l : List α) : (l.map f).filter p = l.map f := by
  rw [List.filter_eq_self]
  intro y hy
  obtain ⟨a, _, rfl⟩ := List.mem_map.1 hy
  exact h a
theorem filt_none {α β : Type} (f : α → β) (p : β → Bool) (h : ∀ a, p (f a) = false) (l : List α) : (l.map f).filter p = [] := by
  rw [List.filter_eq_nil_iff]
  intro y hy
  obtain ⟨a, _, rfl⟩ := List.mem_map.1 hy
  rw [h a]
  exact Bool.false_ne_true
theorem makeL_corners {b : BkR} {R : Road} (hv : OK R) : (makeL b R).filter (isK 1) = (crns b.ga b.le R).map (cornN b) := by
  unfold makeL sthings
  rw [mkL_filter b 1 (.inl rfl), ssort_filter]
  have hk : ∀ a, isT 1 (kTh b a) = true := fun a => by show decide ((cornN b a).k = 1) = true; rw [cornN_k]; rfl
  have h1 : (things b R).filter (isT 1) = (crns b.ga b.le R).map (kTh b) := by
    unfold things
    rw [List.filter_append, List.filter_append, filt_none jTh _ (fun _ => rfl), filt_none cTh _ (fun _ => rfl), filt_all (kTh b) _ hk, List.nil_append, List.nil_append]
  rw [h1, ssort_of_srt, List.map_map]
  · rfl
  · refine List.pairwise_map.2 (List.Pairwise.imp_of_mem (fun {c d} hc hd h => ?_) (crns_pw hv b.ga b.le))
    have := (crn_fine hv hc).lt
    show 3 * c.fr + 2 ≤ 3 * d.fr + 2
    omega
def cNt (c : Crest) : NoteR := ⟨5, 0, 0, 0, 0, 0, 0, c.siz, 0, 0⟩
def jNt (j : Junc) : NoteR := ⟨7, 0, 0, 0, 0, 0, 0, 0, j.way, j.arms⟩
theorem cs_step {R : Road} (hv : OK R) (i : Nat) (hi : i + 1 < R.cs.length) : R.cs[i].pos < R.cs[i + 1].pos :=
  (hv.ck (i + 1) hi _ (List.getElem?_eq_getElem hi)).2.2 _ (by omega) (List.getElem?_eq_getElem (by omega))
theorem js_step {R : Road} (hv : OK R) (i : Nat) (hi : i + 1 < R.js.length) : R.js[i].pos < R.js[i + 1].pos :=
  (hv.jk (i + 1) hi _ (List.getElem?_eq_getElem hi)).2.2.2 _ (by omega) (List.getElem?_eq_getElem (by omega))
theorem makeL_crests {b : BkR} {R : Road} (hv : OK R) : (makeL b R).filter (isK 5) = R.cs.map cNt := by
  unfold makeL sthings
  rw [mkL_filter b 5 (.inr (.inl rfl)), ssort_filter]
  have hk : ∀ a, isT 5 (kTh b a) = false := fun a => by show decide ((cornN b a).k = 5) = false; rw [cornN_k]; rfl
  have h1 : (things b R).filter (isT 5) = R.cs.map cTh := by
    unfold things
    rw [List.filter_append, List.filter_append, filt_none jTh _ (fun _ => rfl), filt_all cTh _ (fun _ => rfl), filt_none (kTh b) _ hk, List.nil_append, List.append_nil]
  rw [h1, ssort_of_srt, List.map_map]
  · rfl
  · refine srt_of_step _ _ fun i hi => ?_
    rw [List.length_map] at hi
    have := cs_step hv i hi
    rw [List.getElem_map, List.getElem_map]
    show 3 * R.cs[i].pos + 1 ≤ 3 * R.cs[i + 1].pos + 1
    omega
theorem makeL_ways {b : BkR} {R : Road} (hv : OK R) : (makeL b R).filter (isK 7) = R.js.map jNt := by
  unfold makeL sthings
  rw [mkL_filter b 7 (.inr (.inr rfl)), ssort_filter]
  have hk : ∀ a, isT 7 (kTh b a) = false := fun a => by show decide ((cornN b a).k = 7) = false; rw [cornN_k]; rfl
  have h1 : (things b R).filter (isT 7) = R.js.map jTh := by
    unfold things
    rw [List.filter_append, List.filter_append, filt_all jTh _ (fun _ => rfl), filt_none cTh _ (fun _ => rfl), filt_none (kTh b) _ hk, List.append_nil, List.append_nil]
  rw [h1, ssort_of_srt, List.map_map]
  · rfl
  · refine srt_of_step _ _ fun i hi => ?_
    rw [List.length_map] at hi
    have := js_step hv i hi
    rw [List.getElem_map, List.getElem_map]
    show 3 * R.js[i].pos + 0 ≤ 3 * R.js[i + 1].pos + 0
    omega
theorem minR_ge {a : Int} : ∀ (g : List Bd) (b : Int), a ≤ b → (∀ e ∈ g, a ≤ e.2.rad) → a ≤ g.foldl (fun r e => min r e.2.rad) b
  | [], b, h, _ => h
  | e :: g, b, h, hg => by
    rw [List.foldl_cons]
    have := hg e (List.mem_cons_self ..)
    exact minR_ge g _ (by omega) (fun d hd => hg d (List.mem_cons_of_mem _ hd))
theorem crn_rad {R : Road} (hv : OK R) {gap least : Int} {c : Corner} (h : c ∈ crns gap least R) : 5 ≤ c.rad ∧ c.rad ≤ 2000 := by
  have h1 := crn_fine hv h
  have h2 := (crn_rads hv h).1.2
  refine ⟨?_, by have := h1.inn; omega⟩
  obtain ⟨g, hg, rfl⟩ := List.mem_map.1 (List.mem_filter.1 h).1
  have hb : ∀ e ∈ g, 5 ≤ e.2.rad := fun e he => by
    have hm := bds_mem hv (grp_mem hg he)
    exact ((pOk_tOk hm.2.1).2.2 hm.2.2).1
  obtain ⟨x, gt, gi, y, e0, e1⟩ := ends (grp_ne _ _ g hg)
  rw [crn_of e0 e1]
  exact minR_ge g _ (hb y (by rw [e1]; simp)) hb
theorem radI_of {b : BkR} {g : Int} (h1 : 1 ≤ g) (h2 : g ≤ (b.gs.length : Nat) + 1) : radI b g = (radLo b g, radHi b g, true) := by
  unfold radI radIn
  rw [if_pos]
  simp
  omega
/-- The note of a corner is as defined, and means what the corner is. -/
theorem corn_tell {b : BkR} (hb : BkOK b) {R : Road} (hv : OK R) {c : Corner} (h : c ∈ crns b.ga b.le R) : nVal (cornN b c) = true ∧ (cornN b c).tu = c.turn ∧
    ∃ m, meanN b (cornN b c) = some m ∧ m.an ≤ c.ang ∧ (m.mo < 10000 → c.ang ≤ m.mo) ∧ ((cornN b c).ch = 0 → m.fr ≤ c.rad ∧ c.rad ≤ m.to_) := by
  have hf := crn_fine hv h
  have hr := crn_rad hv h
  have g1 := gradeI_rng b c.inn
  have g2 := gradeI_rng b c.out
  have g3 := gradeI_rng b c.rad
  have h8 := hb.n8
  have hs := hf.side
  have ha := hf.ang
  have hle := hb.le1
  have hl : -1 ≤ lngI b c.ang ∧ lngI b c.ang ≤ 1 := by
    unfold lngI
    split
    · omega
    · split <;> omega
  have hA : angM b (lngI b c.ang) ≤ c.ang ∧ (mosM b (lngI b c.ang) < 10000 → c.ang ≤ mosM b (lngI b c.ang)) := by
    unfold angM mosM lngI
    by_cases a1 : c.ang < b.sh
    · rw [if_pos a1, if_pos rfl, if_pos rfl]
      omega
    · rw [if_neg a1]
      by_cases a2 : b.lo ≤ c.ang
      · rw [if_pos a2, if_neg (by decide), if_neg (by decide), if_neg (by decide), if_neg (by decide)]
        omega
      · rw [if_neg a2, if_neg (by decide), if_pos rfl, if_neg (by decide), if_pos rfl]
        omega
  have r1 := radI_of g1.1 g1.2
  have r2 := radI_of g2.1 g2.2
  have r3 := radI_of g3.1 g3.2
  unfold cornN
  split
  · rename_i hc
    refine ⟨(nVal1 ..).2 ⟨⟨by omega, by omega, hl, .inr (.inr ⟨rfl, by omega, by omega⟩)⟩, rfl, rfl, rfl, rfl⟩, rfl, ?_⟩
    refine ⟨⟨radLo b (gradeI b c.inn), radHi b (gradeI b c.inn), radLo b (gradeI b c.out), radHi b (gradeI b c.out), angM b (lngI b c.ang), mosM b (lngI b c.ang)⟩, ?_, hA.1, hA.2, fun q => absurd q (by show ¬ (_ : Int) = 0; simp)⟩
    have hL : latR b ⟨1, c.turn, gradeI b c.inn, lngI b c.ang, 1, gradeI b c.out, 0, 0, 0, 0⟩ = radI b (gradeI b c.out) := by
      unfold latR
      exact if_neg (by simp)
    unfold meanN
    rw [hL]
    simp only
    rw [r1, r2]
    rfl
  · split
    · rename_i hc
      refine ⟨(nVal1 ..).2 ⟨⟨by omega, by omega, hl, .inr (.inl ⟨rfl, by omega, by omega⟩)⟩, rfl, rfl, rfl, rfl⟩, rfl, ?_⟩
      refine ⟨⟨radLo b (gradeI b c.inn), radHi b (gradeI b c.inn), radLo b (gradeI b c.out), radHi b (gradeI b c.out), angM b (lngI b c.ang), mosM b (lngI b c.ang)⟩, ?_, hA.1, hA.2, fun q => absurd q (by show ¬ (_ : Int) = 0; simp)⟩
      have hL : latR b ⟨1, c.turn, gradeI b c.inn, lngI b c.ang, -1, gradeI b c.out, 0, 0, 0, 0⟩ = radI b (gradeI b c.out) := by
        unfold latR
        exact if_neg (by simp)
      unfold meanN
      rw [hL]
      simp only
      rw [r1, r2]
      rfl
    · refine ⟨(nVal1 ..).2 ⟨⟨by omega, by omega, hl, .inl ⟨rfl, rfl⟩⟩, rfl, rfl, rfl, rfl⟩, rfl, ?_⟩
      refine ⟨⟨radLo b (gradeI b c.rad), radHi b (gradeI b c.rad), 0, 0, angM b (lngI b c.ang), mosM b (lngI b c.ang)⟩, ?_, hA.1, hA.2, fun _ => ?_⟩
      · have hL : latR b ⟨1, c.turn, gradeI b c.rad, lngI b c.ang, 0, 0, 0, 0, 0, 0⟩ = (0, 0, true) := rfl
        unfold meanN
        rw [hL]
        simp only
        rw [r3]
        rfl
      · obtain ⟨g, hg⟩ : ∃ g : Nat, gradeI b c.rad = g := ⟨(gradeI b c.rad).toNat, by omega⟩
        have := (grade_iff hb hr.1 hr.2 (g := g) (by omega) (by omega)).2 hg
        rw [hg]
        exact this
theorem metI_rng {b : BkR} (hb : BkOK b) (d : Int) : 1 ≤ metI b d ∧ metI b d ≤ 9999 := by
  unfold metI
  have := hb.st1
  omega
theorem mkL_mem (b : BkR) (P : NoteR → Prop) (hl : ∀ d f n, linkN b d f = some n → P n) : ∀ (ts : List ThR) (e : Int) (f : Bool), (∀ t ∈ ts, P t.nt) → ∀ n ∈ mkL b e f ts, P n
  | [], e, f, _, n, h => by rw [mkL] at h; cases h
  | t :: r, e, f, ht, n, h => by
    rw [mkL] at h
    rcases List.mem_append.1 h with h | h
    · exact hl _ _ _ (by simpa using h)
    · rcases List.mem_cons.1 h with rfl | h
      · exact ht t (List.mem_cons_self ..)
      · exact mkL_mem b P hl r _ _ (fun q hq => ht q (List.mem_cons_of_mem _ hq)) n h
/-- The notes of a road are as defined. -/
theorem makeL_val {b : BkR} (hb : BkOK b) {R : Road} (hv : OK R) : ∀ n ∈ makeL b R, nVal n = true := by
  unfold makeL
  refine mkL_mem b _ (fun d f n h => ?_) _ _ _ (fun t ht => ?_)
  · have hm := metI_rng hb d
    unfold linkN at h
    split at h
    · cases h; exact (nVal2 ..).2 ⟨⟨rfl, rfl, rfl, rfl, rfl⟩, hm.1, hm.2, rfl, rfl, rfl⟩
    · split at h
      · cases h
      · split at h
        · cases h; rfl
        · cases h; rfl
  · rcases List.mem_append.1 (ssort_mem _ _ ht) with h | h
    · obtain ⟨j, hj, rfl⟩ := List.mem_map.1 h
      obtain ⟨i, hi, rfl⟩ := List.getElem_of_mem hj
      have h1 := hv.jk i hi _ (List.getElem?_eq_getElem hi)
      simp only [inR, Bool.and_eq_true, decide_eq_true_eq] at h1
      show nVal ⟨7, 0, 0, 0, 0, 0, 0, 0, R.js[i].way, R.js[i].arms⟩ = true
      exact decide_eq_true (by refine ⟨⟨rfl, rfl, rfl, rfl, rfl⟩, rfl, rfl, ?_, ?_, ?_, ?_⟩ <;> dsimp only <;> omega)
    rcases List.mem_append.1 h with h | h
    · obtain ⟨c, hc, rfl⟩ := List.mem_map.1 h
      obtain ⟨i, hi, rfl⟩ := List.getElem_of_mem hc
      have h1 := hv.ck i hi _ (List.getElem?_eq_getElem hi)
      simp only [inR, Bool.and_eq_true, decide_eq_true_eq] at h1
      show nVal ⟨5, 0, 0, 0, 0, 0, 0, R.cs[i].siz, 0, 0⟩ = true
      exact decide_eq_true (by refine ⟨⟨rfl, rfl, rfl, rfl, rfl⟩, rfl, ?_, ?_, ?_, ?_⟩ <;> dsimp only <;> omega)
    · obtain ⟨k, hk, rfl⟩ := List.mem_map.1 h
      exact (corn_tell hb hv hk).1
theorem mkL_len (b : BkR) : ∀ (ts : List ThR) (e : Int) (f : Bool), (mkL b e f ts).length ≤ 2 * ts.length
  | [], e, f => by rw [mkL]; simp
  | t :: r, e, f => by
    have := mkL_len b r (max e t.en) false
    rw [mkL, List.length_append, List.length_cons, List.length_cons]
    have : ((linkN b (max 0 (t.at_ - e)) f).toList).length ≤ 1 := by cases linkN b (max 0 (t.at_ - e)) f <;> simp
    omega
theorem makeL_len {b : BkR} {R : Road} : (makeL b R).length ≤ 2 * (R.js.length + R.cs.length + R.ps.length) := by
  have h1 := mkL_len b (sthings b R) 0 true
  have h2 := crns_len b.ga b.le R
  have h3 : (sthings b R).length = R.js.length + (R.cs.length + (crns b.ga b.le R).length) := by
    rw [sthings_len]
    unfold things
    simp
  unfold makeL
  omega
end Go.Proofs.YtcniibngfnkobaaGreatDoor
