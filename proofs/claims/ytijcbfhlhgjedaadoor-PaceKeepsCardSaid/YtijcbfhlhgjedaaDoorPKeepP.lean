/- Narrowed passings keep what fits, are narrowed already, and a run fits them: plain. No program in sight. -/
import Derived.Test.YtijcbfhlhgjedaaDoorPNrw
namespace Go.Proofs.YtijcbfhlhgjedaaDoor
open Go.RowKit Go.Shelf Go.Sort Go.Proofs

theorem gp_set (L : List PassR) (k : Nat) (y : PassR) (i : Nat) (hk : k < L.length) : (L.set k y).getD i zP = if i = k then y else L.getD i zP := by
  rw [List.getD_eq_getElem?_getD, List.getElem?_set, List.getD_eq_getElem?_getD]
  by_cases h : k = i
  · subst h
    rw [if_pos rfl, if_pos hk, if_pos rfl]
    rfl
  · rw [if_neg h, if_neg (fun e => h e.symm)]
theorem gi_set (L : List Int) (k : Nat) (y : Int) (i : Nat) (hk : k < L.length) : (L.set k y).getD i 0 = if i = k then y else L.getD i 0 := by
  rw [List.getD_eq_getElem?_getD, List.getElem?_set, List.getD_eq_getElem?_getD]
  by_cases h : k = i
  · subst h
    rw [if_pos rfl, if_pos hk, if_pos rfl]
    rfl
  · rw [if_neg h, if_neg (fun e => h e.symm)]
def befV (v : Nat → Int) (i : Nat) : Int := if i = 0 then 0 else v (i - 1)
/-- Times at the passings that fit them, as a run's do. -/
structure RunSeq (Q Mo : Int → Int) (ps : List PassR) (v : Nat → Int) : Prop where
  b : ∀ i, i < ps.length → (ps.getD i zP).early ≤ v i ∧ v i ≤ (ps.getD i zP).late
  d : ∀ i, i < ps.length → Q (ps.getD i zP).place - Q (befP ps i).place ≤ v i - befV v i ∧ v i - befV v i ≤ Mo (ps.getD i zP).place - Mo (befP ps i).place
/-- A list that is narrowed forward up to a, and backward from b on. -/
structure NI (Q Mo : Int → Int) (ps L : List PassR) (a b : Nat) : Prop where
  l : L.length = ps.length
  p : ∀ i, (L.getD i zP).place = (ps.getD i zP).place
  r : ∀ i, i < ps.length → (ps.getD i zP).early ≤ (L.getD i zP).early ∧ (L.getD i zP).late ≤ (ps.getD i zP).late
  f : ∀ i, i < a → (befP L i).early + (Q (L.getD i zP).place - Q (befP L i).place) ≤ (L.getD i zP).early ∧ (L.getD i zP).late ≤ (befP L i).late + (Mo (L.getD i zP).place - Mo (befP L i).place)
  g : ∀ i, b ≤ i → i + 1 < ps.length → (L.getD (i + 1) zP).early - (Mo (L.getD (i + 1) zP).place - Mo (L.getD i zP).place) ≤ (L.getD i zP).early ∧ (L.getD i zP).late ≤ (L.getD (i + 1) zP).late - (Q (L.getD (i + 1) zP).place - Q (L.getD i zP).place)
  v : ∀ v : Nat → Int, RunSeq Q Mo ps v → ∀ i, i < ps.length → (L.getD i zP).early ≤ v i ∧ v i ≤ (L.getD i zP).late
theorem bef_p {L ps : List PassR} (h : ∀ i, (L.getD i zP).place = (ps.getD i zP).place) (i : Nat) : (befP L i).place = (befP ps i).place := by
  unfold befP
  by_cases h0 : i = 0
  · rw [if_pos h0, if_pos h0]
  · rw [if_neg h0, if_neg h0]
    exact h (i - 1)
theorem bef_s (L : List PassR) (i : Nat) : befP L (i + 1) = L.getD i zP := by
  unfold befP
  rw [if_neg (by omega), Nat.add_sub_cancel]
theorem befV_s (v : Nat → Int) (i : Nat) : befV v (i + 1) = v i := by
  unfold befV
  rw [if_neg (by omega), Nat.add_sub_cancel]
theorem fwd_inv (Q Mo : Int → Int) (ps : List PassR) : ∀ k, k ≤ ps.length → NI Q Mo ps (fwd Q Mo ps k) k ps.length
  | 0, _ => ⟨rfl, fun _ => rfl, fun _ _ => ⟨Int.le_refl _, Int.le_refl _⟩, fun _ h => absurd h (Nat.not_lt_zero _), fun i h1 h2 => by omega, fun v hv i hi => hv.b i hi⟩
  | k + 1, hk => by
    have ih := fwd_inv Q Mo ps k (by omega)
    rw [fwd]
    obtain ⟨L, hL⟩ : ∃ L, L = fwd Q Mo ps k := ⟨_, rfl⟩
    rw [← hL] at ih ⊢
    have hkl : k < L.length := by rw [ih.l]; omega
    obtain ⟨y, hy⟩ : ∃ y, y = stepF Q Mo (befP L k) (L.getD k zP) := ⟨_, rfl⟩
    rw [← hy]
    have hgp := fun i => gp_set L k y i hkl
    have hbf : ∀ i, i ≤ k → befP (L.set k y) i = befP L i := by
      intro i hi
      unfold befP
      by_cases h0 : i = 0
      · rw [if_pos h0, if_pos h0]
      · rw [if_neg h0, if_neg h0, hgp, if_neg (by omega)]
    have hyp : y.place = (L.getD k zP).place := by rw [hy]; rfl
    have hye : y.early = max (L.getD k zP).early ((befP L k).early + (Q (L.getD k zP).place - Q (befP L k).place)) := by rw [hy]; rfl
    have hyl : y.late = min (L.getD k zP).late ((befP L k).late + (Mo (L.getD k zP).place - Mo (befP L k).place)) := by rw [hy]; rfl
    refine ⟨by rw [List.length_set]; exact ih.l, fun i => ?_, fun i hi => ?_, fun i hi => ?_, fun i h1 h2 => by omega, fun v hv i hi => ?_⟩
    · rw [hgp]
      split
      · rename_i h
        rw [hyp, h]
        exact ih.p k
      · exact ih.p i
    · rw [hgp]
      split
      · rename_i h
        have := ih.r i hi
        rw [hye, hyl]
        rw [h] at this ⊢
        omega
      · exact ih.r i hi
    · rw [hbf i (by omega), hgp]
      split
      · rename_i h
        rw [h, hyp, hye, hyl]
        omega
      · exact ih.f i (by omega)
    · rw [hgp]
      split
      · rename_i h
        have h1 := ih.v v hv i hi
        have h2 := hv.d i hi
        have h3 : (befP L i).early ≤ befV v i ∧ befV v i ≤ (befP L i).late := by
          unfold befP befV
          by_cases h0 : i = 0
          · rw [if_pos h0, if_pos h0]
            exact ⟨Int.le_refl _, Int.le_refl _⟩
          · rw [if_neg h0, if_neg h0]
            exact ih.v v hv (i - 1) (by omega)
        rw [← bef_p ih.p i, ← ih.p i] at h2
        rw [h] at h1 h2 h3 ⊢
        rw [hye, hyl]
        omega
      · exact ih.v v hv i hi
theorem pl_at {n : Int} {ps : List PassR} (hp : POK n ps) {i : Nat} (h : i < ps.length) : 0 ≤ (ps.getD i zP).place ∧ (ps.getD i zP).place ≤ n := by
  rw [getD_at h]
  exact (pok_at hp h).1
theorem pl_lt {n : Int} {ps : List PassR} (hp : POK n ps) {i : Nat} (h : i + 1 < ps.length) : (ps.getD i zP).place < (ps.getD (i + 1) zP).place := by
  rw [getD_at h, getD_at (by omega)]
  exact pok_lt hp h
theorem bwd_inv {n T : Int} {Q Mo : Int → Int} (hq : QM n T Q Mo) {ps F : List PassR} (hp : POK n ps) (hF : NI Q Mo ps F ps.length ps.length) : ∀ k, k + 1 ≤ ps.length → NI Q Mo ps (bwd Q Mo F k) ps.length (ps.length - 1 - k)
  | 0, _ => ⟨hF.l, hF.p, hF.r, hF.f, fun i h1 h2 => by omega, hF.v⟩
  | k + 1, hk => by
    have ih := bwd_inv hq hp hF k (by omega)
    rw [bwd]
    obtain ⟨L, hL⟩ : ∃ L, L = bwd Q Mo F k := ⟨_, rfl⟩
    rw [← hL] at ih ⊢
    rw [hF.l]
    obtain ⟨m, hm⟩ : ∃ m, m = ps.length - 2 - k := ⟨_, rfl⟩
    rw [← hm, show ps.length - 1 - k = m + 1 by omega]
    have hb : ps.length - 1 - k = m + 1 := by omega
    rw [show ps.length - 1 - (k + 1) = m by omega]
    rw [hb] at ih
    have hml : m < L.length := by rw [ih.l]; omega
    obtain ⟨y, hy⟩ : ∃ y, y = stepB Q Mo (L.getD (m + 1) zP) (L.getD m zP) := ⟨_, rfl⟩
    rw [← hy]
    have hgp := fun i => gp_set L m y i hml
    have hyp : y.place = (L.getD m zP).place := by rw [hy]; rfl
    have hye : y.early = max (L.getD m zP).early ((L.getD (m + 1) zP).early - (Mo (L.getD (m + 1) zP).place - Mo (L.getD m zP).place)) := by rw [hy]; rfl
    have hyl : y.late = min (L.getD m zP).late ((L.getD (m + 1) zP).late - (Q (L.getD (m + 1) zP).place - Q (L.getD m zP).place)) := by rw [hy]; rfl
    have hbf : ∀ i, i ≠ m + 1 → befP (L.set m y) i = befP L i := by
      intro i hi
      unfold befP
      by_cases h0 : i = 0
      · rw [if_pos h0, if_pos h0]
      · rw [if_neg h0, if_neg h0, hgp, if_neg (by omega)]
    have hbs : befP (L.set m y) (m + 1) = y := by rw [bef_s, hgp, if_pos rfl]
    have hg1 : (L.set m y).getD (m + 1) zP = L.getD (m + 1) zP := by rw [hgp, if_neg (by omega)]
    have hg0 : (L.set m y).getD m zP = y := by rw [hgp, if_pos rfl]
    have hQ : Q (L.getD (m + 1) zP).place - Q (L.getD m zP).place ≤ Mo (L.getD (m + 1) zP).place - Mo (L.getD m zP).place := by
      rw [ih.p, ih.p]
      have h1 := pl_at hp (i := m) (by omega)
      have h2 := pl_at hp (i := m + 1) (by omega)
      have h3 := pl_lt hp (i := m) (by omega)
      exact (hq.q _ _ h1.1 (by omega) h2.2).2
    refine ⟨by rw [List.length_set]; exact ih.l, fun i => ?_, fun i hi => ?_, fun i hi => ?_, fun i h1 h2 => ?_, fun v hv i hi => ?_⟩
    · rw [hgp]
      split
      · rename_i h
        rw [hyp, h]
        exact ih.p m
      · exact ih.p i
    · rw [hgp]
      split
      · rename_i h
        have := ih.r i hi
        rw [hye, hyl]
        rw [h] at this ⊢
        omega
      · exact ih.r i hi
    · by_cases h1 : i = m + 1
      · rw [h1, hbs, hg1, hyp]
        have h2 := ih.f (m + 1) (by omega)
        rw [bef_s] at h2
        omega
      · rw [hbf i h1, hgp]
        split
        · rename_i h
          have h2 := ih.f i hi
          rw [hyp]
          rw [h] at h2 ⊢
          omega
        · exact ih.f i hi
    · by_cases h3 : i = m
      · rw [h3, hg1, hg0, hyp]
        omega
      · rw [hgp, hgp, if_neg (by omega), if_neg h3]
        exact ih.g i (by omega) h2
    · rw [hgp]
      split
      · rename_i h
        rw [h] at hi ⊢
        have h1 := ih.v v hv m hi
        have h2 := ih.v v hv (m + 1) (by omega)
        have h3 := hv.d (m + 1) (by omega)
        rw [bef_s, befV_s, ← ih.p, ← ih.p] at h3
        rw [hye, hyl]
        omega
      · exact ih.v v hv i hi
theorem nrw_inv {n T : Int} {Q Mo : Int → Int} (hq : QM n T Q Mo) {ps : List PassR} (hp : POK n ps) : NI Q Mo ps (nrw Q Mo ps) ps.length 0 := by
  unfold nrw
  have h1 := fwd_inv Q Mo ps ps.length (Nat.le_refl _)
  rcases Nat.eq_zero_or_pos ps.length with h0 | h0
  · rw [h0] at h1 ⊢
    exact ⟨h1.l, h1.p, h1.r, h1.f, fun i _ h => by omega, h1.v⟩
  · have h2 := bwd_inv hq hp h1 (ps.length - 1) (by omega)
    rw [show ps.length - 1 - (ps.length - 1) = 0 by omega] at h2
    exact h2
theorem fwd_id {Q Mo : Int → Int} {L : List PassR} (h : ∀ i, i < L.length → (befP L i).early + (Q (L.getD i zP).place - Q (befP L i).place) ≤ (L.getD i zP).early ∧ (L.getD i zP).late ≤ (befP L i).late + (Mo (L.getD i zP).place - Mo (befP L i).place)) : ∀ k, k ≤ L.length → fwd Q Mo L k = L
  | 0, _ => rfl
  | k + 1, hk => by
    rw [fwd, fwd_id h k (by omega)]
    have h1 := h k (by omega)
    have h2 : stepF Q Mo (befP L k) (L.getD k zP) = L.getD k zP := by
      unfold stepF
      rw [Int.max_eq_left h1.1, Int.min_eq_left h1.2]
    rw [h2, getD_at (by omega), List.set_getElem_self]
theorem bwd_id {Q Mo : Int → Int} {L : List PassR} (h : ∀ i, i + 1 < L.length → (L.getD (i + 1) zP).early - (Mo (L.getD (i + 1) zP).place - Mo (L.getD i zP).place) ≤ (L.getD i zP).early ∧ (L.getD i zP).late ≤ (L.getD (i + 1) zP).late - (Q (L.getD (i + 1) zP).place - Q (L.getD i zP).place)) : ∀ k, k + 1 ≤ L.length → bwd Q Mo L k = L
  | 0, _ => rfl
  | k + 1, hk => by
    rw [bwd, bwd_id h k (by omega)]
    obtain ⟨m, hm⟩ : ∃ m, m = L.length - 2 - k := ⟨_, rfl⟩
    rw [← hm, show L.length - 1 - k = m + 1 by omega]
    have h1 := h m (by omega)
    have h2 : stepB Q Mo (L.getD (m + 1) zP) (L.getD m zP) = L.getD m zP := by
      unfold stepB
      rw [Int.max_eq_left h1.1, Int.min_eq_left h1.2]
    rw [h2, getD_at (by omega), List.set_getElem_self]
theorem nrw_again {n T : Int} {Q Mo : Int → Int} (hq : QM n T Q Mo) {ps : List PassR} (hp : POK n ps) : nrw Q Mo (nrw Q Mo ps) = nrw Q Mo ps := by
  have h := nrw_inv hq hp
  obtain ⟨L, hL⟩ : ∃ L, L = nrw Q Mo ps := ⟨_, rfl⟩
  rw [← hL] at h ⊢
  unfold nrw
  rw [fwd_id (fun i hi => h.f i (by rw [← h.l]; exact hi)) L.length (Nat.le_refl _)]
  rcases Nat.eq_zero_or_pos L.length with h0 | h0
  · rw [h0]
    rfl
  · exact bwd_id (fun i hi => h.g i (Nat.zero_le _) (by rw [← h.l]; exact hi)) _ (by omega)
theorem all_getD (f : PassR → Bool) (L : List PassR) : L.all f = true ↔ ∀ i, i < L.length → f (L.getD i zP) = true := by
  rw [List.all_eq_true]
  constructor
  · intro h i hi
    rw [getD_at hi]
    exact h _ (List.getElem_mem hi)
  · intro h x hx
    obtain ⟨i, hi, rfl⟩ := List.getElem_of_mem hx
    have := h i hi
    rwa [getD_at hi] at this
/-- The times as early, or as late, as possible at the passings. -/
theorem early_seq {Q Mo : Int → Int} {ps L : List PassR} (h : NI Q Mo ps L ps.length 0) (hok : nrwOk L = true) : RunSeq Q Mo ps (fun i => (L.getD i zP).early) := by
  have hk := (all_getD _ _).1 hok
  simp only [decide_eq_true_eq] at hk
  refine ⟨fun i hi => ?_, fun i hi => ?_⟩
  · have h1 := h.r i hi
    have h2 := hk i (by rw [h.l]; exact hi)
    try dsimp only
    omega
  · have h1 := h.f i hi
    rw [← h.p, ← bef_p h.p]
    have h2 := hk i (by rw [h.l]; exact hi)
    rcases Nat.eq_zero_or_pos i with h0 | h0
    · subst h0
      have hb : befP L 0 = zP := if_pos rfl
      have hv : befV (fun i => (L.getD i zP).early) 0 = 0 := if_pos rfl
      rw [hb] at h1 ⊢
      rw [hv]
      simp only [zP] at h1 ⊢
      simp only [zP] at h2
      omega
    · obtain ⟨j, rfl⟩ : ∃ j, i = j + 1 := ⟨i - 1, by omega⟩
      have h3 := h.g j (Nat.zero_le _) hi
      rw [bef_s] at h1 ⊢
      rw [befV_s]
      try dsimp only
      omega
theorem late_seq {Q Mo : Int → Int} {ps L : List PassR} (h : NI Q Mo ps L ps.length 0) (hok : nrwOk L = true) : RunSeq Q Mo ps (fun i => (L.getD i zP).late) := by
  have hk := (all_getD _ _).1 hok
  simp only [decide_eq_true_eq] at hk
  refine ⟨fun i hi => ?_, fun i hi => ?_⟩
  · have h1 := h.r i hi
    have h2 := hk i (by rw [h.l]; exact hi)
    try dsimp only
    omega
  · have h1 := h.f i hi
    rw [← h.p, ← bef_p h.p]
    have h2 := hk i (by rw [h.l]; exact hi)
    rcases Nat.eq_zero_or_pos i with h0 | h0
    · subst h0
      have hb : befP L 0 = zP := if_pos rfl
      have hv : befV (fun i => (L.getD i zP).late) 0 = 0 := if_pos rfl
      rw [hb] at h1 ⊢
      rw [hv]
      simp only [zP] at h1 ⊢
      simp only [zP] at h2
      omega
    · obtain ⟨j, rfl⟩ : ∃ j, i = j + 1 := ⟨i - 1, by omega⟩
      have h3 := h.g j (Nat.zero_le _) hi
      rw [bef_s] at h1 ⊢
      rw [befV_s]
      try dsimp only
      omega
/-- Narrowed passings are as defined. -/
theorem nrw_pok {n : Int} {Q Mo : Int → Int} {ps L : List PassR} (hp : POK n ps) (h : NI Q Mo ps L ps.length 0) (hok : nrwOk L = true) : POK n L := by
  have hk := (all_getD _ _).1 hok
  simp only [decide_eq_true_eq] at hk
  refine ⟨by rw [h.l]; exact hp.l1, fun i hi c hc => ?_⟩
  have hi' : i < ps.length := by rw [← h.l]; exact hi
  have hc' : L.getD i zP = c := by rw [List.getD_eq_getElem?_getD, hc]; rfl
  have h1 := pl_at hp hi'
  have h2 := h.r i hi'
  have h3 := hk i hi
  have h4 := pok_at hp hi'
  have h5 := h.p i
  rw [getD_at hi'] at h1 h2 h5
  rw [hc'] at h2 h3 h5
  refine ⟨by simp [inR]; omega, by omega, h3, by omega, fun d h0 hd => ?_⟩
  have hd' : L.getD (i - 1) zP = d := by rw [List.getD_eq_getElem?_getD, hd]; rfl
  have h6 := pl_lt hp (i := i - 1) (by omega)
  have h7 := h.p (i - 1)
  rw [show i - 1 + 1 = i by omega, getD_at hi'] at h6
  rw [hd'] at h7
  omega
theorem fit_runs {S : Spd} {R : Road} {us : List Int} {N : Nat} (h : ∀ i, i < us.length → okI S R us i = true) (hl : us.length = N + 1) : Runs S R N (fun k => us.getD k 0) := by
  have hat : ∀ k, k < us.length → us[k]? = some (us.getD k 0) := fun k hk => by rw [List.getD_eq_getElem?_getD, List.getElem?_eq_getElem hk]; rfl
  refine ⟨?_, fun k hk => ?_⟩
  · have h0 := h 0 (by omega)
    rw [okI_0 (hat 0 (by omega))] at h0
    simpa using h0
  · have h0 := h (k + 1) (by omega)
    rw [okI_s (hat (k + 1) (by omega)) (hat k (by omega))] at h0
    simpa only [Bool.and_eq_true, decide_eq_true_eq] using h0
theorem fit_seq {S : Spd} {R : Road} {ps : List PassR} {us : List Int} {N : Nat} (hN : sumL R.ps = N) (hp : POK (sumL R.ps) ps) (hl : us.length = N + 1) (h : ∀ i, i < us.length → okI S R us i = true) (ha : ps.all (inP us) = true) :
    RunSeq (qS S R) (sS S R) ps (fun i => runOf us (ps.getD i zP).place) := by
  have hr := fit_runs h hl
  refine ⟨fun i hi => ?_, fun i hi => ?_⟩
  · have h1 := (all_getD _ _).1 ha i hi
    simpa only [inP, inR, Bool.and_eq_true, decide_eq_true_eq] using h1
  · have h1 := pl_at hp hi
    rcases Nat.eq_zero_or_pos i with h0 | h0
    · subst h0
      have h2 := hr.at_ (a := 0) (b := (ps.getD 0 zP).place.toNat) (Nat.zero_le _) (by omega)
      have hz := hr.z
      have hb : befP ps 0 = zP := if_pos rfl
      have hv : befV (fun i => runOf us (ps.getD i zP).place) 0 = 0 := if_pos rfl
      rw [hb, hv]
      simp only [qS, sS, runOf, show zP.place.toNat = 0 from rfl]
      try dsimp only at h2 hz
      rw [hz] at h2
      exact h2
    · obtain ⟨j, rfl⟩ : ∃ j, i = j + 1 := ⟨i - 1, by omega⟩
      have h3 := pl_lt hp hi
      have h4 := pl_at hp (i := j) (by omega)
      have h2 := hr.at_ (a := (ps.getD j zP).place.toNat) (b := (ps.getD (j + 1) zP).place.toNat) (by omega) (by omega)
      rw [bef_s, befV_s]
      simp only [qS, sS, runOf]
      exact h2
theorem fit_keeps {S : Spd} {R : Road} {ps : List PassR} {us : List Int} {N : Nat} (hS : SOK S) (hv : OK R) (hN : sumL R.ps = N) (hp : POK (sumL R.ps) ps) (hl : us.length = N + 1) :
    fitM S R (nrwR S R ps) us = fitM S R ps us ∧ (fitM S R ps us = true → nrwOk (nrwR S R ps) = true) := by
  have hI := nrw_inv (qm_of hS hv) hp
  by_cases h : ∀ i, i < us.length → okI S R us i = true
  · rw [fitM_yes h, fitM_yes h]
    have key : ps.all (inP us) = true → ∀ i, i < ps.length → ((nrwR S R ps).getD i zP).early ≤ runOf us (ps.getD i zP).place ∧ runOf us (ps.getD i zP).place ≤ ((nrwR S R ps).getD i zP).late := fun ha i hi => hI.v _ (fit_seq hN hp hl h ha) i hi
    refine ⟨?_, fun ha => ?_⟩
    · rw [Bool.eq_iff_iff]
      constructor
      · intro ha
        rw [all_getD] at ha ⊢
        intro i hi
        have h1 := ha i (by unfold nrwR; rw [hI.l]; exact hi)
        have h2 := hI.r i hi
        have h3 := hI.p i
        simp only [inP, inR, Bool.and_eq_true, decide_eq_true_eq] at h1 ⊢
        unfold nrwR at h1
        rw [h3] at h1
        omega
      · intro ha
        rw [all_getD]
        intro i hi
        have hi' : i < ps.length := by unfold nrwR at hi; rw [hI.l] at hi; exact hi
        have h1 := key ha i hi'
        have h3 := hI.p i
        simp only [inP, inR, Bool.and_eq_true, decide_eq_true_eq]
        unfold nrwR at h1 ⊢
        rw [h3]
        exact h1
    · unfold nrwOk
      rw [all_getD]
      intro i hi
      have hi' : i < ps.length := by unfold nrwR at hi; rw [hI.l] at hi; exact hi
      have h1 := key ha i hi'
      simp only [decide_eq_true_eq]
      omega
  · obtain ⟨i, hi, h2⟩ : ∃ i, i < us.length ∧ okI S R us i = false := by
      apply Classical.byContradiction
      intro hc
      refine h fun i hi => ?_
      cases hx : okI S R us i
      · exact absurd ⟨i, hi, hx⟩ hc
      · rfl
    rw [fitM_no hi h2, fitM_no hi h2]
    exact ⟨rfl, fun h => by cases h⟩
/-- A run that is being laid: done up to place k, and through i passings. -/
structure GI (S : Spd) (R : Road) (N : Nat) (ps : List PassR) (W : Nat → Int) (xs : List Int) (i k : Nat) : Prop where
  l : xs.length = N + 1
  z : xs.getD 0 0 = 0
  s : ∀ j, j < k → tQ S R.ps (j + 1) - tQ S R.ps j ≤ xs.getD (j + 1) 0 - xs.getD j 0 ∧ xs.getD (j + 1) 0 - xs.getD j 0 ≤ tSl S R.ps (j + 1) - tSl S R.ps j
  w : ∀ j, j < i → (ps.getD j zP).place.toNat ≤ k ∧ xs.getD (ps.getD j zP).place.toNat 0 = W j
/-- What is left up to the next passing can be run in the time that is left. -/
def LeftT (S : Spd) (R : Road) (ps : List PassR) (W : Nat → Int) (at_ : Int) (i k : Nat) : Prop := k ≤ (ps.getD i zP).place.toNat ∧ tQ S R.ps (ps.getD i zP).place.toNat - tQ S R.ps k ≤ W i - at_ ∧ W i - at_ ≤ tSl S R.ps (ps.getD i zP).place.toNat - tSl S R.ps k
theorem GI.start {S : Spd} {R : Road} {N : Nat} {ps : List PassR} {W : Nat → Int} : GI S R N ps W (List.replicate (N + 1) 0) 0 0 :=
  ⟨List.length_replicate, by rw [List.getD_eq_getElem?_getD, List.getElem?_replicate, if_pos (by omega)]; rfl, fun j h => absurd h (Nat.not_lt_zero _), fun j h => absurd h (Nat.not_lt_zero _)⟩
theorem GI.step {S : Spd} {R : Road} {N : Nat} {ps : List PassR} {W : Nat → Int} {xs : List Int} {i k : Nat} (h : GI S R N ps W xs i k) (hk : k < N) {d : Int} (h1 : tQ S R.ps (k + 1) - tQ S R.ps k ≤ d) (h2 : d ≤ tSl S R.ps (k + 1) - tSl S R.ps k) :
    GI S R N ps W (xs.set (k + 1) (xs.getD k 0 + d)) i (k + 1) := by
  have hl : k + 1 < xs.length := by rw [h.l]; omega
  have hg := fun j => gi_set xs (k + 1) (xs.getD k 0 + d) j hl
  refine ⟨by rw [List.length_set]; exact h.l, by rw [hg, if_neg (by omega)]; exact h.z, fun j hj => ?_, fun j hj => ?_⟩
  · by_cases he : j = k
    · subst he
      rw [hg, hg, if_pos rfl, if_neg (by omega)]
      omega
    · rw [hg, hg, if_neg (by omega), if_neg (by omega)]
      exact h.s j (by omega)
  · have := h.w j hj
    refine ⟨by omega, ?_⟩
    rw [hg, if_neg (by omega)]
    exact this.2
theorem left_start {S : Spd} {R : Road} {ps : List PassR} {W : Nat → Int} (hp : POK (sumL R.ps) ps) (hW : RunSeq (qS S R) (sS S R) ps W) (h0 : 0 < ps.length) : LeftT S R ps W 0 0 0 := by
  have h1 := hW.d 0 h0
  have h2 := pl_at hp h0
  have hb : befP ps 0 = zP := if_pos rfl
  have hv : befV W 0 = 0 := if_pos rfl
  rw [hb, hv] at h1
  simp only [qS, sS, show zP.place.toNat = 0 from rfl] at h1
  exact ⟨Nat.zero_le _, by omega, by omega⟩
theorem left_next {S : Spd} {R : Road} {ps : List PassR} {W : Nat → Int} (hp : POK (sumL R.ps) ps) (hW : RunSeq (qS S R) (sS S R) ps W) {i k : Nat} (hi : i + 1 < ps.length) (hk : k = (ps.getD i zP).place.toNat) : LeftT S R ps W (W i) (i + 1) k := by
  have h1 := hW.d (i + 1) hi
  have h2 := pl_lt hp hi
  rw [bef_s, befV_s] at h1
  simp only [qS, sS] at h1
  subst hk
  exact ⟨by omega, by omega, by omega⟩
theorem left_step {S : Spd} {R : Road} {ps : List PassR} {W : Nat → Int} {t a b c : Int} {i k z : Nat} (hz : (ps.getD i zP).place.toNat = z) (h : LeftT S R ps W t i k) (hk : k < z) (ha : a = tQ S R.ps (k + 1) - tQ S R.ps k) (hc : c = tSl S R.ps (k + 1) - tSl S R.ps k) (hb : b = tSl S R.ps z - tSl S R.ps (k + 1)) (hac : a ≤ c) (hqs : tQ S R.ps z - tQ S R.ps (k + 1) ≤ b) :
    a ≤ min c (max a (W i - t - b)) ∧ min c (max a (W i - t - b)) ≤ c ∧ LeftT S R ps W (t + min c (max a (W i - t - b))) i (k + 1) := by
  obtain ⟨-, h2, h3⟩ := h
  rw [hz] at h2 h3
  unfold LeftT
  rw [hz]
  refine ⟨by omega, by omega, by omega, by omega, by omega⟩
theorem left_done {S : Spd} {R : Road} {ps : List PassR} {W : Nat → Int} {t : Int} {i k z : Nat} (hz : (ps.getD i zP).place.toNat = z) (h : LeftT S R ps W t i k) (hk : ¬ k < z) : k = z ∧ t = W i := by
  obtain ⟨h1, h2, h3⟩ := h
  rw [hz] at h1 h2 h3
  obtain rfl : k = z := by omega
  exact ⟨rfl, by omega⟩
theorem GI.next {S : Spd} {R : Road} {N : Nat} {ps : List PassR} {W : Nat → Int} {xs : List Int} {i k : Nat} (h : GI S R N ps W xs i k) (hk : k = (ps.getD i zP).place.toNat) (hw : xs.getD k 0 = W i) : GI S R N ps W xs (i + 1) k := by
  refine ⟨h.l, h.z, h.s, fun j hj => ?_⟩
  by_cases he : j = i
  · subst he
    rw [← hk]
    exact ⟨Nat.le_refl _, hw⟩
  · exact h.w j (by omega)
theorem GI.fit {S : Spd} {R : Road} {N : Nat} {ps : List PassR} {W : Nat → Int} {xs : List Int} (h : GI S R N ps W xs ps.length N) (hW : RunSeq (qS S R) (sS S R) ps W) : fitM S R ps xs = true := by
  have hat : ∀ k, k < xs.length → xs[k]? = some (xs.getD k 0) := fun k hk => by rw [List.getD_eq_getElem?_getD, List.getElem?_eq_getElem hk]; rfl
  have hl := h.l
  rw [fitM_yes (fun i hi => ?_), all_getD]
  · intro i hi
    have h1 := hW.b i hi
    have h2 := (h.w i hi).2
    have h3 : runOf xs (ps.getD i zP).place = W i := h2
    simp only [inP, inR, Bool.and_eq_true, decide_eq_true_eq]
    rw [h3]
    exact h1
  · cases i with
    | zero =>
      rw [okI_0 (hat 0 hi), h.z]
      rfl
    | succ i =>
      rw [okI_s (hat (i + 1) hi) (hat i (by omega))]
      have := h.s i (by omega)
      rw [decide_eq_true this.1, decide_eq_true this.2]
      rfl
theorem GI.bd {S : Spd} {R : Road} {N : Nat} {ps : List PassR} {W : Nat → Int} {xs : List Int} {i k : Nat} (h : GI S R N ps W xs i k) (hS : SOK S) (hv : OK R) : 0 ≤ xs.getD k 0 ∧ xs.getD k 0 ≤ 1000070000000 := by
  have hr : Runs S R k (fun j => xs.getD j 0) := ⟨h.z, fun j hj => h.s j hj⟩
  exact hr.bd hS hv (Nat.le_refl k)
end Go.Proofs.YtijcbfhlhgjedaaDoor
