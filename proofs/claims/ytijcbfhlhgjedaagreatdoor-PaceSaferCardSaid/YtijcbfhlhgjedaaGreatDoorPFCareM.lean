/- The safer road of two surveys: as defined, of their length, at each place not wider, not better, not less bent; with the crests and junctions of both. No program in sight. -/
import Derived.Test.YtijcbfhlhgjedaaGreatDoorPCBBase
import Derived.Test.YtijcbfhlhgjedaaGreatDoorPCBRoad
import Derived.Test.YtijcbfhlhgjedaaGreatDoorPCBLeaf
import Derived.Test.YtijcbfhlhgjedaaGreatDoorPCBCheck
import Derived.Test.YtijcbfhlhgjedaaGreatDoorPCBValid
import Derived.Test.YtijcbfhlhgjedaaGreatDoorPCBFind
import Derived.Test.YtijcbfhlhgjedaaGreatDoorPCBReg
import Derived.Test.YtijcbfhlhgjedaaGreatDoorPCBGrouped
import Derived.Test.YtijcbfhlhgjedaaGreatDoorPCBPG
import Derived.Test.YtijcbfhlhgjedaaGreatDoorPCBStr
import Derived.Test.YtijcbfhlhgjedaaGreatDoorPCBCmp
import Derived.Test.YtijcbfhlhgjedaaGreatDoorPCBOpen
import Derived.Test.YtijcbfhlhgjedaaGreatDoorPCBReg7
import Derived.Test.YtijcbfhlhgjedaaGreatDoorPCPRow
import Derived.Test.YtijcbfhlhgjedaaGreatDoorPCMtr
import Derived.Test.YtijcbfhlhgjedaaGreatDoorPCReg8
import Derived.Test.YtijcbfhlhgjedaaGreatDoorPCSpCk
import Derived.Test.YtijcbfhlhgjedaaGreatDoorPCPlanM
import Derived.Test.YtijcbfhlhgjedaaGreatDoorPCLast
import Derived.Test.YtijcbfhlhgjedaaGreatDoorPCBeg
import Derived.Test.YtijcbfhlhgjedaaGreatDoorPCRoom
import Derived.Test.YtijcbfhlhgjedaaGreatDoorPCCallsB
import Derived.Test.YtijcbfhlhgjedaaGreatDoorPCPlan
import Derived.Test.YtijcbfhlhgjedaaGreatDoorPCBetw
import Derived.Test.YtijcbfhlhgjedaaGreatDoorPCKn03P
import Derived.Test.YtijcbfhlhgjedaaGreatDoorPCRef3
import Derived.Test.YtijcbfhlhgjedaaGreatDoorPFSresM
namespace Go.Proofs.YtijcbfhlhgjedaaGreatDoor
open Go.RowKit Go.Shelf Go.Sort Go.Proofs

/-- Not wider, better or less bent. -/
def carB (x z : Piece) : Bool := decide (z.wid ≤ x.wid) && (decide (x.sur ≤ z.sur) && (decide (x.turn = 0) || (decide (z.turn = x.turn) && decide (z.rad ≤ x.rad))))
theorem sfr_car {x y z : Piece} {l : Int} (h : sfr x y l = some z) : carB x z = true ∧ carB y z = true := by
  have h1 : (if y.wid < x.wid then y.wid else x.wid) ≤ x.wid := by split <;> omega
  have h2 : (if y.wid < x.wid then y.wid else x.wid) ≤ y.wid := by split <;> omega
  have h3 : x.sur ≤ (if x.sur < y.sur then y.sur else x.sur) := by split <;> omega
  have h4 : y.sur ≤ (if x.sur < y.sur then y.sur else x.sur) := by split <;> omega
  have h5 : (if y.rad < x.rad then y.rad else x.rad) ≤ x.rad := by split <;> omega
  have h6 : (if y.rad < x.rad then y.rad else x.rad) ≤ y.rad := by split <;> omega
  unfold sfr at h
  simp only [carB, Bool.and_eq_true, Bool.or_eq_true, decide_eq_true_eq]
  split at h
  · cases h
    exact ⟨⟨h1, h3, .inl (by assumption)⟩, h2, h4, .inr ⟨rfl, Int.le_refl _⟩⟩
  · split at h
    · cases h
      exact ⟨⟨h1, h3, .inr ⟨rfl, Int.le_refl _⟩⟩, h2, h4, .inl (by assumption)⟩
    · split at h
      · rename_i he
        cases h
        exact ⟨⟨h1, h3, .inr ⟨rfl, h5⟩⟩, h2, h4, .inr ⟨he, h6⟩⟩
      · cases h
theorem rfM_get (xs ys : List Piece) : ∀ (k : Nat) {L : List Piece}, k ≤ xs.length → k ≤ ys.length → rfM xs ys k = some L → L.length = k ∧ ∀ i, i < k → ∃ x y z, xs[i]? = some x ∧ ys[i]? = some y ∧ L[i]? = some z ∧ sfr x y 1 = some z
  | 0, L, _, _, h => by cases h; exact ⟨rfl, fun i hi => by omega⟩
  | k + 1, L, hx, hy, h => by
    have h1 : xs[k]? = some xs[k] := List.getElem?_eq_getElem (by omega)
    have h2 : ys[k]? = some ys[k] := List.getElem?_eq_getElem (by omega)
    rw [rfM_succ xs ys k h1 h2] at h
    cases hk : rfM xs ys k with
    | none => rw [hk] at h; cases h
    | some L' =>
      rw [hk] at h
      obtain ⟨i1, i2⟩ := rfM_get xs ys k (by omega) (by omega) hk
      simp only [Option.bind_some] at h
      cases hs : sfr xs[k] ys[k] 1 with
      | none => rw [hs] at h; cases h
      | some z =>
        rw [hs] at h
        cases h
        refine ⟨by simp [i1], fun i hi => ?_⟩
        by_cases hik : i < k
        · obtain ⟨x, y, z', a1, a2, a3, a4⟩ := i2 i hik
          exact ⟨x, y, z', a1, a2, by rw [List.getElem?_append_left (by omega)]; exact a3, a4⟩
        · obtain rfl : i = k := by omega
          exact ⟨_, _, z, h1, h2, by rw [List.getElem?_append_right (by omega), i1]; simp, hs⟩
theorem units_id : ∀ {L : List Piece}, (∀ z ∈ L, z.len = 1) → units L = L
  | [], _ => rfl
  | p :: L, h => by
    have hp := h p (List.mem_cons_self ..)
    have e : one p = p := by cases p; simp only at hp; subst hp; rfl
    rw [units_cons, units_id (fun z hz => h z (List.mem_cons_of_mem _ hz)), hp, e]
    rfl
section
variable {α : Type} (key : α → Int) (both : α → α → α) (ok : α → α → Bool)
theorem mr2_mem : ∀ {L R : List α} {z : α}, z ∈ mr2 key both L R → z ∈ L ∨ z ∈ R ∨ ∃ l ∈ L, ∃ r ∈ R, z = both l r
  | [], R, z, h => .inr (.inl (by rwa [nil_mr2] at h))
  | l :: L, [], z, h => .inl (by rwa [mr2_nil] at h)
  | l :: L, r :: R, z, h => by
    rw [mr2_cons] at h
    split at h
    · rcases List.mem_cons.1 h with rfl | h
      · exact .inl (List.mem_cons_self ..)
      · rcases mr2_mem h with h | h | ⟨a, ha, b, hb, e⟩
        · exact .inl (List.mem_cons_of_mem _ h)
        · exact .inr (.inl h)
        · exact .inr (.inr ⟨a, List.mem_cons_of_mem _ ha, b, hb, e⟩)
    · split at h
      · rcases List.mem_cons.1 h with rfl | h
        · exact .inr (.inl (List.mem_cons_self ..))
        · rcases mr2_mem h with h | h | ⟨a, ha, b, hb, e⟩
          · exact .inl h
          · exact .inr (.inl (List.mem_cons_of_mem _ h))
          · exact .inr (.inr ⟨a, ha, b, List.mem_cons_of_mem _ hb, e⟩)
      · rcases List.mem_cons.1 h with rfl | h
        · exact .inr (.inr ⟨l, List.mem_cons_self .., r, List.mem_cons_self .., rfl⟩)
        · rcases mr2_mem h with h | h | ⟨a, ha, b, hb, e⟩
          · exact .inl (List.mem_cons_of_mem _ h)
          · exact .inr (.inl (List.mem_cons_of_mem _ h))
          · exact .inr (.inr ⟨a, List.mem_cons_of_mem _ ha, b, List.mem_cons_of_mem _ hb, e⟩)
termination_by L R => L.length + R.length
theorem mr2_above (hb : ∀ x y, key (both x y) = key x) {L R : List α} {m : Int} (hL : ∀ z ∈ L, m < key z) (hR : ∀ z ∈ R, m < key z) : ∀ z ∈ mr2 key both L R, m < key z := by
  intro z hz
  rcases mr2_mem key both hz with h | h | ⟨l, hl, r, hr, rfl⟩
  · exact hL z h
  · exact hR z h
  · rw [hb]; exact hL l hl
theorem mr2_pw (hb : ∀ x y, key (both x y) = key x) : ∀ {L R : List α}, Pw key L → Pw key R → Pw key (mr2 key both L R)
  | [], R, _, h => by rwa [nil_mr2]
  | l :: L, [], h, _ => by rwa [mr2_nil]
  | l :: L, r :: R, hL, hR => by
    obtain ⟨h1, h2⟩ := List.pairwise_cons.1 hL
    obtain ⟨h3, h4⟩ := List.pairwise_cons.1 hR
    rw [mr2_cons]
    split
    · rename_i c1
      refine List.pairwise_cons.2 ⟨mr2_above key both hb h1 (fun z hz => ?_), mr2_pw hb h2 hR⟩
      rcases List.mem_cons.1 hz with rfl | hz
      · exact c1
      · have := h3 z hz; omega
    · split
      · rename_i c2
        refine List.pairwise_cons.2 ⟨mr2_above key both hb (fun z hz => ?_) h3, mr2_pw hb hL h4⟩
        rcases List.mem_cons.1 hz with rfl | hz
        · exact c2
        · have := h1 z hz; omega
      · refine List.pairwise_cons.2 ⟨mr2_above key both hb (fun z hz => ?_) (fun z hz => ?_), mr2_pw hb h2 h4⟩
        · rw [hb]; exact h1 z hz
        · have := h3 z hz; rw [hb]; omega
termination_by L R => L.length + R.length
end
/-- Where the safer road exists: its pieces place by place, and what else it is. -/
theorem sres_zero {R R2 : Road} (h : (sres R R2).2 = 0) : ∃ L, rfM (units R.ps) (units R2.ps) (sumL R.ps).toNat = some L ∧ fitsR (sres R R2).1 = true ∧
    (sres R R2).1 = ⟨normP L, mr2 (fun x : Crest => x.pos) bothC R.cs R2.cs, mr2 (fun x : Junc => x.pos) bothJ R.js R2.js⟩ := by
  cases hL : rfM (units R.ps) (units R2.ps) (sumL R.ps).toNat with
  | none => rw [sres_none hL] at h; cases h
  | some L =>
    rw [sres_some hL] at h ⊢
    split
    · split
      · rename_i hf
        exact ⟨L, rfl, hf, rfl⟩
      · rename_i h1 h2
        rw [if_pos h1, if_neg h2] at h
        cases h
    · rename_i h1
      rw [if_neg h1] at h
      cases h
theorem sres_ok {R R2 : Road} (hv : OK R) (hv2 : OK R2) (hs : sumL R.ps = sumL R2.ps) (h : (sres R R2).2 = 0) : OK (sres R R2).1 ∧ sumL (sres R R2).1.ps = sumL R.ps := by
  obtain ⟨L, hL, hf, e⟩ := sres_zero h
  have h1 := rfM_one _ _ _ hL
  have hk := rfM_ok _ _ (units_ok hv.pk) (units_ok hv2.pk) _ hL
  obtain ⟨hlen, -⟩ := rfM_get _ _ _ (by rw [units_nat hv.pk]; exact Nat.le_refl _) (by rw [units_nat hv2.pk, hs]; exact Nat.le_refl _) hL
  have hl1 : ∀ z ∈ L, 1 ≤ z.len := fun z hz => by have := h1 z hz; omega
  have hsum : sumL (normP L) = sumL R.ps := by
    rw [norm_sum hl1, ← units_len (fun z hz => by have := h1 z hz; omega), units_id h1, hlen]
    have := hv.len
    omega
  have hln := hv.len
  rw [e] at hf ⊢
  simp only [fitsR, Bool.and_eq_true, decide_eq_true_eq] at hf
  refine ⟨⟨norm_ne hl1 (by omega), hf.1, hf.2.1, hf.2.2.1, normP_ok hk, hf.2.2.2, ?_, ?_⟩, hsum⟩
  · show ∀ i, i < (mr2 (fun x : Crest => x.pos) bothC R.cs R2.cs).length → cAt (sumL (normP L)) (mr2 (fun x : Crest => x.pos) bothC R.cs R2.cs) i
    rw [hsum]
    obtain ⟨a1, a2⟩ := (crests_iff _ _).1 hv.ck
    obtain ⟨b1, b2⟩ := (crests_iff _ _).1 hv2.ck
    rw [← hs] at b1
    refine (crests_iff _ _).2 ⟨fun c hc => ?_, mr2_pw (fun x : Crest => x.pos) bothC (fun _ _ => rfl) a2 b2⟩
    rcases mr2_mem (fun x : Crest => x.pos) bothC hc with hc | hc | ⟨x, hx, y, hy, rfl⟩
    · exact a1 c hc
    · exact b1 c hc
    · obtain ⟨p1, p2⟩ := a1 x hx
      obtain ⟨q1, q2⟩ := b1 y hy
      refine ⟨p1, ?_⟩
      unfold bothC
      simp only
      split
      · exact q2
      · exact p2
  · show ∀ i, i < (mr2 (fun x : Junc => x.pos) bothJ R.js R2.js).length → jAt (sumL (normP L)) (mr2 (fun x : Junc => x.pos) bothJ R.js R2.js) i
    rw [hsum]
    obtain ⟨a1, a2⟩ := (juncs_iff _ _).1 hv.jk
    obtain ⟨b1, b2⟩ := (juncs_iff _ _).1 hv2.jk
    rw [← hs] at b1
    refine (juncs_iff _ _).2 ⟨fun c hc => ?_, mr2_pw (fun x : Junc => x.pos) bothJ (fun _ _ => rfl) a2 b2⟩
    rcases mr2_mem (fun x : Junc => x.pos) bothJ hc with hc | hc | ⟨x, hx, y, hy, rfl⟩
    · exact a1 c hc
    · exact b1 c hc
    · exact a1 _ hx
theorem sres_at {R R2 : Road} (hv : OK R) (hv2 : OK R2) (hs : sumL R.ps = sumL R2.ps) (h : (sres R R2).2 = 0) {k : Nat} (hk : (k : Int) < sumL R.ps) :
    ∃ x y z, (units R.ps)[k]? = some x ∧ (units R2.ps)[k]? = some y ∧ (units (sres R R2).1.ps)[k]? = some z ∧ sfr x y 1 = some z := by
  obtain ⟨L, hL, -, e⟩ := sres_zero h
  have h1 := rfM_one _ _ _ hL
  have hl1 : ∀ z ∈ L, 1 ≤ z.len := fun z hz => by have := h1 z hz; omega
  obtain ⟨-, hget⟩ := rfM_get _ _ _ (by rw [units_nat hv.pk]; exact Nat.le_refl _) (by rw [units_nat hv2.pk, hs]; exact Nat.le_refl _) hL
  obtain ⟨x, y, z, a1, a2, a3, a4⟩ := hget k (by omega)
  refine ⟨x, y, z, a1, a2, ?_, a4⟩
  rw [e]
  show (units (normP L))[k]? = _
  rw [units_norm hl1, units_id h1]
  exact a3
end Go.Proofs.YtijcbfhlhgjedaaGreatDoor
