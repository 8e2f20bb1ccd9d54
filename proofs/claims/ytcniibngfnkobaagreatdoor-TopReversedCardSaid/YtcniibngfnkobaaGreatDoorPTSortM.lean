/- Plain lists: stable insertion, stable merge, chunks sorted; exchanges. No program in sight. -/
import Derived.Test.YtcniibngfnkobaaGreatDoorPCBase
import Derived.Test.YtcniibngfnkobaaGreatDoorPCRoad
import Derived.Test.YtcniibngfnkobaaGreatDoorPCLeaf
import Derived.Test.YtcniibngfnkobaaGreatDoorPCIter
import Derived.Test.YtcniibngfnkobaaGreatDoorPCCheck
import Derived.Test.YtcniibngfnkobaaGreatDoorPCValid
import Derived.Test.YtcniibngfnkobaaGreatDoorPCReg
import Derived.Test.YtcniibngfnkobaaGreatDoorPCGrouped
import Derived.Test.YtcniibngfnkobaaGreatDoorPCAppS
import Derived.Test.YtcniibngfnkobaaGreatDoorPCCorn
import Derived.Test.YtcniibngfnkobaaGreatDoorPCOpen
import Derived.Test.YtcniibngfnkobaaGreatDoorPCReg8
import Derived.Test.YtcniibngfnkobaaGreatDoorPCBackOk
import Derived.Test.YtcniibngfnkobaaGreatDoorPCOrdM
import Derived.Test.YtcniibngfnkobaaGreatDoorPCRCorn
import Derived.Test.YtcniibngfnkobaaGreatDoorPCRev
import Derived.Test.YtcniibngfnkobaaGreatDoorPCRevR
namespace Go.Proofs.YtcniibngfnkobaaGreatDoor

section
variable {α : Type} (key : α → Int)
def insR : List α → α → List α
  | [], x => [x]
  | y :: S, x => if key x < key y then x :: y :: S else y :: insR S x
def ssort (l : List α) : List α := l.foldl (insR key) []
def mrg : List α → List α → List α
  | [], R => R
  | l :: L, [] => l :: L
  | l :: L, r :: R => if key r < key l then r :: mrg (l :: L) R else l :: mrg L (r :: R)
termination_by L R => L.length + R.length
def Srt (l : List α) : Prop := l.Pairwise fun a b => key a ≤ key b
theorem insR_len : ∀ (S : List α) (x : α), (insR key S x).length = S.length + 1
  | [], _ => rfl
  | y :: S, x => by unfold insR; split <;> simp [insR_len S x]
theorem ssort_nil : ssort key ([] : List α) = [] := rfl
theorem ssort_snoc (l : List α) (x : α) : ssort key (l ++ [x]) = insR key (ssort key l) x := by simp [ssort]
theorem snoc_ind {P : List α → Prop} (h0 : P []) (h1 : ∀ l x, P l → P (l ++ [x])) (l : List α) : P l := by
  have : ∀ r : List α, P r.reverse := by
    intro r
    induction r with
    | nil => exact h0
    | cons x r ih => rw [List.reverse_cons]; exact h1 _ _ ih
  have h := this l.reverse
  rwa [List.reverse_reverse] at h
theorem ssort_len (l : List α) : (ssort key l).length = l.length := by
  induction l using snoc_ind with
  | h0 => rfl
  | h1 l x ih => rw [ssort_snoc, insR_len, ih, List.length_append]; rfl
theorem mrg_nil (L : List α) : mrg key L [] = L := by cases L <;> simp [mrg]
theorem nil_mrg (R : List α) : mrg key [] R = R := by simp [mrg]
theorem mrg_cons (l : α) (L : List α) (r : α) (R : List α) : mrg key (l :: L) (r :: R) = if key r < key l then r :: mrg key (l :: L) R else l :: mrg key L (r :: R) := by rw [mrg]
theorem mrgL_len : ∀ (L R : List α), (mrg key L R).length = L.length + R.length
  | [], R => by simp [mrg]
  | l :: L, [] => by simp [mrg]
  | l :: L, r :: R => by
    rw [mrg_cons]
    split
    · rw [List.length_cons, mrgL_len (l :: L) R]; simp only [List.length_cons]; omega
    · rw [List.length_cons, mrgL_len L (r :: R)]; simp only [List.length_cons]; omega
termination_by L R => L.length + R.length
theorem insR_split {x : α} : ∀ {S1 S2 : List α}, (∀ y ∈ S1, key y ≤ key x) → (∀ y ∈ S2, key x < key y) → insR key (S1 ++ S2) x = S1 ++ x :: S2
  | [], [], _, _ => rfl
  | [], z :: S2, _, h2 => by simp [insR, h2 z (List.mem_cons_self ..)]
  | y :: S1, S2, h1, h2 => by
    have := h1 y (List.mem_cons_self ..)
    rw [List.cons_append, insR, if_neg (by omega), insR_split (fun z hz => h1 z (List.mem_cons_of_mem _ hz)) h2]
    rfl
theorem insR_mem {S : List α} {x z : α} (h : z ∈ insR key S x) : z = x ∨ z ∈ S := by
  induction S with
  | nil => simp [insR] at h; exact .inl h
  | cons y S ih =>
    unfold insR at h
    split at h
    · rcases List.mem_cons.1 h with h | h
      · exact .inl h
      · exact .inr h
    · rcases List.mem_cons.1 h with h | h
      · exact .inr (by rw [h]; exact List.mem_cons_self ..)
      · rcases ih h with h | h
        · exact .inl h
        · exact .inr (List.mem_cons_of_mem _ h)
theorem Srt.insR {S : List α} (h : Srt key S) (x : α) : Srt key (insR key S x) := by
  induction S with
  | nil => exact List.pairwise_singleton _ _
  | cons y S ih =>
    obtain ⟨h1, h2⟩ := List.pairwise_cons.1 h
    unfold Go.Proofs.YtcniibngfnkobaaGreatDoor.insR
    split
    · rename_i hlt
      refine List.pairwise_cons.2 ⟨fun z hz => ?_, h⟩
      rcases List.mem_cons.1 hz with rfl | hz
      · omega
      · have := h1 z hz; omega
    · rename_i hge
      refine List.pairwise_cons.2 ⟨fun z hz => ?_, ih h2⟩
      rcases insR_mem key hz with rfl | hz
      · omega
      · exact h1 z hz
theorem ssort_srt (l : List α) : Srt key (ssort key l) := by
  induction l using snoc_ind with
  | h0 => exact List.Pairwise.nil
  | h1 l x ih => rw [ssort_snoc]; exact ih.insR key x
theorem mrg_low : ∀ {L R : List α}, (∀ l ∈ L, ∀ r ∈ R, key l ≤ key r) → mrg key L R = L ++ R
  | [], R, _ => by simp [mrg]
  | l :: L, [], _ => by simp [mrg]
  | l :: L, r :: R, h => by
    have := h l (List.mem_cons_self ..) r (List.mem_cons_self ..)
    rw [mrg_cons, if_neg (by omega), mrg_low (L := L) (fun x hx y hy => h x (List.mem_cons_of_mem _ hx) y hy)]
    rfl
theorem mrg_high : ∀ {L R : List α}, (∀ r ∈ R, ∀ l ∈ L, key r < key l) → mrg key L R = R ++ L
  | [], R, _ => by simp [mrg]
  | l :: L, [], _ => by simp [mrg]
  | l :: L, r :: R, h => by
    have := h r (List.mem_cons_self ..) l (List.mem_cons_self ..)
    rw [mrg_cons, if_pos this, mrg_high (L := l :: L) (R := R) (fun x hx y hy => h x (List.mem_cons_of_mem _ hx) y hy)]
    rfl
theorem mrg_split : ∀ {L1 L2 R1 R2 : List α}, (∀ l ∈ L1, ∀ r ∈ R2, key l ≤ key r) → (∀ r ∈ R1, ∀ l ∈ L2, key r < key l) → mrg key (L1 ++ L2) (R1 ++ R2) = mrg key L1 R1 ++ mrg key L2 R2
  | [], L2, [], R2, _, _ => by simp [mrg]
  | [], [], r :: R1, R2, _, h2 => by simp [mrg]
  | [], l :: L2, r :: R1, R2, h1, h2 => by
    have := h2 r (List.mem_cons_self ..) l (List.mem_cons_self ..)
    have ih := mrg_split (L1 := []) (L2 := l :: L2) (R1 := R1) (R2 := R2) (fun x hx => by cases hx) (fun x hx y hy => h2 x (List.mem_cons_of_mem _ hx) y hy)
    rw [nil_mrg] at ih ⊢
    rw [List.nil_append, List.cons_append, mrg_cons, if_pos this]
    rw [List.nil_append] at ih
    rw [ih]
    rfl
  | l :: L1, L2, [], R2, h1, h2 => by
    have ih := mrg_split (L1 := L1) (L2 := L2) (R1 := []) (R2 := R2) (fun x hx y hy => h1 x (List.mem_cons_of_mem _ hx) y hy) (fun x hx => by cases hx)
    rw [mrg_nil] at ih ⊢
    rw [List.nil_append] at ih ⊢
    rcases R2 with _ | ⟨r, R2⟩
    · rw [mrg_nil, mrg_nil]
    · have := h1 l (List.mem_cons_self ..) r (List.mem_cons_self ..)
      rw [List.cons_append, mrg_cons, if_neg (by omega), ih]
      rfl
  | l :: L1, L2, r :: R1, R2, h1, h2 => by
    rw [List.cons_append, List.cons_append, mrg_cons, mrg_cons]
    split
    · have ih := mrg_split (L1 := l :: L1) (L2 := L2) (R1 := R1) (R2 := R2) h1 (fun x hx y hy => h2 x (List.mem_cons_of_mem _ hx) y hy)
      rw [List.cons_append] at ih
      rw [ih]
      rfl
    · have ih := mrg_split (L1 := L1) (L2 := L2) (R1 := r :: R1) (R2 := R2) (fun x hx y hy => h1 x (List.mem_cons_of_mem _ hx) y hy) h2
      rw [List.cons_append] at ih
      rw [ih]
      rfl
termination_by L1 _ R1 _ => L1.length + R1.length
theorem insR_mrg : ∀ (L R : List α) (x : α), insR key (mrg key L R) x = mrg key L (insR key R x)
  | [], R, x => by rw [nil_mrg, nil_mrg]
  | l :: L, [], x => by
    have ih := insR_mrg L [] x
    rw [mrg_nil] at ih ⊢
    simp only [insR] at ih ⊢
    rw [mrg_cons, mrg_nil, ih]
  | l :: L, r :: R, x => by
    rw [mrg_cons]
    by_cases h1 : key r < key l
    · rw [if_pos h1]
      have ih := insR_mrg (l :: L) R x
      by_cases h2 : key x < key r
      · simp only [insR, if_pos h2]
        rw [mrg_cons, if_pos (by omega), mrg_cons, if_pos h1]
      · simp only [insR, if_neg h2]
        rw [mrg_cons, if_pos h1, ih]
    · rw [if_neg h1]
      have ih := insR_mrg L (r :: R) x
      by_cases h2 : key x < key l
      · have h3 : key x < key r := by omega
        simp only [insR, if_pos h2, if_pos h3]
        rw [mrg_cons, if_pos h2, mrg_cons, if_neg h1]
      · simp only [insR, if_neg h2]
        by_cases h3 : key x < key r
        · simp only [insR, if_pos h3] at ih ⊢
          rw [mrg_cons, if_neg h2, ih]
        · simp only [insR, if_neg h3] at ih ⊢
          rw [mrg_cons, if_neg h1, ih]
termination_by L R => L.length + R.length
/-- Two sorted chunks, merged, are the chunk of both, sorted. -/
theorem mrg_ssort (A B : List α) : mrg key (ssort key A) (ssort key B) = ssort key (A ++ B) := by
  induction B using snoc_ind with
  | h0 => rw [ssort_nil, mrg_nil, List.append_nil]
  | h1 B x ih => rw [ssort_snoc, ← List.append_assoc, ssort_snoc, ← ih, insR_mrg]
theorem ssort_of_srt {l : List α} (h : Srt key l) : ssort key l = l := by
  induction l using snoc_ind with
  | h0 => rfl
  | h1 l x ih =>
    obtain ⟨h1, _, h3⟩ := List.pairwise_append.1 h
    rw [ssort_snoc, ih h1]
    have := insR_split key (x := x) (S1 := l) (S2 := []) (fun y hy => h3 y hy x (List.mem_cons_self ..)) (fun y hy => by cases hy)
    rw [List.append_nil] at this
    exact this
theorem Srt.sub {l l' : List α} (h : Srt key l) (hs : l'.Sublist l) : Srt key l' := h.sublist hs
/-- The first k chunks of s, sorted, and the rest as it was. -/
def bl (s : Nat) : Nat → List α → List α
  | 0, l => l
  | k + 1, l => ssort key (l.take s) ++ bl s k (l.drop s)
theorem bl_step (s : Nat) : ∀ (k : Nat) (l : List α), k * s ≤ l.length → ∃ A : List α, A.length = k * s ∧ bl key s k l = A ++ ((l.drop (k * s)).take s ++ (l.drop (k * s)).drop s) ∧
    bl key s (k + 1) l = A ++ (ssort key ((l.drop (k * s)).take s) ++ (l.drop (k * s)).drop s)
  | 0, l, _ => ⟨[], by simp, by simp [bl], by simp [bl]⟩
  | k + 1, l, h => by
    have hm : (k + 1) * s = k * s + s := Nat.succ_mul k s
    obtain ⟨A, h1, h2, h3⟩ := bl_step s k (l.drop s) (by rw [List.length_drop]; omega)
    rw [List.drop_drop, show s + k * s = (k + 1) * s by omega] at h2 h3
    refine ⟨ssort key (l.take s) ++ A, ?_, ?_, ?_⟩
    · rw [List.length_append, ssort_len, List.length_take, h1]; omega
    · rw [bl, h2, List.append_assoc]
    · rw [bl, h3, List.append_assoc]
theorem bl_more (s : Nat) : ∀ (k : Nat) (l : List α), l.length ≤ k * s → bl key s (k + 1) l = bl key s k l
  | 0, l, h => by
    have : l = [] := List.eq_nil_of_length_eq_zero (by omega)
    subst this
    simp [bl, ssort_nil]
  | k + 1, l, h => by
    have hm : (k + 1) * s = k * s + s := Nat.succ_mul k s
    rw [bl, bl_more s k (l.drop s) (by rw [List.length_drop]; omega)]
    rfl
theorem bl_any (s k k' : Nat) (l : List α) (h : l.length ≤ k * s) (h' : l.length ≤ k' * s) : bl key s k l = bl key s k' l := by
  have : ∀ d k, l.length ≤ k * s → bl key s (k + d) l = bl key s k l := by
    intro d
    induction d with
    | zero => intro k _; rfl
    | succ d ih =>
      intro k hk
      rw [← Nat.add_assoc, bl_more key s (k + d) l (Nat.le_trans hk (Nat.mul_le_mul_right s (Nat.le_add_right k d)))]
      exact ih k hk
  rcases Nat.le_total k k' with hh | hh
  · obtain ⟨d, rfl⟩ := Nat.exists_eq_add_of_le hh
    exact (this d k h).symm
  · obtain ⟨d, rfl⟩ := Nat.exists_eq_add_of_le hh
    exact this d k' h'
/-- All chunks of s, sorted. -/
def bs (s : Nat) (l : List α) : List α := bl key s l.length l
theorem bs_eq {s k : Nat} {l : List α} (hs : 1 ≤ s) (h : l.length ≤ k * s) : bl key s k l = bs key s l :=
  bl_any key s k l.length l h (Nat.le_mul_of_pos_right _ hs)
theorem bs_one {s : Nat} {l : List α} (hs : 1 ≤ s) (h : l.length ≤ s) : bs key s l = ssort key l := by
  rw [← bs_eq key (k := 1) hs (by omega), bl, bl, List.take_of_length_le h, List.drop_of_length_le h, List.append_nil]
theorem bs_cons {s : Nat} (l : List α) (hs : 1 ≤ s) : bs key s l = ssort key (l.take s) ++ bs key s (l.drop s) := by
  have h1 : l.length ≤ (l.length + 1) * s := Nat.le_trans (Nat.le_succ _) (Nat.le_mul_of_pos_right _ hs)
  rw [← bs_eq key (k := l.length + 1) hs h1, bl, bs_eq key hs (by rw [List.length_drop]; exact Nat.le_trans (Nat.sub_le _ _) (Nat.le_mul_of_pos_right _ hs))]
/-- The first k double chunks sorted, the rest in chunks of s. -/
def mx (s : Nat) : Nat → List α → List α
  | 0, l => bs key s l
  | k + 1, l => ssort key (l.take (2 * s)) ++ mx s k (l.drop (2 * s))
theorem mx_step (s : Nat) (hs : 1 ≤ s) : ∀ (k : Nat) (l : List α), k * (2 * s) ≤ l.length → ∃ A : List α, A.length = k * (2 * s) ∧ mx key s k l = A ++ bs key s (l.drop (k * (2 * s))) ∧
    mx key s (k + 1) l = A ++ (ssort key ((l.drop (k * (2 * s))).take (2 * s)) ++ bs key s ((l.drop (k * (2 * s))).drop (2 * s)))
  | 0, l, _ => ⟨[], by simp, by simp [mx], by simp [mx]⟩
  | k + 1, l, h => by
    have hm : (k + 1) * (2 * s) = k * (2 * s) + 2 * s := Nat.succ_mul k (2 * s)
    obtain ⟨A, h1, h2, h3⟩ := mx_step s hs k (l.drop (2 * s)) (by rw [List.length_drop]; omega)
    rw [List.drop_drop, show 2 * s + k * (2 * s) = (k + 1) * (2 * s) by omega] at h2 h3
    refine ⟨ssort key (l.take (2 * s)) ++ A, ?_, ?_, ?_⟩
    · rw [List.length_append, ssort_len, List.length_take, h1]; omega
    · rw [mx, h2, List.append_assoc]
    · rw [mx, h3, List.append_assoc]
/-- Two chunks, to be merged. -/
theorem bs_two {s : Nat} (l : List α) (hs : 1 ≤ s) : bs key s l = ssort key (l.take s) ++ (ssort key ((l.drop s).take s) ++ bs key s (l.drop (2 * s))) := by
  rw [bs_cons key l hs, bs_cons key (l.drop s) hs, List.drop_drop, show s + s = 2 * s by omega]
theorem take_two {s : Nat} (l : List α) : l.take s ++ (l.drop s).take s = l.take (2 * s) := by
  rw [show 2 * s = s + s by omega, List.take_add]
/-- When no two chunks are left, all is in double chunks. -/
theorem mx_done {s k : Nat} (hs : 1 ≤ s) : ∀ (l : List α), k * (2 * s) ≤ l.length → l.length ≤ k * (2 * s) + s → mx key s k l = bs key (2 * s) l := by
  induction k with
  | zero =>
    intro l _ h2
    rw [mx, bs_one key hs (by omega), bs_one key (by omega) (by omega)]
  | succ k ih =>
    intro l h1 h2
    have hm : (k + 1) * (2 * s) = k * (2 * s) + 2 * s := Nat.succ_mul k (2 * s)
    rw [mx, ih (l.drop (2 * s)) (by rw [List.length_drop]; omega) (by rw [List.length_drop]; omega), ← bs_cons key l (by omega)]
theorem mx_all {s k : Nat} (hs : 1 ≤ s) : ∀ (l : List α), l.length ≤ k * (2 * s) → mx key s k l = bs key (2 * s) l := by
  induction k with
  | zero =>
    intro l h
    have : l = [] := List.eq_nil_of_length_eq_zero (by omega)
    subst this
    rw [mx, bs_one key hs (by simp), bs_one key (by omega) (by simp)]
  | succ k ih =>
    intro l h
    have hm : (k + 1) * (2 * s) = k * (2 * s) + 2 * s := Nat.succ_mul k (2 * s)
    rw [mx, ih (l.drop (2 * s)) (by rw [List.length_drop]; omega), ← bs_cons key l (by omega)]
end
section
variable {α : Type}
theorem getElem?_mid (P : List α) (u : α) (Q : List α) {i : Nat} (h : P.length = i) : (P ++ u :: Q)[i]? = some u := by
  subst h; simp
theorem set_mid (P : List α) (u v : α) (Q : List α) {i : Nat} (h : P.length = i) : (P ++ u :: Q).set i v = P ++ v :: Q := by
  subst h; simp
/-- The exchange of two elements, said with lists. -/
theorem swp_mid (P : List α) (u : α) (M : List α) (v : α) (Q : List α) {i j : Nat} (hi : P.length = i) (hj : P.length + M.length + 1 = j) :
    ((P ++ u :: (M ++ v :: Q)).set i v).set j u = P ++ v :: (M ++ u :: Q) := by
  rw [set_mid P u v _ hi]
  have : P ++ v :: (M ++ v :: Q) = (P ++ v :: M) ++ v :: Q := by simp
  rw [this, set_mid (P ++ v :: M) v u Q (by simp; omega)]
  simp
theorem get_second (P : List α) (u : α) (M : List α) (v : α) (Q : List α) {j : Nat} (hj : P.length + M.length + 1 = j) : (P ++ u :: (M ++ v :: Q))[j]? = some v := by
  have : P ++ u :: (M ++ v :: Q) = (P ++ u :: M) ++ v :: Q := by simp
  rw [this]
  exact getElem?_mid _ v Q (by simp; omega)
end
open Go.RowKit
theorem only_drewN {a w : World} {row : Option Nat} (h : a.grownBy w row) (n : Nat) : a.grownBy (w.drewN n) row := ⟨h.os, h.tape, h.output, h.size, h.block⟩
end Go.Proofs.YtcniibngfnkobaaGreatDoor
