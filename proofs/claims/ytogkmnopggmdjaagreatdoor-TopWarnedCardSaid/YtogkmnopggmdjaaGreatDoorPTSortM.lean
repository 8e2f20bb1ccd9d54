/- Plain lists: stable insertion, stable merge, chunks sorted; exchanges. No program in sight. -/
import Derived.Test.YtogkmnopggmdjaaGreatDoorPOrdM
import Derived.Test.YtogkmnopggmdjaaGreatDoorPCorn
import Derived.Test.YtogkmnopggmdjaaGreatDoorPValid
import Derived.Test.YtogkmnopggmdjaaGreatDoorPReg7
import Derived.Test.YtogkmnopggmdjaaGreatDoorPReg
import Derived.RegionTactic
import Derived.BigRegion
namespace Go.Proofs.YtogkmnopggmdjaaGreatDoor

section
variable {α : Type} (key : α → Int)
def insR : List α → α → List α
  | [], x => [x]
  | y :: S, x => if key x < key y then x :: y :: S else y :: insR S x
def ssort (l : List α) : List α := l.foldl (insR key) []
def mrg : List α → List α → List α
  | [], R => R
  | l :: L, [] => l :: L
  | l :: L, r :: R => if key r < key l then r :: mrg (l :: L) R else l :: mrg L (r :: R)
termination_by L R => L.length + R.length
def Srt (l : List α) : Prop := l.Pairwise fun a b => key a ≤ key b
theorem insR_len : ∀ (S : List α) (x : α), (insR key S x).length = S.length + 1
  | [], _ => rfl
  | y :: S, x => by unfold insR; split <;> simp [insR_len S x]
theorem ssort_nil : ssort key ([] : List α) = [] := rfl
theorem ssort_snoc (l : List α) (x : α) : ssort key (l ++ [x]) = insR key (ssort key l) x := by simp [ssort]
theorem snoc_ind {P : List α → Prop} (h0 : P []) (h1 : ∀ l x, P l → P (l ++ [x])) (l : List α) : P l := by
  have : ∀ r : List α, P r.reverse := by
    intro r
    induction r with
    | nil => exact h0
    | cons x r ih => rw [List.reverse_cons]; exact h1 _ _ ih
  have h := this l.reverse
  rwa [List.reverse_reverse] at h
theorem ssort_len (l : List α) : (ssort key l).length = l.length := by
  induction l using snoc_ind with
  | h0 => rfl
  | h1 l x ih => rw [ssort_snoc, insR_len, ih, List.length_append]; rfl
theorem mrg_nil (L : List α) : mrg key L [] = L := by cases L <;> simp [mrg]
theorem nil_mrg (R : List α) : mrg key [] R = R := by simp [mrg]
theorem mrg_cons (l : α) (L : List α) (r : α) (R : List α) : mrg key (l :: L) (r :: R) = if key r < key l then r :: mrg key (l :: L) R else l :: mrg key L (r :: R) := by rw [mrg]
theorem mrgL_len : ∀ (L R : List α), (mrg key L R).length = L.length + R.length
  | [], R => by simp [mrg]
  | l :: L, [] => by simp [mrg]
  | l :: L, r :: R => by
    rw [mrg_cons]
    split
    · rw [List.length_cons, mrgL_len (l :: L) R]; simp only [List.length_cons]; omega
    · rw [List.length_cons, mrgL_len L (r :: R)]; simp only [List.length_cons]; omega
termination_by L R => L.length + R.length
theorem insR_split {x : α} : ∀ {S1 S2 : List α}, (∀ y ∈ S1, key y ≤ key x) → (∀ y ∈ S2, key x < key y) → insR key (S1 ++ S2) x = S1 ++ x :: S2
  | [], [], _, _ => rfl
  | [], z :: S2, _, h2 => by simp [insR, h2 z (List.mem_cons_self ..)]
  | y :: S1, S2, h1, h2 => by
    have := h1 y (List.mem_cons_self ..)
    rw [List.cons_append, insR, if_neg (by omega), insR_split (fun z hz => h1 z (List.mem_cons_of_mem _ hz)) h2]
    rfl
theorem insR_mem {S : List α} {x z : α} (h : z ∈ insR key S x) : z = x ∨ z ∈ S := by
  induction S with
  | nil => simp [insR] at h; exact .inl h
  | cons y S ih =>
    unfold insR at h
    split at h
    · rcases List.mem_cons.1 h with h | h
      · exact .inl h
      · exact .inr h
    · rcases List.mem_cons.1 h with h | h
      · exact .inr (by rw [h]; exact List.mem_cons_self ..)
      · rcases ih h with h | h
        · exact .inl h
        · exact .inr (List.mem_cons_of_mem _ h)
theorem Srt.insR {S : List α} (h : Srt key S) (x : α) : Srt key (insR key S x) := by
  induction S with
  | nil => exact List.pairwise_singleton _ _
  | cons y S ih =>
    obtain ⟨h1, h2⟩ := List.pairwise_cons.1 h
    unfold Go.Proofs.YtogkmnopggmdjaaGreatDoor.insR
    split
    · rename_i hlt
      refine List.pairwise_cons.2 ⟨fun z hz => ?_, h⟩
      rcases List.mem_cons.1 hz with rfl | hz
      · omega
      · have := h1 z hz; omega
    · rename_i hge
      refine List.pairwise_cons.2 ⟨fun z hz => ?_, ih h2⟩
      rcases insR_mem key hz with rfl | hz
      · omega
      · exact h1 z hz
theorem ssort_srt (l : List α) : Srt key (ssort key l) := by
  induction l using snoc_ind with
  | h0 => exact List.Pairwise.nil
  | h1 l x ih => rw [ssort_snoc]; exact ih.insR key x
theorem mrg_low : ∀ {L R : List α}, (∀ l ∈ L, ∀ r ∈ R, key l ≤ key r) → mrg key L R = L ++ R
  | [], R, _ => by simp [mrg]
  | l :: L, [], _ => by simp [mrg]
  | l :: L, r :: R, h => by
    have := h l (List.mem_cons_self ..) r (List.mem_cons_self ..)
    rw [mrg_cons, if_neg (by omega), mrg_low (L := L) (fun x hx y hy => h x (List.mem_cons_of_mem _ hx) y hy)]
    rfl
theorem mrg_high : ∀ {L R : List α}, (∀ r ∈ R, ∀ l ∈ L, key r < key l) → mrg key L R = R ++ L
  | [], R, _ => by simp [mrg]
  | l :: L, [], _ => by simp [mrg]
  | l :: L, r :: R, h => by
    have := h r (List.mem_cons_self ..) l (List.mem_cons_self ..)
    rw [mrg_cons, if_pos this, mrg_high (L := l :: L) (R := R) (fun x hx y hy => h x (List.mem_cons_of_mem _ hx) y hy)]
    rfl
theorem mrg_split : ∀ {L1 L2 R1 R2 : List α}, (∀ l ∈ L1, ∀ r ∈ R2, key l ≤ key r) → (∀ r ∈ R1, ∀ l ∈ L2, key r < key l) → mrg key (L1 ++ L2) (R1 ++ R2) = mrg key L1 R1 ++ mrg key L2 R2
  | [], L2, [], R2, _, _ => by simp [mrg]
  | [], [], r :: R1, R2, _, h2 => by simp [mrg]
  | [], l :: L2, r :: R1, R2, h1, h2 => by
    have := h2 r (List.mem_cons_self ..) l (List.mem_cons_self ..)
    have ih := mrg_split (L1 := []) (L2 := l :: L2) (R1 := R1) (R2 := R2) (fun x hx => by cases hx) (fun x hx y hy => h2 x (List.mem_cons_of_mem _ hx) y hy)
    rw [nil_mrg] at ih ⊢
    rw [List.nil_append, List.cons_append, mrg_cons, if_pos this]
    rw [List.nil_append] at ih
    rw [ih]
    rfl
  | l :: L1, L2, [], R2, h1, h2 => by
    have ih := mrg_split (L1 := L1) (L2 := L2) (R1 := []) (R2 := R2) (fun x hx y hy => h1 x (List.mem_cons_of_mem _ hx) y hy) (fun x hx => by cases hx)
    rw [mrg_nil] at ih ⊢
    rw [List.nil_append] at ih ⊢
    rcases R2 with _ | ⟨r, R2⟩
    · rw [mrg_nil, mrg_nil]
    · have := h1 l (List.mem_cons_self ..) r (List.mem_cons_self ..)
      rw [List.cons_append, mrg_cons, if_neg (by omega), ih]
      rfl
  | l :: L1, L2, r :: R1, R2, h1, h2 => by
    rw [List.cons_append, List.cons_append, mrg_cons, mrg_cons]
    split
    · have ih := mrg_split (L1 := l :: L1) (L2 := L2) (R1 := R1) (R2 := R2) h1 (fun x hx y hy => h2 x (List.mem_cons_of_mem _ hx) y hy)
      rw [List.cons_append] at ih
      rw [ih]
      rfl
    · have ih := mrg_split (L1 := L1) (L2 := L2) (R1 := r :: R1) (R2 := R2) (fun x hx y hy => h1 x (List.mem_cons_of_mem _ hx) y hy) h2
      rw [List.cons_append] at ih
      rw [ih]
      rfl
termination_by L1 _ R1 _ => L1.length + R1.length
theorem insR_mrg : ∀ (L R : List α) (x : α), insR key (mrg key L R) x = mrg key L (insR key R x)
  | [], R, x => by rw [nil_mrg, nil_mrg]
  | l :: L, [], x => by
    have ih := insR_mrg L [] x
    rw [mrg_nil] at ih ⊢
    simp only [insR] at ih ⊢
    rw [mrg_cons, mrg_nil, ih]
  | l :: L, r :: R, x => by
    rw [mrg_cons]
    by_cases h1 : key r < key l
    · rw [if_pos h1]
      have ih := insR_mrg (l :: L) R x
      by_cases h2 : key x < key r
      · simp only [insR, if_pos h2]
        rw [mrg_cons, if_pos (by omega), mrg_cons, if_pos h1]
      · simp only [insR, if_neg h2]
        rw [mrg_cons, if_pos h1, ih]
    · rw [if_neg h1]
      have ih := insR_mrg L (r :: R) x
      by_cases h2 : key x < key l
      · have h3 : key x < key r := by omega
        simp only [insR, if_pos h2, if_pos h3]
        rw [mrg_cons, if_pos h2, mrg_cons, if_neg h1]
      · simp only [insR, if_neg h2]
        by_cases h3 : key x < key r
        · simp only [insR, if_pos h3] at ih ⊢
          rw [mrg_cons, if_neg h2, ih]
        · simp only [insR, if_neg h3] at ih ⊢
          rw [mrg_cons, if_neg h1, ih]
termination_by L R => L.length + R.length
/-- Two sorted chunks, merged, are the chunk of both, sorted. -/
theorem mrg_ssort (A B : List α) : mrg key (ssort key A) (ssort key B) = ssort key (A ++ B) := by
  induction B using snoc_ind with
  | h0 => rw [ssort_nil, mrg_nil, List.append_nil]
  | h1 B x ih => rw [ssort_snoc, ← List.append_assoc, ssort_snoc, ← ih, insR_mrg]
theorem Srt.sub {l l' : List α} (h : Srt key l) (hs : l'.Sublist l) : Srt key l' := h.sublist hs
/-- The first k chunks of s, sorted, and the rest as it was. -/
def bl (s : Nat) : Nat → List α → List α
  | 0, l => l
  | k + 1, l => ssort key (l.take s) ++ bl s k (l.drop s)
theorem bl_step (s : Nat) : ∀ (k : Nat) (l : List α), k * s ≤ l.length → ∃ A : List α, A.length = k * s ∧ bl key s k l = A ++ ((l.drop (k * s)).take s ++ (l.drop (k * s)).drop s) ∧
    bl key s (k + 1) l = A ++ (ssort key ((l.drop (k * s)).take s) ++ (l.drop (k * s)).drop s)
  | 0, l, _ => ⟨[], by simp, by simp [bl], by simp [bl]⟩
  | k + 1, l, h => by
    have hm : (k + 1) * s = k * s + s := Nat.succ_mul k s
    obtain ⟨A, h1, h2, h3⟩ := bl_step s k (l.drop s) (by rw [List.length_drop]; omega)
    rw [List.drop_drop, show s + k * s = (k + 1) * s by omega] at h2 h3
    refine ⟨ssort key (l.take s) ++ A, ?_, ?_, ?_⟩
    · rw [List.length_append, ssort_len, List.length_take, h1]; omega
    · rw [bl, h2, List.append_assoc]
    · rw [bl, h3, List.append_assoc]
theorem bl_more (s : Nat) : ∀ (k : Nat) (l : List α), l.length ≤ k * s → bl key s (k + 1) l = bl key s k l
  | 0, l, h => by
    have : l = [] := List.eq_nil_of_length_eq_zero (by omega)
    subst this
    simp [bl, ssort_nil]
  | k + 1, l, h => by
    have hm : (k + 1) * s = k * s + s := Nat.succ_mul k s
    rw [bl, bl_more s k (l.drop s) (by rw [List.length_drop]; omega)]
    rfl
theorem bl_any (s k k' : Nat) (l : List α) (h : l.length ≤ k * s) (h' : l.length ≤ k' * s) : bl key s k l = bl key s k' l := by
  have : ∀ d k, l.length ≤ k * s → bl key s (k + d) l = bl key s k l := by
    intro d
    induction d with
    | zero => intro k _; rfl
    | succ d ih =>
      intro k hk
      rw [← Nat.add_assoc, bl_more key s (k + d) l (Nat.le_trans hk (Nat.mul_le_mul_right s (Nat.le_add_right k d)))]
      exact ih k hk
  rcases Nat.le_total k k' with hh | hh
  · obtain ⟨d, rfl⟩ := Nat.exists_eq_add_of_le hh
    exact (this d k h).symm
  · obtain ⟨d, rfl⟩ := Nat.exists_eq_add_of_le hh
    exact this d k' h'
/-- All chunks of s, sorted. -/
def bs (s : Nat) (l : List α) : List α := bl key s l.length l
theorem bs_eq {s k : Nat} {l : List α} (hs : 1 ≤ s) (h : l.length ≤ k * s) : bl key s k l = bs key s l :=
  bl_any key s k l.length l h (Nat.le_mul_of_pos_right _ hs)
theorem bs_one {s : Nat} {l : List α} (hs : 1 ≤ s) (h : l.length ≤ s) : bs key s l = ssort key l := by
  rw [← bs_eq key (k := 1) hs (by omega), bl, bl, List.take_of_length_le h, List.drop_of_length_le h, List.append_nil]
theorem bs_cons {s : Nat} (l : List α) (hs : 1 ≤ s) : bs key s l = ssort key (l.take s) ++ bs key s (l.drop s) := by
  have h1 : l.length ≤ (l.length + 1) * s := Nat.le_trans (Nat.le_succ _) (Nat.le_mul_of_pos_right _ hs)
  rw [← bs_eq key (k := l.length + 1) hs h1, bl, bs_eq key hs (by rw [List.length_drop]; exact Nat.le_trans (Nat.sub_le _ _) (Nat.le_mul_of_pos_right _ hs))]
/-- The first k double chunks sorted, the rest in chunks of s. -/
def mx (s : Nat) : Nat → List α → List α
  | 0, l => bs key s l
  | k + 1, l => ssort key (l.take (2 * s)) ++ mx s k (l.drop (2 * s))
theorem mx_step (s : Nat) (hs : 1 ≤ s) : ∀ (k : Nat) (l : List α), k * (2 * s) ≤ l.length → ∃ A : List α, A.length = k * (2 * s) ∧ mx key s k l = A ++ bs key s (l.drop (k * (2 * s))) ∧
    mx key s (k + 1) l = A ++ (ssort key ((l.drop (k * (2 * s))).take (2 * s)) ++ bs key s ((l.drop (k * (2 * s))).drop (2 * s)))
  | 0, l, _ => ⟨[], by simp, by simp [mx], by simp [mx]⟩
  | k + 1, l, h => by
    have hm : (k + 1) * (2 * s) = k * (2 * s) + 2 * s := Nat.succ_mul k (2 * s)
    obtain ⟨A, h1, h2, h3⟩ := mx_step s hs k (l.drop (2 * s)) (by rw [List.length_drop]; omega)
    rw [List.drop_drop, show 2 * s + k * (2 * s) = (k + 1) * (2 * s) by omega] at h2 h3
    refine ⟨ssort key (l.take (2 * s)) ++ A, ?_, ?_, ?_⟩
    · rw [List.length_append, ssort_len, List.length_take, h1]; omega
    · rw [mx, h2, List.append_assoc]
    · rw [mx, h3, List.append_assoc]
/-- Two chunks, to be merged. -/
theorem bs_two {s : Nat} (l : List α) (hs : 1 ≤ s) : bs key s l = ssort key (l.take s) ++ (ssort key ((l.drop s).take s) ++ bs key s (l.drop (2 * s))) := by
  rw [bs_cons key l hs, bs_cons key (l.drop s) hs, List.drop_drop, show s + s = 2 * s by omega]
theorem take_two {s : Nat} (l : List α) : l.take s ++ (l.drop s).take s = l.take (2 * s) := by
  rw [show 2 * s = s + s by omega, List.take_add]
/-- When no two chunks are left, all is in double chunks. -/
theorem mx_done {s k : Nat} (hs : 1 ≤ s) : ∀ (l : List α), k * (2 * s) ≤ l.length → l.length ≤ k * (2 * s) + s → mx key s k l = bs key (2 * s) l := by
  induction k with
  | zero =>
    intro l _ h2
    rw [mx, bs_one key hs (by omega), bs_one key (by omega) (by omega)]
  | succ k ih =>
    intro l h1 h2
    have hm : (k + 1) * (2 * s) = k * (2 * s) + 2 * s := Nat.succ_mul k (2 * s)
    rw [mx, ih (l.drop (2 * s)) (by rw [List.length_drop]; omega) (by rw [List.length_drop]; omega), ← bs_cons key l (by omega)]
theorem mx_all {s k : Nat} (hs : 1 ≤ s) : ∀ (l : List α), l.length ≤ k * (2 * s) → mx key s k l = bs key (2 * s) l := by
  induction k with
  | zero =>
    intro l h
    have : l = [] := List.eq_nil_of_length_eq_zero (by omega)
    subst this
    rw [mx, bs_one key hs (by simp), bs_one key (by omega) (by simp)]
  | succ k ih =>
    intro l h
    have hm : (k + 1) * (2 * s) = k * (2 * s) + 2 * s := Nat.succ_mul k (2 * s)
    rw [mx, ih (l.drop (2 * s)) (by rw [List.length_drop]; omega), ← bs_cons key l (by omega)]
end
section
variable {α : Type}
theorem getElem?_mid (P : List α) (u : α) (Q : List α) {i : Nat} (h : P.length = i) : (P ++ u :: Q)[i]? = some u := by
  subst h; simp
theorem set_mid (P : List α) (u v : α) (Q : List α) {i : Nat} (h : P.length = i) : (P ++ u :: Q).set i v = P ++ v :: Q := by
  subst h; simp
/-- The exchange of two elements, said with lists. -/
theorem swp_mid (P : List α) (u : α) (M : List α) (v : α) (Q : List α) {i j : Nat} (hi : P.length = i) (hj : P.length + M.length + 1 = j) :
    ((P ++ u :: (M ++ v :: Q)).set i v).set j u = P ++ v :: (M ++ u :: Q) := by
  rw [set_mid P u v _ hi]
  have : P ++ v :: (M ++ v :: Q) = (P ++ v :: M) ++ v :: Q := by simp
  rw [this, set_mid (P ++ v :: M) v u Q (by simp; omega)]
  simp
theorem get_second (P : List α) (u : α) (M : List α) (v : α) (Q : List α) {j : Nat} (hj : P.length + M.length + 1 = j) : (P ++ u :: (M ++ v :: Q))[j]? = some v := by
  have : P ++ u :: (M ++ v :: Q) = (P ++ u :: M) ++ v :: Q := by simp
  rw [this]
  exact getElem?_mid _ v Q (by simp; omega)
end
open Go.RowKit
theorem only_drew {a w : World} {row : Option Nat} (h : a.grownBy w row) : a.grownBy w.drew row := ⟨h.os, h.tape, h.output, h.size, h.block⟩
theorem only_drewN {a w : World} {row : Option Nat} (h : a.grownBy w row) (n : Nat) : a.grownBy (w.drewN n) row := ⟨h.os, h.tape, h.output, h.size, h.block⟩
theorem only_set {a w : World} {g o : Nat} (h : a.grownBy w (some g)) (u : Value) : a.grownBy (w.setCell ⟨g, o, none⟩ u) (some g) :=
  ⟨h.os, h.tape, h.output, by simpa [World.setCell] using h.size, fun i hi hne => (Below.heap_setCell w _ u i (by rintro rfl; exact hne rfl)).trans (h.block i hi hne)⟩
theorem only_trans {a b c : World} {row : Option Nat} (h : a.grownBy b row) (k : b.grownBy c row) : a.grownBy c row :=
  ⟨k.os.trans h.os, k.tape.trans h.tape, k.output.trans h.output, Nat.le_trans h.size k.size, fun i hi hne => (k.block i (Nat.lt_of_lt_of_le hi h.size) hne).trans (h.block i hi hne)⟩
end Go.Proofs.YtogkmnopggmdjaaGreatDoor

/- What note.Make notes: things, their order; cmp.Compare, cmp.Or. -/
namespace Go.Proofs.YtogkmnopggmdjaaGreatDoor
open Go.RowKit Go.Shelf Go.Sort Go.Proofs

/-- A thing: where, where it ends, its order at one place, its note. -/
structure ThR where
  at_ : Int
  en : Int
  od : Fin 3
  nk : Int
  ntu : Int
  ngr : Int
  nlo : Int
  nch : Int
  nto : Int
  nme : Int
  nsi : Int
  nwa : Int
  nar : Int
def thC (x : ThR) : List Value := [.int .i64 x.at_, .int .i64 x.en, .int .i64 ((x.od : Nat) : Int), .int .i64 x.nk, .int .i64 x.ntu, .int .i64 x.ngr, .int .i64 x.nlo, .int .i64 x.nch, .int .i64 x.nto, .int .i64 x.nme, .int .i64 x.nsi, .int .i64 x.nwa, .int .i64 x.nar]
theorem thC_len (x : ThR) : (thC x).length = 13 := rfl
def thA (x : ThR) : Value := .agg #[.int .i64 x.at_, .int .i64 x.en, .int .i64 ((x.od : Nat) : Int), .int .i64 x.nk, .int .i64 x.ntu, .int .i64 x.ngr, .int .i64 x.nlo, .int .i64 x.nch, .int .i64 x.nto, .int .i64 x.nme, .int .i64 x.nsi, .int .i64 x.nwa, .int .i64 x.nar]
/-- Where it stands in order. -/
def ThR.pos (x : ThR) : Int := 3 * x.at_ + ((x.od : Nat) : Int)
theorem flat_setF {α : Type} {f : α → List Value} {sz : Nat} (hf : ∀ x, (f x).length = sz) : ∀ (xs : List α) (i j : Nat) (x y : α) (v : Value), xs[i]? = some x → j < sz → f y = (f x).set j v → (xs.set i y).flatMap f = (xs.flatMap f).set (i * sz + j) v
  | [], i, _, _, _, _, h, _, _ => by simp at h
  | a :: xs, 0, j, x, y, v, h, hj, hy => by
    simp at h; subst h
    rw [List.set_cons_zero, List.flatMap_cons, List.flatMap_cons, hy, Nat.zero_mul, Nat.zero_add, List.set_append_left _ _ (by rw [hf]; exact hj)]
  | a :: xs, i + 1, j, x, y, v, h, hj, hy => by
    have e : (i + 1) * sz + j = sz + (i * sz + j) := by rw [Nat.succ_mul]; omega
    rw [List.set_cons_succ, List.flatMap_cons, List.flatMap_cons, flat_setF hf xs i j x y v (by simpa using h) hj hy, e, List.set_append_right _ _ (by rw [hf]; omega), hf, Nat.add_sub_cancel_left]
/-- One cell of an element of an own row is written. -/
theorem OW.setF {α : Type} {f : α → List Value} {sz : Nat} {e : TypeId} {base : Nat} {w : World} {b n c : Nat} {xs : List α} (h : OW f sz e base w (some ⟨b, 0, none⟩) n c xs) (hf : ∀ x, (f x).length = sz) (i j : Nat) {x y : α} {v : Value}
    (hx : xs[i]? = some x) (hj : j < sz) (hy : f y = (f x).set j v) : OW f sz e base (w.setCell ⟨b, i * sz + j, none⟩ v) (some ⟨b, 0, none⟩) n c (xs.set i y) := by
  refine ⟨⟨by rw [flat_setF hf xs i j x y v hx hj hy]; simpa using h.1.1, ?_⟩, by simpa using h.2⟩
  rcases h.1.2 with ⟨h3, _⟩ | ⟨g, cap, cur, h3, hb, hg, hn, hc, hs, ht⟩
  · cases h3
  · injection h3 with h3 h4 h5
    injection h3 with h3
    injection h3 with h3
    subst h3 h5
    refine .inr ⟨b, c, cur.setIfInBounds (i * sz + j) v, rfl, hb, ?_, hn, hc, by simpa using hs, ?_⟩
    · simp [World.setCell, Array.getElem?_modify, hg]
    · rw [Array.toList_setIfInBounds, List.take_set, ht, flat_setF hf xs i j x y v hx hj hy]
def cmpI (a b : Int) : Int := if a < b then -1 else if b < a then 1 else 0
theorem cmpI_lt (a b : Int) : decide (cmpI a b < 0) = decide (a < b) := by
  unfold cmpI
  split
  · rename_i h; simp [h]
  · rename_i h; split <;> simp [h]
theorem only_grown {a w w' : World} {g : Nat} (h : a.grownBy w (some g)) (hb : Below w.heap.size w w') : a.grownBy w' (some g) :=
  only_trans h (let k := grownBy_of_below hb; ⟨k.os, k.tape, k.output, k.size, fun i hi _ => k.block i hi (by intro e; cases e)⟩)
set_option maxRecDepth 100000 in
theorem isNaN_any (x : Int) (w : World) : Calls Tryz.prog 69 #[.int .i64 x] w fun e w' => e = .returned (.bool false) ∧ w' = w := by
  go_enter Tryz.func69, Tryz.ntmps69
  go_wp2_with fail
  go_ret
  exact ⟨rfl, rfl⟩
set_option maxRecDepth 100000 in
theorem Compare_int (x y : Int) (w : World) : Calls Tryz.prog 41 #[.int .i64 x, .int .i64 y] w fun e w' => e = .returned (.int .i64 (cmpI x y)) ∧ w' = w := by
  go_enter Tryz.func41, Tryz.ntmps41
  by_cases h1 : x < y
  · have hr : cmpI x y = -1 := by unfold cmpI; rw [if_pos h1]
    rw [hr]
    go_wp2_with (go_at_call 69; refine (isNaN_any _ _).mono ?_; rintro e w' ⟨rfl, rfl⟩)
    all_goals first | (go_ret; exact ⟨rfl, rfl⟩) | (exfalso; omega)
  · by_cases h2 : y < x
    · have hr : cmpI x y = 1 := by unfold cmpI; rw [if_neg h1, if_pos h2]
      rw [hr]
      go_wp2_with (go_at_call 69; refine (isNaN_any _ _).mono ?_; rintro e w' ⟨rfl, rfl⟩)
      all_goals first | (go_ret; exact ⟨rfl, rfl⟩) | (exfalso; omega)
    · have hr : cmpI x y = 0 := by unfold cmpI; rw [if_neg h1, if_neg h2]
      rw [hr]
      go_wp2_with (go_at_call 69; refine (isNaN_any _ _).mono ?_; rintro e w' ⟨rfl, rfl⟩)
      all_goals first | (go_ret; exact ⟨rfl, rfl⟩) | (exfalso; omega)
def orI (x y : Int) : Int := if x = 0 then y else x
theorem or2_any (b : Nat) (x y : Int) (w : World) (h : BK w b 3 #[.int .i64 x, .int .i64 y]) :
    Calls Tryz.prog 40 #[.slice (some ⟨b, 0, none⟩) 2 2] w fun e w' => e = .returned (.int .i64 (orI x y)) ∧ w' = w := by
  have c0 := h.cell 0
  have c1 := h.cell 1
  simp only [List.getElem?_toArray, List.getElem?_cons_zero, List.getElem?_cons_succ] at c0 c1
  go_enter Tryz.func40, Tryz.ntmps40
  go_wp2_with fail
  go_loopw [8] (fun i wr => wr = w ∧ (i = .int .i64 0 ∨ i = .int .i64 1 ∧ x = 0 ∨ i = .int .i64 2 ∧ x = 0 ∧ y = 0)) (fun i _ => 2 - (intOf i).toNat)
  case atStart => exact ⟨rfl, .inl rfl⟩
  case round =>
    obtain ⟨rfl, rfl | ⟨rfl, rfl⟩ | ⟨rfl, rfl, rfl⟩⟩ := hrel
    · by_cases hx : x = 0
      · subst hx
        go_wp2_with fail
        go_roundw
        case rel => simp
        case measure => simp [intOf]
      · go_wp2_with fail
        go_ret
        exact ⟨by unfold orI; rw [if_neg hx]; rfl, rfl⟩
    · by_cases hy : y = 0
      · subst hy
        go_wp2_with fail
        go_roundw
        case rel => simp
        case measure => simp [intOf]
      · go_wp2_with fail
        go_ret
        exact ⟨by unfold orI; rw [if_pos rfl]; rfl, rfl⟩
    · go_wp2_with fail
      go_ret
      exact ⟨by unfold orI; rw [if_pos rfl]; rfl, rfl⟩
theorem cmpI_or (x y : ThR) : orI (cmpI x.at_ y.at_) (cmpI ((x.od : Nat) : Int) ((y.od : Nat) : Int)) = cmpI x.pos y.pos := by
  have h1 := x.od.isLt
  have h2 := y.od.isLt
  unfold orI cmpI ThR.pos
  repeat' split
  all_goals omega
set_option maxRecDepth 100000 in
set_option maxHeartbeats 4000000 in
theorem cmpT_any (x y : ThR) (w : World) : Calls Tryz.prog 39 #[thA x, thA y] w fun e w' => e = .returned (.int .i64 (cmpI x.pos y.pos)) ∧ Below w.heap.size w w' := by
  obtain ⟨w0, hw0⟩ : ∃ w0, w0 = (w.alloc (.cells #[.int .i64 x.at_, .int .i64 x.en, .int .i64 ((x.od : Nat) : Int), .int .i64 x.nk, .int .i64 x.ntu, .int .i64 x.ngr, .int .i64 x.nlo, .int .i64 x.nch, .int .i64 x.nto, .int .i64 x.nme, .int .i64 x.nsi, .int .i64 x.nwa, .int .i64 x.nar] 94)).alloc (.cells #[.int .i64 y.at_, .int .i64 y.en, .int .i64 ((y.od : Nat) : Int), .int .i64 y.nk, .int .i64 y.ntu, .int .i64 y.ngr, .int .i64 y.nlo, .int .i64 y.nch, .int .i64 y.nto, .int .i64 y.nme, .int .i64 y.nsi, .int .i64 y.nwa, .int .i64 y.nar] 94) := ⟨_, rfl⟩
  have hX : BK w0 w.heap.size 94 #[.int .i64 x.at_, .int .i64 x.en, .int .i64 ((x.od : Nat) : Int), .int .i64 x.nk, .int .i64 x.ntu, .int .i64 x.ngr, .int .i64 x.nlo, .int .i64 x.nch, .int .i64 x.nto, .int .i64 x.nme, .int .i64 x.nsi, .int .i64 x.nwa, .int .i64 x.nar] := by rw [hw0]; exact (BK.new w _ _).alloc _
  have hY : BK w0 (w.heap.size + 1) 94 #[.int .i64 y.at_, .int .i64 y.en, .int .i64 ((y.od : Nat) : Int), .int .i64 y.nk, .int .i64 y.ntu, .int .i64 y.ngr, .int .i64 y.nlo, .int .i64 y.nch, .int .i64 y.nto, .int .i64 y.nme, .int .i64 y.nsi, .int .i64 y.nwa, .int .i64 y.nar] := by
    rw [hw0]
    have := BK.new (w.alloc (.cells #[.int .i64 x.at_, .int .i64 x.en, .int .i64 ((x.od : Nat) : Int), .int .i64 x.nk, .int .i64 x.ntu, .int .i64 x.ngr, .int .i64 x.nlo, .int .i64 x.nch, .int .i64 x.nto, .int .i64 x.nme, .int .i64 x.nsi, .int .i64 x.nwa, .int .i64 x.nar] 94)) 94 #[.int .i64 y.at_, .int .i64 y.en, .int .i64 ((y.od : Nat) : Int), .int .i64 y.nk, .int .i64 y.ntu, .int .i64 y.ngr, .int .i64 y.nlo, .int .i64 y.nch, .int .i64 y.nto, .int .i64 y.nme, .int .i64 y.nsi, .int .i64 y.nwa, .int .i64 y.nar]
    rw [World.size_alloc] at this
    exact this
  have hB0 : Below w.heap.size w w0 := by rw [hw0]; exact ((Below.refl _ w).alloc (Nat.le_refl _) _).alloc (by simp) _
  go_enter Tryz.func39, Tryz.ntmps39
  unfold thA
  go_wp2_with fail
  rw [← hw0]
  clear hw0
  have hmo : Tryz.prog.follows .mixedOrders = true := by kernel_rfl
  have x0' := hX.cell 0
  have x2' := hX.cell 2
  have y0' := hY.cell 0
  have y2' := hY.cell 2
  simp only [List.getElem?_toArray, List.getElem?_cons_zero, List.getElem?_cons_succ] at x0' x2' y0' y2'
  have x0 := fun d os => cell_regrown x0' d os
  have x2 := fun d os => cell_regrown x2' d os
  have y0 := fun d os => cell_regrown y0' d os
  have y2 := fun d os => cell_regrown y2' d os
  clear x0' x2' y0' y2'
  refine wp_region_qt 10 hmo (by kernel_rfl) ?_
  simp only [List.take_succ_cons, List.take_zero, List.drop_succ_cons, List.drop_zero]
  repeat (quiet_step (first | (go_at_call 41; exact (Compare_int _ _ _).mono fun _ _ ⟨a, b⟩ => ⟨a, _, b⟩)))
  refine wpQuiet_nil ?_
  intro W' hbw
  have HB := Lib.hid hbw
  clear x0 x2 y0 y2 hbw hX hY
  go_wp2_with (go_at_call 40; refine (or2_any _ _ _ _ (BK.new _ _ _)).mono ?_; rintro e w' ⟨rfl, rfl⟩)
  go_ret
  rw [cmpI_or]
  have h1 : Below w.heap.size w W' := hB0.trans (HB.out.mono hB0.size)
  exact ⟨rfl, h1.alloc h1.size _⟩
end Go.Proofs.YtogkmnopggmdjaaGreatDoor
