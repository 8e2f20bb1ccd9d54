/- slices.Clone at pieces, crests and junctions. -/
import Derived.Test.YtomloklckpcaiaaAppS
namespace Go.Proofs.Ytomloklckpcaiaa
open Go.RowKit Go.Shelf Go.Sort Go.Proofs

theorem OW.zero {α : Type} {f : α → List Value} {sz : Nat} {e : TypeId} {base : Nat} {w : World} {N : Nat} (hb : BK w N e #[]) (hN : base ≤ N) : OW f sz e base w (some ⟨N, 0, none⟩) 0 0 ([] : List α) :=
  ⟨⟨by simp, .inr ⟨N, 0, #[], rfl, hN, hb, Nat.le_refl _, by unfold maxLen; omega, by simp, by simp⟩⟩, rfl⟩
theorem infoP : (Try.prog.info? 52).map (fun i => (i.zero, i.size, i.bytes)) = some (some (.agg #[.int .i64 0, .int .i64 0, .int .i64 0, .int .i64 0, .int .i64 0]), 5, 40) := by kernel_rfl
theorem oneP (x : Piece) : ∀ u ∈ pC x, u.oneCell' = true := by intro u hu; simp [pC] at hu; rcases hu with rfl | rfl | rfl | rfl | rfl <;> rfl
set_option maxRecDepth 100000 in
set_option maxHeartbeats 1000000 in
theorem CloneP_any (A : Option Addr) (n c : Nat) (xs : List Piece) (w : World) (h : SL pC 5 w w.heap.size A n xs) (hn : n ≤ 100000) :
    Calls Try.prog 65 #[.slice A n c] w fun e w' => ∃ A' c', e = .returned (.slice A' n c') ∧ OW pC 5 52 w.heap.size w' A' n c' xs ∧ Below w.heap.size w w' := by
  rcases A with _ | ad
  · have hn0 : n = 0 := by
      rcases Nat.eq_zero_or_pos n with h0 | h0
      · exact h0
      · obtain ⟨_, _, h, _⟩ := h.2 h0; cases h
    subst hn0
    have hx : xs = [] := List.eq_nil_of_length_eq_zero h.1.symm
    subst hx
    have hq := fun (W : World) => Lib.run_eql_slice_nil (P := Try.prog) W 22 52 none 0 c 0 0 Try.underlying22
    go_enter Try.func65, Try.ntmps65
    go_wp2_with fail
    go_ret
    exact ⟨_, _, rfl, OW.nil_, Below.refl _ _⟩
  · have HH := Lib.hid h
    clear h
    have hq := fun (W : World) => Lib.run_eql_slice_nil (P := Try.prog) W 22 52 (some ad) n c 0 0 Try.underlying22
    have hb0 : BK (w.alloc (.cells #[] 52)) w.heap.size 52 #[] := BK.new _ _ _
    have ho : OW pC 5 52 w.heap.size (w.alloc (.cells #[] 52)) (some ⟨w.heap.size, 0, none⟩) 0 0 [] := OW.zero hb0 (Nat.le_refl _)
    have hba : Below w.heap.size w (w.alloc (.cells #[] 52)) := (Below.refl _ _).alloc (Nat.le_refl _) _
    go_enter Try.func65, Try.ntmps65
    go_wp2_with (at_builtin; refine wpList_appS rfl _ _ 22 rfl w.heap.size 52 _ 5 40 Try.underlying22 infoP rfl (by decide) pC _ 0 0 [] rfl ho w.heap.size (some ad) n c xs rfl (HH.out.below hba) pC_len oneP (by omega) (by omega) (by simp) ?_; intro A' c' w' hap; have HAP := Lib.hid hap; clear hap)
    go_ret
    have hap := HAP.out
    have h1 := hap.own
    rw [List.nil_append] at h1
    simp only [Nat.zero_add] at h1
    exact ⟨_, _, rfl, h1, hba.trans hap.bel⟩
theorem infoC : (Try.prog.info? 87).map (fun i => (i.zero, i.size, i.bytes)) = some (some (.agg #[.int .i64 0, .int .i64 0]), 2, 16) := by kernel_rfl
theorem oneC (x : Crest) : ∀ u ∈ cC x, u.oneCell' = true := by intro u hu; simp [cC] at hu; rcases hu with rfl | rfl <;> rfl
set_option maxRecDepth 100000 in
set_option maxHeartbeats 1000000 in
theorem CloneC_any (A : Option Addr) (n c : Nat) (xs : List Crest) (w : World) (h : SL cC 2 w w.heap.size A n xs) (hn : n ≤ 100000) :
    Calls Try.prog 66 #[.slice A n c] w fun e w' => ∃ A' c', e = .returned (.slice A' n c') ∧ OW cC 2 87 w.heap.size w' A' n c' xs ∧ Below w.heap.size w w' := by
  rcases A with _ | ad
  · have hn0 : n = 0 := by
      rcases Nat.eq_zero_or_pos n with h0 | h0
      · exact h0
      · obtain ⟨_, _, h, _⟩ := h.2 h0; cases h
    subst hn0
    have hx : xs = [] := List.eq_nil_of_length_eq_zero h.1.symm
    subst hx
    have hq := fun (W : World) => Lib.run_eql_slice_nil (P := Try.prog) W 23 87 none 0 c 0 0 Try.underlying23
    go_enter Try.func66, Try.ntmps66
    go_wp2_with fail
    go_ret
    exact ⟨_, _, rfl, OW.nil_, Below.refl _ _⟩
  · have HH := Lib.hid h
    clear h
    have hq := fun (W : World) => Lib.run_eql_slice_nil (P := Try.prog) W 23 87 (some ad) n c 0 0 Try.underlying23
    have hb0 : BK (w.alloc (.cells #[] 87)) w.heap.size 87 #[] := BK.new _ _ _
    have ho : OW cC 2 87 w.heap.size (w.alloc (.cells #[] 87)) (some ⟨w.heap.size, 0, none⟩) 0 0 [] := OW.zero hb0 (Nat.le_refl _)
    have hba : Below w.heap.size w (w.alloc (.cells #[] 87)) := (Below.refl _ _).alloc (Nat.le_refl _) _
    go_enter Try.func66, Try.ntmps66
    go_wp2_with (at_builtin; refine wpList_appS rfl _ _ 23 rfl w.heap.size 87 _ 2 16 Try.underlying23 infoC rfl (by decide) cC _ 0 0 [] rfl ho w.heap.size (some ad) n c xs rfl (HH.out.below hba) cC_len oneC (by omega) (by omega) (by simp) ?_; intro A' c' w' hap; have HAP := Lib.hid hap; clear hap)
    go_ret
    have hap := HAP.out
    have h1 := hap.own
    rw [List.nil_append] at h1
    simp only [Nat.zero_add] at h1
    exact ⟨_, _, rfl, h1, hba.trans hap.bel⟩
theorem infoJ : (Try.prog.info? 89).map (fun i => (i.zero, i.size, i.bytes)) = some (some (.agg #[.int .i64 0, .int .i64 0, .int .i64 0]), 3, 24) := by kernel_rfl
theorem oneJ (x : Junc) : ∀ u ∈ jC x, u.oneCell' = true := by intro u hu; simp [jC] at hu; rcases hu with rfl | rfl | rfl <;> rfl
set_option maxRecDepth 100000 in
set_option maxHeartbeats 1000000 in
theorem CloneJ_any (A : Option Addr) (n c : Nat) (xs : List Junc) (w : World) (h : SL jC 3 w w.heap.size A n xs) (hn : n ≤ 100000) :
    Calls Try.prog 67 #[.slice A n c] w fun e w' => ∃ A' c', e = .returned (.slice A' n c') ∧ OW jC 3 89 w.heap.size w' A' n c' xs ∧ Below w.heap.size w w' := by
  rcases A with _ | ad
  · have hn0 : n = 0 := by
      rcases Nat.eq_zero_or_pos n with h0 | h0
      · exact h0
      · obtain ⟨_, _, h, _⟩ := h.2 h0; cases h
    subst hn0
    have hx : xs = [] := List.eq_nil_of_length_eq_zero h.1.symm
    subst hx
    have hq := fun (W : World) => Lib.run_eql_slice_nil (P := Try.prog) W 24 89 none 0 c 0 0 Try.underlying24
    go_enter Try.func67, Try.ntmps67
    go_wp2_with fail
    go_ret
    exact ⟨_, _, rfl, OW.nil_, Below.refl _ _⟩
  · have HH := Lib.hid h
    clear h
    have hq := fun (W : World) => Lib.run_eql_slice_nil (P := Try.prog) W 24 89 (some ad) n c 0 0 Try.underlying24
    have hb0 : BK (w.alloc (.cells #[] 89)) w.heap.size 89 #[] := BK.new _ _ _
    have ho : OW jC 3 89 w.heap.size (w.alloc (.cells #[] 89)) (some ⟨w.heap.size, 0, none⟩) 0 0 [] := OW.zero hb0 (Nat.le_refl _)
    have hba : Below w.heap.size w (w.alloc (.cells #[] 89)) := (Below.refl _ _).alloc (Nat.le_refl _) _
    go_enter Try.func67, Try.ntmps67
    go_wp2_with (at_builtin; refine wpList_appS rfl _ _ 24 rfl w.heap.size 89 _ 3 24 Try.underlying24 infoJ rfl (by decide) jC _ 0 0 [] rfl ho w.heap.size (some ad) n c xs rfl (HH.out.below hba) jC_len oneJ (by omega) (by omega) (by simp) ?_; intro A' c' w' hap; have HAP := Lib.hid hap; clear hap)
    go_ret
    have hap := HAP.out
    have h1 := hap.own
    rw [List.nil_append] at h1
    simp only [Nat.zero_add] at h1
    exact ⟨_, _, rfl, h1, hba.trans hap.bel⟩
end Go.Proofs.Ytomloklckpcaiaa
