/- hairpintop.known09: the document's examples. -/
import Derived.Test.YtafclpmnpamipaaGreatQOpenS
import Derived.Test.YtafclpmnpamipaaGreatQFuel
import Derived.Test.YtafclpmnpamipaaGreatQSpd
namespace Go.Proofs.YtafclpmnpamipaaGreat
open Go.RowKit Go.Shelf Go.Sort Go.Proofs

set_option maxRecDepth 100000 in
set_option maxHeartbeats 4000000 in
theorem known09_any (w : World) : Calls Tryz.prog 7 #[] w fun e w' => e = .returned (.bool true) ∧ Below w.heap.size w w' := by
  go_enter Tryz.func7, Tryz.ntmps7
  go_wp2_with fail
  obtain ⟨W5, hW5⟩ : ∃ W5, W5 = (((((w.alloc (.cells #[.int .i64 1000, .int .i64 0, .int .i64 0, .int .i64 50, .int .i64 1] 89)).alloc (.cells #[.slice (some ⟨w.heap.size, 0, none⟩) 1 1, .slice none 0 0, .slice none 0 0] 26)).alloc (.cells #[.int .i64 5, .int .i64 50, .int .i64 100] 87)).alloc (.cells #[.int .i64 100, .int .i64 100, .int .i64 100, .int .i64 100, .int .i64 100, .int .i64 100, .int .i64 100, .int .i64 100, .int .i64 100] 3)).alloc (.cells #[.int .i64 100, .int .i64 200, .slice (some ⟨w.heap.size + 1 + 1, 0, none⟩) 1 1, .slice (some ⟨w.heap.size + 1 + 1 + 1, 0, none⟩) 9 9] 30)) := ⟨_, rfl⟩
  have b0 : BK W5 (w.heap.size) 89 #[.int .i64 1000, .int .i64 0, .int .i64 0, .int .i64 50, .int .i64 1] := by rw [hW5]; have := BK.new w 89 #[.int .i64 1000, .int .i64 0, .int .i64 0, .int .i64 50, .int .i64 1]; exact ((((this.alloc _).alloc _).alloc _).alloc _)
  have b1 : BK W5 (w.heap.size + 1) 26 #[.slice (some ⟨w.heap.size, 0, none⟩) 1 1, .slice none 0 0, .slice none 0 0] := by rw [hW5]; have := BK.new (w.alloc (.cells #[.int .i64 1000, .int .i64 0, .int .i64 0, .int .i64 50, .int .i64 1] 89)) 26 #[.slice (some ⟨w.heap.size, 0, none⟩) 1 1, .slice none 0 0, .slice none 0 0]; rw [World.size_alloc] at this; exact (((this.alloc _).alloc _).alloc _)
  have b2 : BK W5 (w.heap.size + 2) 87 #[.int .i64 5, .int .i64 50, .int .i64 100] := by rw [hW5]; have := BK.new ((w.alloc (.cells #[.int .i64 1000, .int .i64 0, .int .i64 0, .int .i64 50, .int .i64 1] 89)).alloc (.cells #[.slice (some ⟨w.heap.size, 0, none⟩) 1 1, .slice none 0 0, .slice none 0 0] 26)) 87 #[.int .i64 5, .int .i64 50, .int .i64 100]; rw [World.size_alloc, World.size_alloc] at this; exact ((this.alloc _).alloc _)
  have b3 : BK W5 (w.heap.size + 3) 3 #[.int .i64 100, .int .i64 100, .int .i64 100, .int .i64 100, .int .i64 100, .int .i64 100, .int .i64 100, .int .i64 100, .int .i64 100] := by rw [hW5]; have := BK.new (((w.alloc (.cells #[.int .i64 1000, .int .i64 0, .int .i64 0, .int .i64 50, .int .i64 1] 89)).alloc (.cells #[.slice (some ⟨w.heap.size, 0, none⟩) 1 1, .slice none 0 0, .slice none 0 0] 26)).alloc (.cells #[.int .i64 5, .int .i64 50, .int .i64 100] 87)) 3 #[.int .i64 100, .int .i64 100, .int .i64 100, .int .i64 100, .int .i64 100, .int .i64 100, .int .i64 100, .int .i64 100, .int .i64 100]; rw [World.size_alloc, World.size_alloc, World.size_alloc] at this; exact (this.alloc _)
  have b4 : BK W5 (w.heap.size + 4) 30 #[.int .i64 100, .int .i64 200, .slice (some ⟨w.heap.size + 1 + 1, 0, none⟩) 1 1, .slice (some ⟨w.heap.size + 1 + 1 + 1, 0, none⟩) 9 9] := by rw [hW5]; have := BK.new ((((w.alloc (.cells #[.int .i64 1000, .int .i64 0, .int .i64 0, .int .i64 50, .int .i64 1] 89)).alloc (.cells #[.slice (some ⟨w.heap.size, 0, none⟩) 1 1, .slice none 0 0, .slice none 0 0] 26)).alloc (.cells #[.int .i64 5, .int .i64 50, .int .i64 100] 87)).alloc (.cells #[.int .i64 100, .int .i64 100, .int .i64 100, .int .i64 100, .int .i64 100, .int .i64 100, .int .i64 100, .int .i64 100, .int .i64 100] 3)) 30 #[.int .i64 100, .int .i64 200, .slice (some ⟨w.heap.size + 1 + 1, 0, none⟩) 1 1, .slice (some ⟨w.heap.size + 1 + 1 + 1, 0, none⟩) 9 9]; rw [World.size_alloc, World.size_alloc, World.size_alloc, World.size_alloc] at this; exact this
  have hB5 : Below w.heap.size w W5 := by rw [hW5]; exact (((((Below.refl w.heap.size w).alloc (Nat.le_refl _) _).alloc (by simp) _).alloc (by simp; omega) _).alloc (by simp; omega) _).alloc (by simp; omega) _
  rw [← hW5]
  clear hW5
  have hz5 := b4.lt
  have hR5 : RD W5 W5.heap.size (some ⟨w.heap.size, 0, none⟩) 1 none 0 none 0 kR := ⟨SL.of_blk (xs := kR.ps) b0 rfl pC_len (by omega), SL.nil_, SL.nil_⟩
  have hS5 : SD W5 W5.heap.size (some ⟨w.heap.size + 1 + 1, 0, none⟩) 1 (some ⟨w.heap.size + 1 + 1 + 1, 0, none⟩) 9 kS := ⟨SL.of_blk (xs := kS.rows) b2 rfl spC_len (by omega), SL.of_blk (xs := kS.surf) b3 rfl iC_len (by omega)⟩
  have HR5 := Lib.hid hR5
  clear hR5
  refine (Between_any 0 1000 _ 1 1 _ 0 0 _ 0 0 kR _ 1 1 _ 9 9 kS W5 HR5.out hS5 kR_ok kS_ok).mono ?_
  rintro e W6 ⟨rfl, hk0⟩
  rw [kBtw]
  have hB6 := hB5.trans (hk0.mono hB5.size)
  have r6 := b1.below hk0 b1.lt
  have HR6 := Lib.hid (HR5.out.grow hk0 hk0.size)
  clear b0 b1 b2 b3 b4 hS5 HR5 hk0 hB5
  go_wp2_with fail
  obtain ⟨W7, hW7⟩ : ∃ W7, W7 = W6.alloc (.cells legs 93) := ⟨_, rfl⟩
  have hk0 : Below W6.heap.size W6 W7 := by rw [hW7]; exact (Below.refl W6.heap.size W6).alloc (Nat.le_refl _) _
  have l7 : BK W7 W6.heap.size 93 legs := by rw [hW7]; exact BK.new W6 _ _
  have hW7' : W7 = W6.alloc (.cells #[.int .i64 10, .int .i64 20, .int .i64 30, .int .i64 10, .int .i64 25, .int .i64 30] 93) := hW7
  rw [← hW7']
  clear hW7 hW7'
  refine (Fuel_known W6.heap.size 2 W7 l7).mono ?_
  rintro e W8 ⟨A, c', rfl, a8, hk1⟩
  have hk2 := hk0.trans (hk1.mono hk0.size)
  have hB8 := hB6.trans (hk2.mono hB6.size)
  have r8 := r6.below hk2 r6.lt
  have HR8 := Lib.hid (HR6.out.grow hk2 hk2.size)
  have x0 := r8.cell 0
  have x1 := r8.cell 1
  have x2 := r8.cell 2
  simp only [List.getElem?_toArray, List.getElem?_cons_zero, List.getElem?_cons_succ] at x0 x1 x2
  clear r6 HR6 hk0 hk1 hk2 l7 hB6
  go_wp2_with fail
  clear x0 x1 x2
  refine (Length_in _ 1 1 _ 0 0 _ 0 0 kR W8 HR8.out kR_ok).mono ?_
  rintro e W9 ⟨rfl, hk0⟩
  rw [kR_len]
  have hB9 := hB8.trans (hk0.mono hB8.size)
  have a9 := a8.below hk0 a8.lt
  go_wp2_with fail
  obtain ⟨W10, hW10⟩ : ∃ W10, W10 = W9.alloc (.cells #[.int .i64 15, .int .i64 25] 3) := ⟨_, rfl⟩
  have hk1 : Below W9.heap.size W9 W10 := by rw [hW10]; exact (Below.refl W9.heap.size W9).alloc (Nat.le_refl _) _
  have n10 : BK W10 W9.heap.size 3 #[.int .i64 15, .int .i64 25] := by rw [hW10]; exact BK.new W9 _ _
  rw [← hW10]
  clear hW10
  have a10 := a9.below hk1 a9.lt
  have hB10 := hB9.trans (hk1.mono hB9.size)
  refine (R4Same_true _ 2 c' _ 2 [15, 25] W10 (SL.of_blk (xs := [15, 25]) a10 rfl iC_len a10.lt) (SL.of_blk (xs := [15, 25]) n10 rfl iC_len n10.lt) (by omega)).mono ?_
  rintro e W11 ⟨rfl, hk2⟩
  have hB11 := hB10.trans (hk2.mono hB10.size)
  go_wp2_with fail
  go_ret
  exact ⟨rfl, hB11⟩
end Go.Proofs.YtafclpmnpamipaaGreat
