/- layer 3's known examples. -/
import Derived.Test.YtogkmnopggmdjaaGreatDoorPBegB
import Derived.Test.YtogkmnopggmdjaaGreatDoorPPlan
import Derived.Test.YtogkmnopggmdjaaGreatDoorPPlanS
import Derived.Test.YtogkmnopggmdjaaGreatDoorPSpd
import Derived.Test.YtogkmnopggmdjaaGreatDoorPSpCk
import Derived.Test.YtogkmnopggmdjaaGreatDoorPOrdM
import Derived.Test.YtogkmnopggmdjaaGreatDoorPNoteK
import Derived.Test.YtogkmnopggmdjaaGreatDoorPNList
namespace Go.Proofs.YtogkmnopggmdjaaGreatDoor
open Go.RowKit Go.Shelf Go.Sort Go.Proofs

theorem sl_one_piece {w : World} {B b : Nat} {t : TypeId} (p : Piece) (h : BK w b t #[.int .i64 p.len, .int .i64 p.turn, .int .i64 p.rad, .int .i64 p.wid, .int .i64 p.sur]) (hb : b < B) : PS w B (some ⟨b, 0, none⟩) 1 [p] := by
  refine ⟨rfl, fun _ => ⟨b, 0, rfl, hb, fun i x hx j v hv => ?_⟩⟩
  match i, hx with
  | 0, hx =>
    cases hx
    match j, hv with
    | 0, hv | 1, hv | 2, hv | 3, hv | 4, hv => cases hv; exact h.cell _
    | j + 5, hv => cases hv
  | i + 1, hx => simp at hx
theorem sl_one_row {w : World} {B b : Nat} {t : TypeId} (p : SpRow) (h : BK w b t #[.int .i64 p.rad, .int .i64 p.least, .int .i64 p.most]) (hb : b < B) : SL spC 3 w B (some ⟨b, 0, none⟩) 1 [p] := by
  refine ⟨rfl, fun _ => ⟨b, 0, rfl, hb, fun i x hx j v hv => ?_⟩⟩
  match i, hx with
  | 0, hx =>
    cases hx
    match j, hv with
    | 0, hv | 1, hv | 2, hv => cases hv; exact h.cell _
    | j + 3, hv => cases hv
  | i + 1, hx => simp at hx
theorem sl_ints {w : World} {B b : Nat} {t : TypeId} (xs : List Int) (h : BK w b t (xs.map fun i => Value.int .i64 i).toArray) (hb : b < B) : IS w B (some ⟨b, 0, none⟩) xs.length xs := by
  refine ⟨rfl, fun _ => ⟨b, 0, rfl, hb, fun i x hx j v hv => ?_⟩⟩
  match j, hv with
  | 0, hv =>
    cases hv
    have := h.cell (0 + i * 1 + 0)
    rw [this, List.getElem?_toArray, List.getElem?_map, show 0 + i * 1 + 0 = i by omega, hx]
    rfl
  | j + 1, hv => cases hv
set_option maxRecDepth 100000 in
theorem straight_any (w : World) :
    Calls Tryz.prog 28 #[] w fun e w' => (∃ b1 b2 b3 : Nat, e = .returned (.tuple #[.agg #[.slice (some ⟨b1, 0, none⟩) 1 1, .slice none 0 0, .slice none 0 0], .agg #[.int .i64 kS.least, .int .i64 kS.most, .slice (some ⟨b2, 0, none⟩) 1 1, .slice (some ⟨b3, 0, none⟩) 9 9]]) ∧
      RD w' w'.heap.size (some ⟨b1, 0, none⟩) 1 none 0 none 0 kR ∧ SD w' w'.heap.size (some ⟨b2, 0, none⟩) 1 (some ⟨b3, 0, none⟩) 9 kS) ∧ Below w.heap.size w w' := by
  obtain ⟨A1, e1⟩ : ∃ A, A = w.alloc (.cells #[.slice (some ⟨w.heap.size + 1 + 1, 0, none⟩) 1 1, .slice none 0 0, .slice none 0 0] 26) := ⟨_, rfl⟩
  have s1 : A1.heap.size = w.heap.size + 1 := by rw [e1, World.size_alloc]
  have h1 : BK A1 (w.heap.size) 26 #[.slice (some ⟨w.heap.size + 1 + 1, 0, none⟩) 1 1, .slice none 0 0, .slice none 0 0] := by rw [e1]; exact BK.new _ _ _
  have B1 : Below w.heap.size w A1 := by rw [e1]; exact (Below.refl w.heap.size w).alloc (Nat.le_refl _) _
  obtain ⟨A2, e2⟩ : ∃ A, A = A1.alloc (.cells #[.int .i64 100, .int .i64 200, .slice (some ⟨w.heap.size + 1 + 1 + 1, 0, none⟩) 1 1, .slice (some ⟨w.heap.size + 1 + 1 + 1 + 1, 0, none⟩) 9 9] 60) := ⟨_, rfl⟩
  have s2 : A2.heap.size = w.heap.size + 1 + 1 := by rw [e2, World.size_alloc, s1]
  have h2 : BK A2 (w.heap.size + 1) 60 #[.int .i64 100, .int .i64 200, .slice (some ⟨w.heap.size + 1 + 1 + 1, 0, none⟩) 1 1, .slice (some ⟨w.heap.size + 1 + 1 + 1 + 1, 0, none⟩) 9 9] := by rw [e2]; rw [← s1]; exact BK.new _ _ _
  have B2 : Below w.heap.size w A2 := by rw [e2]; exact B1.alloc B1.size _
  obtain ⟨A3, e3⟩ : ∃ A, A = A2.alloc (.cells #[.int .i64 1000, .int .i64 0, .int .i64 0, .int .i64 50, .int .i64 1] 77) := ⟨_, rfl⟩
  have s3 : A3.heap.size = w.heap.size + 1 + 1 + 1 := by rw [e3, World.size_alloc, s2]
  have h3 : BK A3 (w.heap.size + 1 + 1) 77 #[.int .i64 1000, .int .i64 0, .int .i64 0, .int .i64 50, .int .i64 1] := by rw [e3]; rw [← s2]; exact BK.new _ _ _
  have B3 : Below w.heap.size w A3 := by rw [e3]; exact B2.alloc B2.size _
  obtain ⟨A4, e4⟩ : ∃ A, A = A3.alloc (.cells #[.int .i64 5, .int .i64 50, .int .i64 100] 137) := ⟨_, rfl⟩
  have s4 : A4.heap.size = w.heap.size + 1 + 1 + 1 + 1 := by rw [e4, World.size_alloc, s3]
  have h4 : BK A4 (w.heap.size + 1 + 1 + 1) 137 #[.int .i64 5, .int .i64 50, .int .i64 100] := by rw [e4]; rw [← s3]; exact BK.new _ _ _
  have B4 : Below w.heap.size w A4 := by rw [e4]; exact B3.alloc B3.size _
  obtain ⟨A5, e5⟩ : ∃ A, A = A4.alloc (.cells #[.int .i64 100, .int .i64 100, .int .i64 100, .int .i64 100, .int .i64 100, .int .i64 100, .int .i64 100, .int .i64 100, .int .i64 100] 3) := ⟨_, rfl⟩
  have s5 : A5.heap.size = w.heap.size + 1 + 1 + 1 + 1 + 1 := by rw [e5, World.size_alloc, s4]
  have h5 : BK A5 (w.heap.size + 1 + 1 + 1 + 1) 3 #[.int .i64 100, .int .i64 100, .int .i64 100, .int .i64 100, .int .i64 100, .int .i64 100, .int .i64 100, .int .i64 100, .int .i64 100] := by rw [e5]; rw [← s4]; exact BK.new _ _ _
  have B5 : Below w.heap.size w A5 := by rw [e5]; exact B4.alloc B4.size _
  have g1 : BK A5 (w.heap.size) 26 #[.slice (some ⟨w.heap.size + 1 + 1, 0, none⟩) 1 1, .slice none 0 0, .slice none 0 0] := by rw [e5]; rw [e4]; rw [e3]; rw [e2]; exact ((((h1.alloc _).alloc _).alloc _).alloc _)
  have g2 : BK A5 (w.heap.size + 1) 60 #[.int .i64 100, .int .i64 200, .slice (some ⟨w.heap.size + 1 + 1 + 1, 0, none⟩) 1 1, .slice (some ⟨w.heap.size + 1 + 1 + 1 + 1, 0, none⟩) 9 9] := by rw [e5]; rw [e4]; rw [e3]; exact (((h2.alloc _).alloc _).alloc _)
  have g3 : BK A5 (w.heap.size + 1 + 1) 77 #[.int .i64 1000, .int .i64 0, .int .i64 0, .int .i64 50, .int .i64 1] := by rw [e5]; rw [e4]; exact ((h3.alloc _).alloc _)
  have g4 : BK A5 (w.heap.size + 1 + 1 + 1) 137 #[.int .i64 5, .int .i64 50, .int .i64 100] := by rw [e5]; exact (h4.alloc _)
  have g5 : BK A5 (w.heap.size + 1 + 1 + 1 + 1) 3 #[.int .i64 100, .int .i64 100, .int .i64 100, .int .i64 100, .int .i64 100, .int .i64 100, .int .i64 100, .int .i64 100, .int .i64 100] := by exact h5
  go_enter Tryz.func28, Tryz.ntmps28
  go_wp2_with fail
  rw [← e1, ← e2, ← e3, ← e4, ← e5]
  have z10 := g1.cell 0
  have z11 := g1.cell 1
  have z12 := g1.cell 2
  have z20 := g2.cell 0
  have z21 := g2.cell 1
  have z22 := g2.cell 2
  have z23 := g2.cell 3
  simp only [List.getElem?_toArray, List.getElem?_cons_zero, List.getElem?_cons_succ] at z10 z11 z12 z20 z21 z22 z23
  clear e1 e2 e3 e4 e5 h1 h2 h3 h4 h5
  refine bodyPost_ret (v := .tuple #[.agg #[.slice (some ⟨w.heap.size + 1 + 1, 0, none⟩) 1 1, .slice none 0 0, .slice none 0 0], .agg #[.int .i64 100, .int .i64 200, .slice (some ⟨w.heap.size + 1 + 1 + 1, 0, none⟩) 1 1, .slice (some ⟨w.heap.size + 1 + 1 + 1 + 1, 0, none⟩) 9 9]]) (by simp [results, Tryz.results28, go_sem, z10, z11, z12, z20, z21, z22, z23]) rfl ?_
  refine ⟨⟨_, _, _, rfl, ⟨sl_one_piece ⟨1000, 0, 0, 50, 1⟩ g3 g3.lt, SL.nil_, SL.nil_⟩, ⟨sl_one_row ⟨5, 50, 100⟩ g4 g4.lt, sl_ints [100, 100, 100, 100, 100, 100, 100, 100, 100] g5 g5.lt⟩⟩, B5⟩
set_option maxRecDepth 100000 in
theorem R3Same_true (A : Option Addr) (n c : Nat) (A' : Option Addr) (c' : Nat) (xs : List Int) (w : World) (h : SL iC 1 w w.heap.size A n xs) (h' : SL iC 1 w w.heap.size A' n xs) (hn : n ≤ 100000) :
    Calls Tryz.prog 29 #[.slice A n c, .slice A' n c'] w fun e w' => e = .returned (.bool true) ∧ Below w.heap.size w w' := by
  have H := Lib.hid h
  have H' := Lib.hid h'
  have HL := Lib.hid h.1
  clear h h'
  go_enter Tryz.func29, Tryz.ntmps29
  go_wp2_with fail
  go_loopw [5] (fun i wr => ∃ k : Nat, k ≤ n ∧ i = .int .i64 k ∧ Below w.heap.size w wr)
    (fun i _ => n - (intOf i).toNat)
  case atStart => exact ⟨0, Nat.zero_le _, rfl, Below.refl _ _⟩
  case round =>
    obtain ⟨k, hk, rfl, hbr⟩ := hrel
    by_cases hlt : k < n
    · have hkl : k < xs.length := by rw [← HL.out]; exact hlt
      obtain ⟨b, off, hA, hbB, c0⟩ := IS.at_ (H.out.grow hbr hbr.size) (k := k) hkl
      obtain ⟨b', off', hA', hbB', d0⟩ := IS.at_ (H'.out.grow hbr hbr.size) (k := k) hkl
      generalize xs[k]'hkl = x at c0 d0
      have hi1 : (0 : Int) ≤ (k : Int) := by omega
      have hi2 : (k : Int) < (n : Int) := by omega
      clear hkl
      subst hA
      subst hA'
      go_wp2_with fail
      go_quiet (fail)
      go_wp2_with fail
      go_roundw
      case rel => exact ⟨k + 1, by omega, by go_num, below_drewN hbr _⟩
      case measure => simp [intOf]; omega
    · obtain rfl : k = n := by omega
      go_wp2_with fail
      go_ret
      exact ⟨rfl, hbr⟩
theorem SL.of_blk3 {α : Type} {f : α → List Value} {sz : Nat} {w : World} {B g : Nat} {t : TypeId} {cs : Array Value} {xs : List α} (hb : BK w g t cs) (hcs : cs.toList = xs.flatMap f) (hf : ∀ x, (f x).length = sz) (hg : g < B) :
    SL f sz w B (some ⟨g, 0, none⟩) xs.length xs := by
  refine ⟨rfl, fun _ => ⟨g, 0, rfl, hg, fun i x hx j v hv => ?_⟩⟩
  rw [hb.cell, ← Array.getElem?_toList, hcs, Nat.zero_add]
  exact flat_at hf xs i x hx j v hv
theorem k3R_ok : OK kR := (val_iff _).1 (by decide)
theorem k3S_ok : SOK kS := (spB_iff _).1 (by decide)
theorem k3Btw : btw kS kR 0 1000 = (50000000, 100000000, 0) := by
  have h := kQ 1000 (by omega)
  have h0 := kQ 0 (by omega)
  unfold btw
  rw [if_pos ⟨by decide, by decide, by omega⟩, show (1000 : Int).toNat = 1000 from rfl, show (0 : Int).toNat = 0 from rfl, h.1, h.2, h0.1, h0.2]
  rfl
def kL1 : Array Value := #[.int .i64 500, .int .i64 2000000, .int .i64 1000000, .int .i64 20000000, .int .i64 0, .int .i64 600, .int .i64 2000000, .int .i64 1000000, .int .i64 20000000, .int .i64 0]
def kL2 : Array Value := #[.int .i64 10, .int .i64 1000000, .int .i64 0, .int .i64 0, .int .i64 0]
set_option maxRecDepth 100000 in
set_option maxHeartbeats 4000000 in
theorem known_any (w : World) : Calls Tryz.prog 9 #[] w fun e w' => e = .returned (.bool true) ∧ Below w.heap.size w w' := by
  go_enter Tryz.func9, Tryz.ntmps9
  go_wp2_with fail
  refine (straight_any w).mono ?_
  rintro e W1 ⟨⟨b1, b2, b3, rfl, hR, hS⟩, hB1⟩
  have HR1 := Lib.hid hR
  have HS1 := Lib.hid hS
  clear hR hS
  obtain ⟨W2, e2⟩ : ∃ W, W = (W1.alloc (.cells #[.slice (some ⟨b1, 0, none⟩) 1 1, .slice none 0 0, .slice none 0 0] 26)).alloc (.cells #[.int .i64 kS.least, .int .i64 kS.most, .slice (some ⟨b2, 0, none⟩) 1 1, .slice (some ⟨b3, 0, none⟩) 9 9] 60) := ⟨_, rfl⟩
  have hk1 : Below W1.heap.size W1 W2 := by rw [e2]; exact ((Below.refl _ W1).alloc (Nat.le_refl _) _).alloc (by simp) _
  have X2 : BK W2 W1.heap.size 26 #[.slice (some ⟨b1, 0, none⟩) 1 1, .slice none 0 0, .slice none 0 0] := by rw [e2]; exact (BK.new W1 _ _).alloc _
  have Y2 : BK W2 (W1.heap.size + 1) 60 #[.int .i64 kS.least, .int .i64 kS.most, .slice (some ⟨b2, 0, none⟩) 1 1, .slice (some ⟨b3, 0, none⟩) 9 9] := by
    rw [e2]; have := BK.new (W1.alloc (.cells #[.slice (some ⟨b1, 0, none⟩) 1 1, .slice none 0 0, .slice none 0 0] 26)) 60 #[.int .i64 kS.least, .int .i64 kS.most, .slice (some ⟨b2, 0, none⟩) 1 1, .slice (some ⟨b3, 0, none⟩) 9 9]; rw [World.size_alloc] at this; exact this
  have HR2 := Lib.hid (HR1.out.grow hk1 hk1.size)
  have HS2 := Lib.hid (HS1.out.grow hk1 hk1.size)
  have hB2 := hB1.trans (hk1.mono hB1.size)
  clear HR1 HS1 hk1
  go_wp2_with fail
  rw [← e2]
  clear e2
  have x0 := X2.cell 0
  have x1 := X2.cell 1
  have x2 := X2.cell 2
  have y0 := Y2.cell 0
  have y1 := Y2.cell 1
  have y2 := Y2.cell 2
  have y3 := Y2.cell 3
  simp only [List.getElem?_toArray, List.getElem?_cons_zero, List.getElem?_cons_succ] at x0 x1 x2 y0 y1 y2 y3
  go_wp2_with fail
  clear x0 x1 x2 y0 y1 y2 y3
  refine (Between_any 0 1000 _ 1 1 _ 0 0 _ 0 0 kR _ 1 1 _ 9 9 kS W2 HR2.out HS2.out k3R_ok k3S_ok).mono ?_
  rintro e W3 ⟨rfl, hk⟩
  rw [k3Btw]
  have hB3 := hB2.trans (hk.mono hB2.size)
  have X3 := X2.below hk X2.lt
  have Y3 := Y2.below hk Y2.lt
  have HR3 := Lib.hid (HR2.out.grow hk hk.size)
  have HS3 := Lib.hid (HS2.out.grow hk hk.size)
  clear X2 Y2 HR2 HS2 hk hB1 hB2
  have X4 := X3.alloc (.cells kL1 49)
  have Y4 := Y3.alloc (.cells kL1 49)
  have hk : Below W3.heap.size W3 (W3.alloc (.cells kL1 49)) := (Below.refl _ W3).alloc (Nat.le_refl _) _
  have C4 : SL caC 5 (W3.alloc (.cells kL1 49)) (W3.alloc (.cells kL1 49)).heap.size (some ⟨W3.heap.size, 0, none⟩) 2 [kC1, kC2] := SL.of_blk3 (xs := [kC1, kC2]) (BK.new W3 49 kL1) rfl caC_len (by simp)
  have HR4 := Lib.hid (HR3.out.grow hk hk.size)
  have HS4 := Lib.hid (HS3.out.grow hk hk.size)
  have hB4 := hB3.trans (hk.mono hB3.size)
  clear X3 Y3 HR3 HS3 hk hB3
  unfold kL1 at X4 Y4 C4 HR4 HS4 hB4
  have x0 := X4.cell 0
  have x1 := X4.cell 1
  have x2 := X4.cell 2
  have y0 := Y4.cell 0
  have y1 := Y4.cell 1
  have y2 := Y4.cell 2
  have y3 := Y4.cell 3
  simp only [List.getElem?_toArray, List.getElem?_cons_zero, List.getElem?_cons_succ] at x0 x1 x2 y0 y1 y2 y3
  go_wp2_with fail
  clear x0 x1 x2 y0 y1 y2 y3
  refine (Plan_any _ 1 1 _ 0 0 _ 0 0 kR _ 1 1 _ 9 9 kS _ 2 2 [kC1, kC2] _ HR4.out HS4.out C4 k3R_ok k3S_ok kCok1).mono ?_
  rintro e W5 ⟨A, n, c, rfl, P5, hk⟩
  rw [kPlan1] at P5 ⊢
  have hB5 := hB4.trans (hk.mono hB4.size)
  have X5 := X4.below hk X4.lt
  have Y5 := Y4.below hk Y4.lt
  have HR5 := Lib.hid (HR4.out.grow hk hk.size)
  have HS5 := Lib.hid (HS4.out.grow hk hk.size)
  clear X4 Y4 HR4 HS4 hk hB4 C4
  dsimp only
  dsimp only at P5
  have hcall := plasts_top
  unfold kNote at hcall
  go_wp2_with fail
  have hk0 : Below W5.heap.size W5 (W5.alloc (.cells #[.int .i64 0, .int .i64 0, .bool false] 64)) := (Below.refl _ W5).alloc (Nat.le_refl _) _
  refine (hcall _).mono ?_
  rintro e W6 ⟨rfl, hk1⟩
  have hk := hk0.trans (hk1.mono hk0.size)
  have hB6 := hB5.trans (hk.mono hB5.size)
  have X6 := X5.below hk X5.lt
  have Y6 := Y5.below hk Y5.lt
  have HR6 := Lib.hid (HR5.out.grow hk hk.size)
  have HS6 := Lib.hid (HS5.out.grow hk hk.size)
  have P6 := P5.grow hk hk.size
  clear X5 Y5 HR5 HS5 hk hk0 hk1 hB5 P5 hcall
  have hk : Below W6.heap.size W6 (W6.alloc (.cells kL2 49)) := (Below.refl _ W6).alloc (Nat.le_refl _) _
  have C7 : SL caC 5 (W6.alloc (.cells kL2 49)) (W6.alloc (.cells kL2 49)).heap.size (some ⟨W6.heap.size, 0, none⟩) 1 [kC3] := SL.of_blk3 (xs := [kC3]) (BK.new W6 49 kL2) rfl caC_len (by simp)
  have HR7 := Lib.hid (HR6.out.grow hk hk.size)
  have HS7 := Lib.hid (HS6.out.grow hk hk.size)
  have P7 := P6.grow hk hk.size
  have hB7 := hB6.trans (hk.mono hB6.size)
  clear HR6 HS6 P6 hk hB6
  unfold kL2 at C7 HR7 HS7 P7 hB7
  have x0 := X6.cell 0
  have x1 := X6.cell 1
  have x2 := X6.cell 2
  have y0 := Y6.cell 0
  have y1 := Y6.cell 1
  have y2 := Y6.cell 2
  have y3 := Y6.cell 3
  simp only [List.getElem?_toArray, List.getElem?_cons_zero, List.getElem?_cons_succ] at x0 x1 x2 y0 y1 y2 y3
  go_wp2_with fail
  clear x0 x1 x2 y0 y1 y2 y3
  refine (Plan_any _ 1 1 _ 0 0 _ 0 0 kR _ 1 1 _ 9 9 kS _ 1 1 [kC3] _ HR7.out HS7.out C7 k3R_ok k3S_ok kCok2).mono ?_
  rintro e W8 ⟨A2, n2, c2, rfl, P8, hk⟩
  rw [kPlan2] at P8 ⊢
  have hB8 := hB7.trans (hk.mono hB7.size)
  have Q8 := P7.grow hk hk.size
  clear X6 Y6 HR7 HS7 hk hB7 C7 P8 P7
  dsimp only
  have hn : n = 2 := Q8.1
  subst hn
  go_wp2_with fail
  have hk0 : Below W8.heap.size W8 ((W8.alloc (.cells #[.int .i64 0, .int .i64 0, .bool false] 64)).alloc (.cells #[.int .i64 440, .int .i64 540] 3)) := ((Below.refl _ W8).alloc (Nat.le_refl _) _).alloc (by simp) _
  have Z9 : BK ((W8.alloc (.cells #[.int .i64 0, .int .i64 0, .bool false] 64)).alloc (.cells #[.int .i64 440, .int .i64 540] 3)) W8.heap.size 64 #[.int .i64 0, .int .i64 0, .bool false] := (BK.new W8 _ _).alloc _
  have L9 : IS ((W8.alloc (.cells #[.int .i64 0, .int .i64 0, .bool false] 64)).alloc (.cells #[.int .i64 440, .int .i64 540] 3)) ((W8.alloc (.cells #[.int .i64 0, .int .i64 0, .bool false] 64)).alloc (.cells #[.int .i64 440, .int .i64 540] 3)).heap.size (some ⟨W8.heap.size + 1, 0, none⟩) 2 [440, 540] := by
    have hb := BK.new (W8.alloc (.cells #[.int .i64 0, .int .i64 0, .bool false] 64)) 3 #[.int .i64 440, .int .i64 540]
    rw [World.size_alloc] at hb
    exact SL.of_blk3 (xs := [440, 540]) hb rfl iC_len (by simp)
  have Q9 := Q8.grow hk0 hk0.size
  have hB9 := hB8.trans (hk0.mono hB8.size)
  clear hk0 Q8 hB8
  refine (R3Same_true A 2 c _ 2 [440, 540] _ Q9 L9 (by omega)).mono ?_
  rintro e W10 ⟨rfl, hk⟩
  have hB10 := hB9.trans (hk.mono hB9.size)
  have Z10 := Z9.below hk Z9.lt
  clear Q9 L9 Z9 hk hB9
  have z0 := Z10.cell 0
  have z1 := Z10.cell 1
  have z2 := Z10.cell 2
  simp only [List.getElem?_toArray, List.getElem?_cons_zero, List.getElem?_cons_succ] at z0 z1 z2
  go_wp2_with fail
  go_ret
  exact ⟨rfl, hB10⟩
end Go.Proofs.YtogkmnopggmdjaaGreatDoor

/- How long a note takes: pace.Lasts, the document's; the law function PaceLasts, walked. -/
namespace Go.Proofs.YtogkmnopggmdjaaGreatDoor
open Go.RowKit Go.Shelf Go.Sort Go.Proofs

theorem pspeech_any (v l : Int) (w : World) :
    Calls Tryz.prog 30 #[.agg #[.int .i64 v, .int .i64 l]] w fun e w' => e = .returned (.bool (spchB v l)) ∧ Below w.heap.size w w' := by
  have hb := (Below.refl w.heap.size w).alloc (Nat.le_refl _) (.cells #[.int .i64 v, .int .i64 l] 33)
  have hS : spchB v l = (inR v 0 10000000 && inR l 0 1000000) := by unfold spchB inR; rw [Bool.decide_and, Bool.decide_and]
  rw [hS]
  clear hS
  cases h1 : inR v 0 10000000
  case false =>
    go_enter Tryz.func30, Tryz.ntmps30
    go_wp2_with (go_at_call 31; refine (pwithin_any _ _ _ _).mono ?_; rintro e w' ⟨rfl, rfl⟩)
    go_ret
    exact ⟨rfl, hb⟩
  go_enter Tryz.func30, Tryz.ntmps30
  go_wp2_with (go_at_call 31; refine (pwithin_any _ _ _ _).mono ?_; rintro e w' ⟨rfl, rfl⟩)
  go_ret
  exact ⟨by rw [Bool.true_and]; rfl, hb⟩
theorem in3L_any (x lo hi : Int) (w : World) :
    Calls Tryz.prog 27 #[.int .i64 x, .int .i64 lo, .int .i64 hi] w fun e w' => e = .returned (.bool (decide (lo ≤ x) && decide (x ≤ hi))) ∧ w = w' := by
  by_cases h : lo ≤ x
  · have e : (decide (lo ≤ x) && decide (x ≤ hi)) = decide (x ≤ hi) := by simp [h]
    rw [e]; clear e
    go_enter Tryz.func27, Tryz.ntmps27
    go_wp2
    go_ret
    exact ⟨rfl, rfl⟩
  · have e : (decide (lo ≤ x) && decide (x ≤ hi)) = false := by simp [h]
    rw [e]; clear e
    go_enter Tryz.func27, Tryz.ntmps27
    go_wp2
    go_ret
    exact ⟨rfl, rfl⟩
theorem rspeech_any (v l : Int) (w : World) :
    Calls Tryz.prog 8 #[.agg #[.int .i64 v, .int .i64 l]] w fun e w' => e = .returned (.bool (spchB v l)) ∧ Below w.heap.size w w' := by
  have hb := (Below.refl w.heap.size w).alloc (Nat.le_refl _) (.cells #[.int .i64 v, .int .i64 l] 33)
  cases h1 : decide (0 ≤ v) && decide (v ≤ 10000000)
  case false =>
    have e : spchB v l = false := by unfold spchB; rw [Bool.decide_and, h1]; rfl
    rw [e]; clear e
    go_enter Tryz.func8, Tryz.ntmps8
    go_wp2_with (go_at_call 27; refine (in3L_any _ _ _ _).mono ?_; rintro e w' ⟨rfl, rfl⟩)
    go_ret
    exact ⟨rfl, hb⟩
  have e : spchB v l = (decide (0 ≤ l) && decide (l ≤ 1000000)) := by unfold spchB; rw [Bool.decide_and, h1, Bool.decide_and]; rfl
  rw [e]; clear e
  go_enter Tryz.func8, Tryz.ntmps8
  go_wp2_with (go_at_call 27; refine (in3L_any _ _ _ _).mono ?_; rintro e w' ⟨rfl, rfl⟩)
  go_ret
  exact ⟨rfl, hb⟩
theorem spch_bd {v l : Int} (h : spchB v l = true) : (0 ≤ v ∧ v ≤ 10000000) ∧ (0 ≤ l ∧ l ≤ 1000000) := by
  unfold spchB at h
  simpa using h
/-- pace.lasts of any note. -/
def lastV (n : NoteR) (v l : Int) : Int × Int := if nVal n then (lastS v l (nTxt n), 0) else (0, 2)
theorem sl_one_note {w : World} {B b : Nat} {t : TypeId} (k tu gr lo ch ton me si wa ar : Int) (h : BK w b t #[.int .i64 k, .int .i64 tu, .int .i64 gr, .int .i64 lo, .int .i64 ch, .int .i64 ton, .int .i64 me, .int .i64 si, .int .i64 wa, .int .i64 ar]) (hb : b < B) : SL nC 10 w B (some ⟨b, 0, none⟩) 1 [⟨k, tu, gr, lo, ch, ton, me, si, wa, ar⟩] := by
  refine ⟨rfl, fun _ => ⟨b, 0, rfl, hb, fun i x hx j v hv => ?_⟩⟩
  match i, hx with
  | 0, hx =>
    cases hx
    rw [show 0 + 0 * 10 + j = j by omega, h.cell j]
    simpa [nC] using hv
theorem nLE_one (n : NoteR) : nLE [n] = if nVal n then 0 else 2 := by
  unfold nLE
  rw [if_neg (by simp)]
  simp
theorem nJoin_one (n : NoteR) : nJoin [n] = nTxt n := by simp [nJoin, Lib.join_one]
set_option maxRecDepth 100000 in
set_option maxHeartbeats 8000000 in
theorem plasts_any (k tu gr lo ch ton me si wa ar : Int) (v l : Int) (hs : spchB v l = true) (w : World) (ht : Lib.TabIs Tryz.prog w pow10N .u64 Lib.pow10Tab) :
    Calls Tryz.prog 33 #[.agg #[.int .i64 k, .int .i64 tu, .int .i64 gr, .int .i64 lo, .int .i64 ch, .int .i64 ton, .int .i64 me, .int .i64 si, .int .i64 wa, .int .i64 ar], .agg #[.int .i64 v, .int .i64 l]] w fun e w' => e = .returned (.tuple #[.int .i64 (lastV ⟨k, tu, gr, lo, ch, ton, me, si, wa, ar⟩ v l).1, .int .i64 (lastV ⟨k, tu, gr, lo, ch, ton, me, si, wa, ar⟩ v l).2]) ∧ Below w.heap.size w w' := by
  have HSP := Lib.hid (spch_bd hs)
  obtain ⟨w0, hw0⟩ : ∃ w0, w0 = (w.alloc (.cells #[.int .i64 k, .int .i64 tu, .int .i64 gr, .int .i64 lo, .int .i64 ch, .int .i64 ton, .int .i64 me, .int .i64 si, .int .i64 wa, .int .i64 ar] 54)).alloc (.cells #[.int .i64 v, .int .i64 l] 33) := ⟨_, rfl⟩
  have hB0 : Below w.heap.size w w0 := by rw [hw0]; exact ((Below.refl w.heap.size w).alloc (Nat.le_refl _) _).alloc (by simp) _
  have hX0 : BK w0 (w.heap.size) 54 #[.int .i64 k, .int .i64 tu, .int .i64 gr, .int .i64 lo, .int .i64 ch, .int .i64 ton, .int .i64 me, .int .i64 si, .int .i64 wa, .int .i64 ar] := by rw [hw0]; exact ((BK.new w 54 #[.int .i64 k, .int .i64 tu, .int .i64 gr, .int .i64 lo, .int .i64 ch, .int .i64 ton, .int .i64 me, .int .i64 si, .int .i64 wa, .int .i64 ar])).alloc _
  have hY0 : BK w0 (w.heap.size + 1) 33 #[.int .i64 v, .int .i64 l] := by rw [hw0]; have := BK.new (w.alloc (.cells #[.int .i64 k, .int .i64 tu, .int .i64 gr, .int .i64 lo, .int .i64 ch, .int .i64 ton, .int .i64 me, .int .i64 si, .int .i64 wa, .int .i64 ar] 54)) 33 #[.int .i64 v, .int .i64 l]; rw [World.size_alloc] at this; exact this
  obtain ⟨w1, hw1⟩ : ∃ w1, w1 = w0.alloc (.cells #[.int .i64 k, .int .i64 tu, .int .i64 gr, .int .i64 lo, .int .i64 ch, .int .i64 ton, .int .i64 me, .int .i64 si, .int .i64 wa, .int .i64 ar] 54) := ⟨_, rfl⟩
  have hk : Below w0.heap.size w0 w1 := by rw [hw1]; exact (Below.refl _ _).alloc (Nat.le_refl _) _
  have hZ1 : BK w1 w0.heap.size 54 #[.int .i64 k, .int .i64 tu, .int .i64 gr, .int .i64 lo, .int .i64 ch, .int .i64 ton, .int .i64 me, .int .i64 si, .int .i64 wa, .int .i64 ar] := by rw [hw1]; exact BK.new w0 _ _
  rw [show w0.heap.size = w.heap.size + 1 + 1 by rw [hw0]; simp] at hZ1
  have HN := Lib.hid (sl_one_note (B := w1.heap.size) k tu gr lo ch ton me si wa ar hZ1 hZ1.lt)
  have ht1 := pow10_stays ht (hB0.trans (hk.mono hB0.size)) (Nat.le_refl _)
  clear hZ1
  have x0 := hX0.cell 0
  have x1 := hX0.cell 1
  have x2 := hX0.cell 2
  have x3 := hX0.cell 3
  have x4 := hX0.cell 4
  have x5 := hX0.cell 5
  have x6 := hX0.cell 6
  have x7 := hX0.cell 7
  have x8 := hX0.cell 8
  have x9 := hX0.cell 9
  simp only [List.getElem?_toArray, List.getElem?_cons_zero, List.getElem?_cons_succ] at x0 x1 x2 x3 x4 x5 x6 x7 x8 x9
  go_enter Tryz.func33, Tryz.ntmps33
  go_wp2_with fail
  rw [← hw0]
  clear hw0
  go_wp2_with fail
  rw [← hw1]
  clear hw1 x0 x1 x2 x3 x4 x5 x6 x7 x8 x9
  have hB1 := hB0.trans (hk.mono hB0.size)
  have hX1 := hX0.below hk hX0.lt
  have hY1 := hY0.below hk hY0.lt
  clear hX0 hY0 hB0 hk
  refine (nwrite_any (some ⟨w.heap.size + 1 + 1, 0, none⟩) 1 1 [⟨k, tu, gr, lo, ch, ton, me, si, wa, ar⟩] w1 HN.out ht1).mono ?_
  rintro e w2 ⟨rfl, hk⟩
  have hB2 := hB1.trans (hk.mono hB1.size)
  have hX2 := hX1.below hk hX1.lt
  have hY2 := hY1.below hk hY1.lt
  clear hX1 hY1 hB1 hk
  clear HN
  cases hnv : nVal ⟨k, tu, gr, lo, ch, ton, me, si, wa, ar⟩
  case false =>
    have hW : nWr [⟨k, tu, gr, lo, ch, ton, me, si, wa, ar⟩] = ([], 2) := by unfold nWr; rw [nLE_one, hnv]; rfl
    have hL : Hid (lastV ⟨k, tu, gr, lo, ch, ton, me, si, wa, ar⟩ v l = (0, 2)) := by show _ = _; unfold lastV; rw [hnv]; rfl
    rw [hW]
    clear hW
    go_wp2_with fail
    go_ret2
    exact ⟨by rw [hL.out]; rfl, hB2⟩
  have hW : nWr [⟨k, tu, gr, lo, ch, ton, me, si, wa, ar⟩] = (nTxt ⟨k, tu, gr, lo, ch, ton, me, si, wa, ar⟩, 0) := by unfold nWr; rw [nLE_one, hnv, nJoin_one]; rfl
  have hL : Hid (lastV ⟨k, tu, gr, lo, ch, ton, me, si, wa, ar⟩ v l = (lastS v l (nTxt ⟨k, tu, gr, lo, ch, ton, me, si, wa, ar⟩), 0)) := by show _ = _; unfold lastV; rw [hnv]; rfl
  have HLN := Lib.hid (nTxt_len_valid _ hnv)
  have HAS := Lib.hid (asc_nTxt ⟨k, tu, gr, lo, ch, ton, me, si, wa, ar⟩)
  rw [hW]
  clear hW hnv
  generalize nTxt ⟨k, tu, gr, lo, ch, ton, me, si, wa, ar⟩ = t at *
  have HBD := Lib.hid (lastS_bd v l t HSP.out.1 HSP.out.2 (by have := HLN.out; omega))
  have HV0 : Hid (lastS v l (t.take 0) = v) := by show _ = _; simp [lastS, inkd]
  have y0 := hY2.cell 0
  simp only [List.getElem?_toArray, List.getElem?_cons_zero] at y0
  have hz := hY2.lt
  go_wp2_with fail
  have hy : ∀ p, (w2.iter (nbs t) p).cell? ⟨w.heap.size + 1, 1, none⟩ = some (.int .i64 l) := fun p => by
    have y1 := (hY2.alloc (.stringIter (nbs t) p)).cell 1
    simp only [List.getElem?_toArray, List.getElem?_cons_zero, List.getElem?_cons_succ] at y1
    exact y1
  go_loopw [8] (fun s wr => ∃ p : Nat, p ≤ t.length ∧ s = .int .i64 (lastS v l (t.take p)) ∧ wr = w2.iter (nbs t) p)
    (fun _ wr => t.length - wr.iterPos w2.heap.size)
  case atStart => exact ⟨0, by omega, by rw [HV0.out], rfl⟩
  case round =>
    obtain ⟨p, hp, rfl, rfl⟩ := hrel
    by_cases hlt : p < t.length
    · have hlz : p < (nbs t).size := by rw [nbs_size]; exact hlt
      have HMEM : ((nbs t)[p]'hlz).toNat < 128 := by
        have := HAS.out _ (List.mem_of_getElem? (nbs_get t p hlz))
        exact this
      have hnx : ∀ ty, (Instr.next (.pointer (some ⟨w2.heap.size, 0, none⟩)) true ty).run Tryz.prog (w2.iter (nbs t) p) = .ok (.tuple #[.bool true, .int .i64 p, .int .i32 ((nbs t)[p]'hlz).toNat]) (w2.iter (nbs t) (p + 1)) := fun ty => run_next_ascii w2 (nbs t) p ty hlz HMEM
      have HST := Lib.hid (lastS_step v l t p _ (nbs_get t p hlz))
      clear HMEM
      generalize (nbs t)[p]'hlz = b at *
      have y1 := hy (p + 1)
      by_cases hb : b = 32
      · have gb : ((b.toNat : Int) != 32) = false := by subst hb; rfl
        have HE : Hid (lastS v l (t.take (p + 1)) = lastS v l (t.take p)) := by show _ = _; rw [HST.out, if_pos hb]
        clear hb
        go_wp2_with fail
        go_roundw
        case rel => exact ⟨p + 1, by omega, by rw [HE.out], rfl⟩
        case measure => rw [World.iterPos_iter, World.iterPos_iter]; omega
      · have gb : ((b.toNat : Int) != 32) = true := by
          simp only [bne_iff_ne, ne_eq]
          intro hh
          exact hb (UInt8.toNat_inj.1 (by have : b.toNat = 32 := by omega
                                          rw [this]; rfl))
        have HE : Hid (lastS v l (t.take (p + 1)) = lastS v l (t.take p) + l) := by show _ = _; rw [HST.out, if_neg hb]
        have hwr : IntKind.i64.wrap (lastS v l (t.take p) + l) = lastS v l (t.take p) + l := IntWalk.i64_in _ (by have := HBD.out p; have := HSP.out; omega)
        clear hb
        go_wp2_with fail
        go_roundw
        case rel => exact ⟨p + 1, by omega, by rw [HE.out], rfl⟩
        case measure => rw [World.iterPos_iter, World.iterPos_iter]; omega
    · obtain rfl : p = t.length := by omega
      have hnx : ∀ ty, (Instr.next (.pointer (some ⟨w2.heap.size, 0, none⟩)) true ty).run Tryz.prog (w2.iter (nbs t) t.length) = .ok (.tuple #[.bool false]) (w2.iter (nbs t) t.length) := fun ty => run_next_end w2 (nbs t) t.length ty (by rw [nbs_size]; omega)
      have HE : Hid (t.take t.length = t) := List.take_length
      go_wp2_with fail
      go_ret2
      exact ⟨by rw [HE.out, hL.out]; rfl, hB2.alloc hB2.size _⟩
/-- pace.Lasts of any note. -/
def lastR (n : NoteR) (v l : Int) : Int × Int := if spchB v l then lastV n v l else (0, 2)
set_option maxRecDepth 100000 in
set_option maxHeartbeats 8000000 in
theorem pLasts_any (k tu gr lo ch ton me si wa ar : Int) (v l : Int) (w : World) (ht : Lib.TabIs Tryz.prog w pow10N .u64 Lib.pow10Tab) :
    Calls Tryz.prog 13 #[.agg #[.int .i64 k, .int .i64 tu, .int .i64 gr, .int .i64 lo, .int .i64 ch, .int .i64 ton, .int .i64 me, .int .i64 si, .int .i64 wa, .int .i64 ar], .agg #[.int .i64 v, .int .i64 l]] w fun e w' => e = .returned (.tuple #[.int .i64 (lastR ⟨k, tu, gr, lo, ch, ton, me, si, wa, ar⟩ v l).1, .int .i64 (lastR ⟨k, tu, gr, lo, ch, ton, me, si, wa, ar⟩ v l).2]) ∧ Below w.heap.size w w' := by
  obtain ⟨w0, hw0⟩ : ∃ w0, w0 = (w.alloc (.cells #[.int .i64 k, .int .i64 tu, .int .i64 gr, .int .i64 lo, .int .i64 ch, .int .i64 ton, .int .i64 me, .int .i64 si, .int .i64 wa, .int .i64 ar] 54)).alloc (.cells #[.int .i64 v, .int .i64 l] 33) := ⟨_, rfl⟩
  have hB0 : Below w.heap.size w w0 := by rw [hw0]; exact ((Below.refl w.heap.size w).alloc (Nat.le_refl _) _).alloc (by simp) _
  have hX0 : BK w0 (w.heap.size) 54 #[.int .i64 k, .int .i64 tu, .int .i64 gr, .int .i64 lo, .int .i64 ch, .int .i64 ton, .int .i64 me, .int .i64 si, .int .i64 wa, .int .i64 ar] := by rw [hw0]; exact ((BK.new w 54 #[.int .i64 k, .int .i64 tu, .int .i64 gr, .int .i64 lo, .int .i64 ch, .int .i64 ton, .int .i64 me, .int .i64 si, .int .i64 wa, .int .i64 ar])).alloc _
  have hY0 : BK w0 (w.heap.size + 1) 33 #[.int .i64 v, .int .i64 l] := by rw [hw0]; have := BK.new (w.alloc (.cells #[.int .i64 k, .int .i64 tu, .int .i64 gr, .int .i64 lo, .int .i64 ch, .int .i64 ton, .int .i64 me, .int .i64 si, .int .i64 wa, .int .i64 ar] 54)) 33 #[.int .i64 v, .int .i64 l]; rw [World.size_alloc] at this; exact this
  have y0 := hY0.cell 0
  have y1 := hY0.cell 1
  simp only [List.getElem?_toArray, List.getElem?_cons_zero, List.getElem?_cons_succ] at y0 y1
  go_enter Tryz.func13, Tryz.ntmps13
  go_wp2_with fail
  rw [← hw0]
  clear hw0
  go_wp2_with fail
  clear y0 y1
  refine (pspeech_any v l w0).mono ?_
  rintro e w1 ⟨rfl, hk⟩
  have hB1 := hB0.trans (hk.mono hB0.size)
  have hX1 := hX0.below hk hX0.lt
  have hY1 := hY0.below hk hY0.lt
  clear hX0 hY0 hB0 hk
  cases hsp : spchB v l
  case false =>
    have hL : Hid (lastR ⟨k, tu, gr, lo, ch, ton, me, si, wa, ar⟩ v l = (0, 2)) := by show _ = _; unfold lastR; rw [hsp]; rfl
    go_wp2_with fail
    go_ret2
    exact ⟨by rw [hL.out]; rfl, hB1⟩
  have hL : Hid (lastR ⟨k, tu, gr, lo, ch, ton, me, si, wa, ar⟩ v l = lastV ⟨k, tu, gr, lo, ch, ton, me, si, wa, ar⟩ v l) := by show _ = _; unfold lastR; rw [hsp]; rfl
  have ht1 := pow10_stays ht hB1 (Nat.le_refl _)
  have x0 := hX1.cell 0
  have x1 := hX1.cell 1
  have x2 := hX1.cell 2
  have x3 := hX1.cell 3
  have x4 := hX1.cell 4
  have x5 := hX1.cell 5
  have x6 := hX1.cell 6
  have x7 := hX1.cell 7
  have x8 := hX1.cell 8
  have x9 := hX1.cell 9
  have y0 := hY1.cell 0
  have y1 := hY1.cell 1
  simp only [List.getElem?_toArray, List.getElem?_cons_zero, List.getElem?_cons_succ] at x0 x1 x2 x3 x4 x5 x6 x7 x8 x9 y0 y1
  go_wp2_with fail
  clear x0 x1 x2 x3 x4 x5 x6 x7 x8 x9 y0 y1
  refine (plasts_any k tu gr lo ch ton me si wa ar v l hsp w1 ht1).mono ?_
  rintro e w2 ⟨rfl, hk⟩
  have hBX := hB1.trans (hk.mono hB1.size)
  go_wp2_with fail
  go_ret2
  exact ⟨by rw [hL.out]; rfl, hBX⟩
end Go.Proofs.YtogkmnopggmdjaaGreatDoor
