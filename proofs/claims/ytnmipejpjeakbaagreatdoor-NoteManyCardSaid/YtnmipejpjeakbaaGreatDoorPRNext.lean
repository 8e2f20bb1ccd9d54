/- The document's next note. Printed by genrnext.py. -/
import Derived.Test.YtnmipejpjeakbaaGreatDoorPRNum
import Derived.Test.YtnmipejpjeakbaaGreatDoorPLink
import Derived.Test.YtnmipejpjeakbaaGreatDoorPNRead3
namespace Go.Proofs.YtnmipejpjeakbaaGreatDoor
open Go.RowKit Go.Shelf Go.Sort Go.Proofs

theorem nbs_list (x : Wd) : (nbs x).toList = x := by rw [ByteArray.toList_eq]; rfl
theorem wrd_le {l : List Wd} {m : Nat} (h : ∀ y ∈ l, y.length ≤ m) (i : Nat) : (wrd l i).length ≤ m := by
  unfold wrd
  by_cases hi : i < l.length
  · rw [List.getElem?_eq_getElem hi]; exact h _ (List.getElem_mem hi)
  · rw [List.getElem?_eq_none (by omega)]; exact Nat.zero_le _
theorem rNext_0 {x : Wd} (r : List Wd)  (c0 : x = wInto) : rNext (x :: r) = (⟨3, 0, 0, 0, 0, 0, 0, 0, 0, 0⟩, 1) := by
  unfold rNext
  dsimp only
  rw [show wrd (x :: r) 0 = x from rfl]
  rw [if_pos c0]
theorem rNext_1 {x : Wd} (r : List Wd) (c0 : ¬ x = wInto) (c1 : x = wAnd) : rNext (x :: r) = (⟨4, 0, 0, 0, 0, 0, 0, 0, 0, 0⟩, 1) := by
  unfold rNext
  dsimp only
  rw [show wrd (x :: r) 0 = x from rfl]
  rw [if_neg c0]
  rw [if_pos c1]
theorem rNext_2 {x : Wd} (r : List Wd) (c0 : ¬ x = wInto) (c1 : ¬ x = wAnd) (c2 : x = wCrest) : rNext (x :: r) = (⟨5, 0, 0, 0, 0, 0, 0, 1, 0, 0⟩, 1) := by
  unfold rNext
  dsimp only
  rw [show wrd (x :: r) 0 = x from rfl]
  rw [if_neg c0]
  rw [if_neg c1]
  rw [if_pos c2]
theorem rNext_3 {x : Wd} (r : List Wd) (c0 : ¬ x = wInto) (c1 : ¬ x = wAnd) (c2 : ¬ x = wCrest) (c3 : x = wJump) : rNext (x :: r) = (⟨5, 0, 0, 0, 0, 0, 0, 2, 0, 0⟩, 1) := by
  unfold rNext
  dsimp only
  rw [show wrd (x :: r) 0 = x from rfl]
  rw [if_neg c0]
  rw [if_neg c1]
  rw [if_neg c2]
  rw [if_pos c3]
theorem rNext_4 {x : Wd} (r : List Wd) (c0 : ¬ x = wInto) (c1 : ¬ x = wAnd) (c2 : ¬ x = wCrest) (c3 : ¬ x = wJump) (c4 : x = wBigjump) : rNext (x :: r) = (⟨5, 0, 0, 0, 0, 0, 0, 3, 0, 0⟩, 1) := by
  unfold rNext
  dsimp only
  rw [show wrd (x :: r) 0 = x from rfl]
  rw [if_neg c0]
  rw [if_neg c1]
  rw [if_neg c2]
  rw [if_neg c3]
  rw [if_pos c4]
theorem rNext_5 {x : Wd} (r : List Wd) (c0 : ¬ x = wInto) (c1 : ¬ x = wAnd) (c2 : ¬ x = wCrest) (c3 : ¬ x = wJump) (c4 : ¬ x = wBigjump) (c5 : x = [33]) : rNext (x :: r) = (⟨6, 0, 0, 0, 0, 0, 0, 1, 0, 0⟩, 1) := by
  unfold rNext
  dsimp only
  rw [show wrd (x :: r) 0 = x from rfl]
  rw [if_neg c0]
  rw [if_neg c1]
  rw [if_neg c2]
  rw [if_neg c3]
  rw [if_neg c4]
  rw [if_pos c5]
theorem rNext_6 {x : Wd} (r : List Wd) (c0 : ¬ x = wInto) (c1 : ¬ x = wAnd) (c2 : ¬ x = wCrest) (c3 : ¬ x = wJump) (c4 : ¬ x = wBigjump) (c5 : ¬ x = [33]) (c6 : x = [33, 33]) : rNext (x :: r) = (⟨6, 0, 0, 0, 0, 0, 0, 2, 0, 0⟩, 1) := by
  unfold rNext
  dsimp only
  rw [show wrd (x :: r) 0 = x from rfl]
  rw [if_neg c0]
  rw [if_neg c1]
  rw [if_neg c2]
  rw [if_neg c3]
  rw [if_neg c4]
  rw [if_neg c5]
  rw [if_pos c6]
theorem rNext_7 {x : Wd} (r : List Wd) (c0 : ¬ x = wInto) (c1 : ¬ x = wAnd) (c2 : ¬ x = wCrest) (c3 : ¬ x = wJump) (c4 : ¬ x = wBigjump) (c5 : ¬ x = [33]) (c6 : ¬ x = [33, 33]) (c7 : x = [33, 33, 33]) : rNext (x :: r) = (⟨6, 0, 0, 0, 0, 0, 0, 3, 0, 0⟩, 1) := by
  unfold rNext
  dsimp only
  rw [show wrd (x :: r) 0 = x from rfl]
  rw [if_neg c0]
  rw [if_neg c1]
  rw [if_neg c2]
  rw [if_neg c3]
  rw [if_neg c4]
  rw [if_neg c5]
  rw [if_neg c6]
  rw [if_pos c7]
theorem rNext_8 {x : Wd} (r : List Wd) (c0 : ¬ x = wInto) (c1 : ¬ x = wAnd) (c2 : ¬ x = wCrest) (c3 : ¬ x = wJump) (c4 : ¬ x = wBigjump) (c5 : ¬ x = [33]) (c6 : ¬ x = [33, 33]) (c7 : ¬ x = [33, 33, 33]) (c8 : x = wJunction) : rNext (x :: r) = if wrd (x :: r) 2 = wOf ∧ nVal ⟨7, 0, 0, 0, 0, 0, 0, 0, rnum (wrd (x :: r) 1), rnum (wrd (x :: r) 3)⟩ = true then (⟨7, 0, 0, 0, 0, 0, 0, 0, rnum (wrd (x :: r) 1), rnum (wrd (x :: r) 3)⟩, 4) else (zeroN, 0) := by
  unfold rNext
  dsimp only
  rw [show wrd (x :: r) 0 = x from rfl]
  rw [if_neg c0]
  rw [if_neg c1]
  rw [if_neg c2]
  rw [if_neg c3]
  rw [if_neg c4]
  rw [if_neg c5]
  rw [if_neg c6]
  rw [if_neg c7]
  rw [if_pos c8]
theorem rNext_9 {x : Wd} (r : List Wd) (c0 : ¬ x = wInto) (c1 : ¬ x = wAnd) (c2 : ¬ x = wCrest) (c3 : ¬ x = wJump) (c4 : ¬ x = wBigjump) (c5 : ¬ x = [33]) (c6 : ¬ x = [33, 33]) (c7 : ¬ x = [33, 33, 33]) (c8 : ¬ x = wJunction) : rNext (x :: r) = if nVal ⟨2, 0, 0, 0, 0, 0, rnum x, 0, 0, 0⟩ then (⟨2, 0, 0, 0, 0, 0, rnum x, 0, 0, 0⟩, 1)
  else if x.length = 2 ∧ (x.head? = some 76 ∨ x.head? = some 82) then rCor x (x :: r)
  else (zeroN, 0) := by
  unfold rNext
  dsimp only
  rw [show wrd (x :: r) 0 = x from rfl]
  rw [if_neg c0]
  rw [if_neg c1]
  rw [if_neg c2]
  rw [if_neg c3]
  rw [if_neg c4]
  rw [if_neg c5]
  rw [if_neg c6]
  rw [if_neg c7]
  rw [if_neg c8]
/-- What next leaves. -/
def RNx (w : World) (q : NoteR × Nat) (e : Ending) (w' : World) : Prop := e = .returned (.tuple #[nA q.1, .int .i64 (q.2 : Nat)]) ∧ Below w.heap.size w w'
section
variable (b off n c : Nat) (x : Wd) (r : List Wd) (w : World)
set_option maxRecDepth 100000 in
set_option maxHeartbeats 4000000 in
theorem rnext_words (hn : 0 < n) (hb0 : b < w.heap.size) (h0 : w.cell? ⟨b, off, none⟩ = some (.string (nbs x))) (hx : x ∈ [wInto, wAnd, wCrest, wJump, wBigjump, [33], [33, 33], [33, 33, 33]]) :
    Calls Tryz.prog 46 #[.slice (some ⟨b, off, none⟩) n c] w (RNx w (rNext (x :: r))) := by
  have hn1 : (0 : Int) < (n : Int) := by omega
  by_cases c0 : x = wInto
  · have HR := Lib.hid (rNext_0 r c0)
    have f0 : (nbs x).toList = [105, 110, 116, 111] := by rw [nbs_list]; exact c0
    clear hx c0
    go_enter Tryz.func46, Tryz.ntmps46
    go_wp2_with fail
    exact bodyPost_ret (res_note_b (t := 2) (u := 3) rfl _ _ _ _ _ rfl rfl rfl (BK.new _ _ _)) rfl ⟨by rw [HR.out]; rfl, (Below.refl _ w).alloc (Nat.le_refl _) _⟩
  by_cases c1 : x = wAnd
  · have HR := Lib.hid (rNext_1 r c0 c1)
    have f0 : ¬ (nbs x).toList = [105, 110, 116, 111] := by rw [nbs_list]; exact c0
    have f1 : (nbs x).toList = [97, 110, 100] := by rw [nbs_list]; exact c1
    clear hx c0 c1
    go_enter Tryz.func46, Tryz.ntmps46
    go_wp2_with fail
    exact bodyPost_ret (res_note_b (t := 2) (u := 3) rfl _ _ _ _ _ rfl rfl rfl (BK.new _ _ _)) rfl ⟨by rw [HR.out]; rfl, (Below.refl _ w).alloc (Nat.le_refl _) _⟩
  by_cases c2 : x = wCrest
  · have HR := Lib.hid (rNext_2 r c0 c1 c2)
    have f0 : ¬ (nbs x).toList = [105, 110, 116, 111] := by rw [nbs_list]; exact c0
    have f1 : ¬ (nbs x).toList = [97, 110, 100] := by rw [nbs_list]; exact c1
    have f2 : (nbs x).toList = [99, 114, 101, 115, 116] := by rw [nbs_list]; exact c2
    clear hx c0 c1 c2
    go_enter Tryz.func46, Tryz.ntmps46
    go_wp2_with fail
    exact bodyPost_ret (res_note_b (t := 2) (u := 3) rfl _ _ _ _ _ rfl rfl rfl (BK.new _ _ _)) rfl ⟨by rw [HR.out]; rfl, (Below.refl _ w).alloc (Nat.le_refl _) _⟩
  by_cases c3 : x = wJump
  · have HR := Lib.hid (rNext_3 r c0 c1 c2 c3)
    have f0 : ¬ (nbs x).toList = [105, 110, 116, 111] := by rw [nbs_list]; exact c0
    have f1 : ¬ (nbs x).toList = [97, 110, 100] := by rw [nbs_list]; exact c1
    have f2 : ¬ (nbs x).toList = [99, 114, 101, 115, 116] := by rw [nbs_list]; exact c2
    have f3 : (nbs x).toList = [106, 117, 109, 112] := by rw [nbs_list]; exact c3
    clear hx c0 c1 c2 c3
    go_enter Tryz.func46, Tryz.ntmps46
    go_wp2_with fail
    exact bodyPost_ret (res_note_b (t := 2) (u := 3) rfl _ _ _ _ _ rfl rfl rfl (BK.new _ _ _)) rfl ⟨by rw [HR.out]; rfl, (Below.refl _ w).alloc (Nat.le_refl _) _⟩
  by_cases c4 : x = wBigjump
  · have HR := Lib.hid (rNext_4 r c0 c1 c2 c3 c4)
    have f0 : ¬ (nbs x).toList = [105, 110, 116, 111] := by rw [nbs_list]; exact c0
    have f1 : ¬ (nbs x).toList = [97, 110, 100] := by rw [nbs_list]; exact c1
    have f2 : ¬ (nbs x).toList = [99, 114, 101, 115, 116] := by rw [nbs_list]; exact c2
    have f3 : ¬ (nbs x).toList = [106, 117, 109, 112] := by rw [nbs_list]; exact c3
    have f4 : (nbs x).toList = [98, 105, 103, 106, 117, 109, 112] := by rw [nbs_list]; exact c4
    clear hx c0 c1 c2 c3 c4
    go_enter Tryz.func46, Tryz.ntmps46
    go_wp2_with fail
    exact bodyPost_ret (res_note_b (t := 2) (u := 3) rfl _ _ _ _ _ rfl rfl rfl (BK.new _ _ _)) rfl ⟨by rw [HR.out]; rfl, (Below.refl _ w).alloc (Nat.le_refl _) _⟩
  by_cases c5 : x = [33]
  · have HR := Lib.hid (rNext_5 r c0 c1 c2 c3 c4 c5)
    have f0 : ¬ (nbs x).toList = [105, 110, 116, 111] := by rw [nbs_list]; exact c0
    have f1 : ¬ (nbs x).toList = [97, 110, 100] := by rw [nbs_list]; exact c1
    have f2 : ¬ (nbs x).toList = [99, 114, 101, 115, 116] := by rw [nbs_list]; exact c2
    have f3 : ¬ (nbs x).toList = [106, 117, 109, 112] := by rw [nbs_list]; exact c3
    have f4 : ¬ (nbs x).toList = [98, 105, 103, 106, 117, 109, 112] := by rw [nbs_list]; exact c4
    have f5 : (nbs x).toList = [33] := by rw [nbs_list]; exact c5
    have hsz : ((nbs x).size : Int) = 1 := by rw [nbs_size, c5]; rfl
    clear hx c0 c1 c2 c3 c4 c5
    go_enter Tryz.func46, Tryz.ntmps46
    go_wp2_with fail
    exact bodyPost_ret (res_note_b (t := 2) (u := 3) rfl _ _ _ _ _ rfl rfl rfl (BK.new _ _ _)) rfl ⟨by rw [HR.out]; rfl, (Below.refl _ w).alloc (Nat.le_refl _) _⟩
  by_cases c6 : x = [33, 33]
  · have HR := Lib.hid (rNext_6 r c0 c1 c2 c3 c4 c5 c6)
    have f0 : ¬ (nbs x).toList = [105, 110, 116, 111] := by rw [nbs_list]; exact c0
    have f1 : ¬ (nbs x).toList = [97, 110, 100] := by rw [nbs_list]; exact c1
    have f2 : ¬ (nbs x).toList = [99, 114, 101, 115, 116] := by rw [nbs_list]; exact c2
    have f3 : ¬ (nbs x).toList = [106, 117, 109, 112] := by rw [nbs_list]; exact c3
    have f4 : ¬ (nbs x).toList = [98, 105, 103, 106, 117, 109, 112] := by rw [nbs_list]; exact c4
    have f5 : ¬ (nbs x).toList = [33] := by rw [nbs_list]; exact c5
    have f6 : (nbs x).toList = [33, 33] := by rw [nbs_list]; exact c6
    have hsz : ((nbs x).size : Int) = 2 := by rw [nbs_size, c6]; rfl
    clear hx c0 c1 c2 c3 c4 c5 c6
    go_enter Tryz.func46, Tryz.ntmps46
    go_wp2_with fail
    exact bodyPost_ret (res_note_b (t := 2) (u := 3) rfl _ _ _ _ _ rfl rfl rfl (BK.new _ _ _)) rfl ⟨by rw [HR.out]; rfl, (Below.refl _ w).alloc (Nat.le_refl _) _⟩
  by_cases c7 : x = [33, 33, 33]
  · have HR := Lib.hid (rNext_7 r c0 c1 c2 c3 c4 c5 c6 c7)
    have f0 : ¬ (nbs x).toList = [105, 110, 116, 111] := by rw [nbs_list]; exact c0
    have f1 : ¬ (nbs x).toList = [97, 110, 100] := by rw [nbs_list]; exact c1
    have f2 : ¬ (nbs x).toList = [99, 114, 101, 115, 116] := by rw [nbs_list]; exact c2
    have f3 : ¬ (nbs x).toList = [106, 117, 109, 112] := by rw [nbs_list]; exact c3
    have f4 : ¬ (nbs x).toList = [98, 105, 103, 106, 117, 109, 112] := by rw [nbs_list]; exact c4
    have f5 : ¬ (nbs x).toList = [33] := by rw [nbs_list]; exact c5
    have f6 : ¬ (nbs x).toList = [33, 33] := by rw [nbs_list]; exact c6
    have f7 : (nbs x).toList = [33, 33, 33] := by rw [nbs_list]; exact c7
    have hsz : ((nbs x).size : Int) = 3 := by rw [nbs_size, c7]; rfl
    clear hx c0 c1 c2 c3 c4 c5 c6 c7
    go_enter Tryz.func46, Tryz.ntmps46
    go_wp2_with fail
    exact bodyPost_ret (res_note_b (t := 2) (u := 3) rfl _ _ _ _ _ rfl rfl rfl (BK.new _ _ _)) rfl ⟨by rw [HR.out]; rfl, (Below.refl _ w).alloc (Nat.le_refl _) _⟩
  · simp [*] at hx
end
theorem BK.t10 {w : World} {g : Nat} {v0 v1 v2 v3 v4 v5 v6 v7 v8 v9 : Value} (h : BK w g 36 #[v0, v1, v2, v3, v4, v5, v6, v7, v8, v9]) :
    w.cell? ⟨g, 0, none⟩ = some v0 ∧ w.cell? ⟨g, 1, none⟩ = some v1 ∧ w.cell? ⟨g, 2, none⟩ = some v2 ∧ w.cell? ⟨g, 3, none⟩ = some v3 ∧ w.cell? ⟨g, 4, none⟩ = some v4 ∧ w.cell? ⟨g, 5, none⟩ = some v5 ∧ w.cell? ⟨g, 6, none⟩ = some v6 ∧ w.cell? ⟨g, 7, none⟩ = some v7 ∧ w.cell? ⟨g, 8, none⟩ = some v8 ∧ w.cell? ⟨g, 9, none⟩ = some v9 := by
  have c0 := h.cell 0
  have c1 := h.cell 1
  have c2 := h.cell 2
  have c3 := h.cell 3
  have c4 := h.cell 4
  have c5 := h.cell 5
  have c6 := h.cell 6
  have c7 := h.cell 7
  have c8 := h.cell 8
  have c9 := h.cell 9
  simp only [List.getElem?_toArray, List.getElem?_cons_zero, List.getElem?_cons_succ] at c0 c1 c2 c3 c4 c5 c6 c7 c8 c9
  exact ⟨c0, c1, c2, c3, c4, c5, c6, c7, c8, c9⟩
section
variable (b off n c : Nat) (x : Wd) (r : List Wd) (w : World)
set_option maxRecDepth 100000 in
set_option maxHeartbeats 4000000 in
theorem rnext_way (hn : 0 < n) (hb0 : b < w.heap.size) (h0 : w.cell? ⟨b, off, none⟩ = some (.string (nbs x))) (hS : SL tC 1 w w.heap.size (some ⟨b, off, none⟩) n (x :: r)) (hl : ∀ y ∈ x :: r, y.length ≤ 1000000) (ht : Lib.TabIs Tryz.prog w pow10N .u64 Lib.pow10Tab) (c0 : ¬ x = wInto) (c1 : ¬ x = wAnd) (c2 : ¬ x = wCrest) (c3 : ¬ x = wJump) (c4 : ¬ x = wBigjump) (c5 : ¬ x = [33]) (c6 : ¬ x = [33, 33]) (c7 : ¬ x = [33, 33, 33]) (c8 : x = wJunction) :
    Calls Tryz.prog 46 #[.slice (some ⟨b, off, none⟩) n c] w (RNx w (rNext (x :: r))) := by
  have hn1 : (0 : Int) < (n : Int) := by omega
  have HS := Lib.hid hS
  have HL := Lib.hid (wrd_le hl)
  have HT := Lib.hid ht
  clear hS hl ht
  have HR := Lib.hid (rNext_8 r c0 c1 c2 c3 c4 c5 c6 c7 c8)
  have f0 : ¬ (nbs x).toList = [105, 110, 116, 111] := by rw [nbs_list]; exact c0
  have f1 : ¬ (nbs x).toList = [97, 110, 100] := by rw [nbs_list]; exact c1
  have f2 : ¬ (nbs x).toList = [99, 114, 101, 115, 116] := by rw [nbs_list]; exact c2
  have f3 : ¬ (nbs x).toList = [106, 117, 109, 112] := by rw [nbs_list]; exact c3
  have f4 : ¬ (nbs x).toList = [98, 105, 103, 106, 117, 109, 112] := by rw [nbs_list]; exact c4
  have f5 : ¬ (nbs x).toList = [33] := by rw [nbs_list]; exact c5
  have f6 : ¬ (nbs x).toList = [33, 33] := by rw [nbs_list]; exact c6
  have f7 : ¬ (nbs x).toList = [33, 33, 33] := by rw [nbs_list]; exact c7
  have f8 : (nbs x).toList = [106, 117, 110, 99, 116, 105, 111, 110] := by rw [nbs_list]; exact c8
  clear c0 c1 c2 c3 c4 c5 c6 c7 c8
  go_enter Tryz.func46, Tryz.ntmps46
  go_wp2_with fail
  obtain ⟨wA, hwA⟩ : ∃ wA, wA = w.alloc (.cells #[.int .i64 0, .int .i64 0, .int .i64 0, .int .i64 0, .int .i64 0, .int .i64 0, .int .i64 0, .int .i64 0, .int .i64 0, .int .i64 0] 36) := ⟨_, rfl⟩
  have HBA : Hid (Below w.heap.size w wA) := by show Below _ _ _; rw [hwA]; exact (Below.refl _ _).alloc (Nat.le_refl _) _
  have HZA : Hid (BK wA w.heap.size 36 #[.int .i64 0, .int .i64 0, .int .i64 0, .int .i64 0, .int .i64 0, .int .i64 0, .int .i64 0, .int .i64 0, .int .i64 0, .int .i64 0]) := by show BK _ _ _ _; rw [hwA]; exact BK.new _ _ _
  have HSA := Lib.hid (HS.out.grow HBA.out HBA.out.size)
  have HTA := Lib.hid (pow10_stays HT.out HBA.out (Nat.le_refl _))
  rw [← hwA]
  clear hwA
  refine (rword_any _ n c (x :: r) 1 _ HSA.out).mono ?_
  rintro e _ ⟨rfl, rfl⟩
  go_wp2_with fail
  refine (rnum_any _ (HL.out 1) _ HTA.out).mono ?_
  rintro e w1 ⟨rfl, hb1⟩
  have HB1 := Lib.hid (HBA.out.trans (hb1.mono HBA.out.size))
  have HZ1 := Lib.hid (HZA.out.below hb1 HZA.out.lt)
  have HS1 := Lib.hid (HSA.out.grow hb1 hb1.size)
  have HT1 := Lib.hid (pow10_stays HT.out HB1.out (Nat.le_refl _))
  clear hb1 HZA HSA HTA HBA
  go_wp2_with fail
  refine (rword_any _ n c (x :: r) 3 _ HS1.out).mono ?_
  rintro e _ ⟨rfl, rfl⟩
  go_wp2_with fail
  refine (rnum_any _ (HL.out 3) _ HT1.out).mono ?_
  rintro e w2 ⟨rfl, hb2⟩
  have HB2 := Lib.hid (HB1.out.trans (hb2.mono HB1.out.size))
  have HZ2 := Lib.hid (HZ1.out.below hb2 HZ1.out.lt)
  have HS2 := Lib.hid (HS1.out.grow hb2 hb2.size)
  clear hb2 HZ1 HS1 HT1 HB1
  go_wp2_with fail
  obtain ⟨wC, hwwC⟩ : ∃ v, v = w2.alloc (.cells #[.int .i64 7, .int .i64 0, .int .i64 0, .int .i64 0, .int .i64 0, .int .i64 0, .int .i64 0, .int .i64 0, .int .i64 (rnum (wrd (x :: r) 1)), .int .i64 (rnum (wrd (x :: r) 3))] 36) := ⟨_, rfl⟩
  have HNwC : Hid (BK wC w2.heap.size 36 #[.int .i64 7, .int .i64 0, .int .i64 0, .int .i64 0, .int .i64 0, .int .i64 0, .int .i64 0, .int .i64 0, .int .i64 (rnum (wrd (x :: r) 1)), .int .i64 (rnum (wrd (x :: r) 3))]) := by show BK _ _ _ _; rw [hwwC]; exact BK.new _ _ _
  have hqwC : Below w2.heap.size w2 wC := by rw [hwwC]; exact (Below.refl _ _).alloc (Nat.le_refl _) _
  have HBwC := Lib.hid (HB2.out.trans (hqwC.mono HB2.out.size))
  have HZwC := Lib.hid (HZ2.out.below hqwC HZ2.out.lt)
  have HSwC := Lib.hid (HS2.out.grow hqwC hqwC.size)
  rw [← hwwC]
  clear hwwC hqwC
  refine (rword_any _ n c (x :: r) 2 _ HSwC.out).mono ?_
  rintro e _ ⟨rfl, rfl⟩
  by_cases hof : wrd (x :: r) 2 = wOf
  · have fo : (nbs (wrd (x :: r) 2)).toList = [111, 102] := by rw [nbs_list]; exact hof
    have HOF := Lib.hid hof
    clear hof
    obtain ⟨m0, m1, m2, m3, m4, m5, m6, m7, m8, m9⟩ := HNwC.out.t10
    go_wp2_with fail
    refine (rvalid_any 7 0 0 0 0 0 0 0 (rnum (wrd (x :: r) 1)) (rnum (wrd (x :: r) 3)) _).mono ?_
    rintro e w4 ⟨rfl, hb4⟩
    clear m0 m1 m2 m3 m4 m5 m6 m7 m8 m9
    have HBw4 := Lib.hid (HBwC.out.trans (hb4.mono HBwC.out.size))
    have HZw4 := Lib.hid (HZwC.out.below hb4 HZwC.out.lt)
    have HNw4 := Lib.hid (HNwC.out.below hb4 HNwC.out.lt)
    obtain ⟨m0, m1, m2, m3, m4, m5, m6, m7, m8, m9⟩ := HNw4.out.t10
    obtain ⟨z0, z1, z2, z3, z4, z5, z6, z7, z8, z9⟩ := HZw4.out.t10
    have zf := HZw4.out.frozen
    clear hb4
    cases hv : nVal ⟨7, 0, 0, 0, 0, 0, 0, 0, rnum (wrd (x :: r) 1), rnum (wrd (x :: r) 3)⟩ with
    | true =>
      have HE : Hid (rNext (x :: r) = (⟨7, 0, 0, 0, 0, 0, 0, 0, rnum (wrd (x :: r) 1), rnum (wrd (x :: r) 3)⟩, 4)) := by show _ = _; rw [HR.out, if_pos ⟨HOF.out, hv⟩]
      clear hv
      go_wp2_with fail
      exact bodyPost_ret (res_note_b (t := 2) (u := 3) rfl _ _ _ _ _ rfl rfl rfl (HZw4.out.set10 rfl)) rfl ⟨by rw [HE.out]; rfl, below10 HBw4.out (Nat.le_refl _)⟩
    | false =>
      have HE : Hid (rNext (x :: r) = (zeroN, 0)) := by show _ = _; rw [HR.out, if_neg (fun q => by rw [hv] at q; exact absurd q.2 (by decide))]
      clear hv
      go_wp2_with fail
      exact bodyPost_ret (res_note_b (t := 2) (u := 3) rfl _ _ _ _ _ rfl rfl rfl (HZw4.out.set10 rfl)) rfl ⟨by rw [HE.out]; rfl, below10 HBw4.out (Nat.le_refl _)⟩
  · have fo : ¬ (nbs (wrd (x :: r) 2)).toList = [111, 102] := by rw [nbs_list]; exact hof
    have HE : Hid (rNext (x :: r) = (zeroN, 0)) := by show _ = _; rw [HR.out, if_neg (fun q => hof q.1)]
    clear hof
    obtain ⟨z0, z1, z2, z3, z4, z5, z6, z7, z8, z9⟩ := HZwC.out.t10
    have zf := HZwC.out.frozen
    go_wp2_with fail
    exact bodyPost_ret (res_note_b (t := 2) (u := 3) rfl _ _ _ _ _ rfl rfl rfl (HZwC.out.set10 rfl)) rfl ⟨by rw [HE.out]; rfl, below10 HBwC.out (Nat.le_refl _)⟩
set_option maxRecDepth 100000 in
set_option maxHeartbeats 4000000 in
theorem rnext_meters (hn : 0 < n) (hb0 : b < w.heap.size) (h0 : w.cell? ⟨b, off, none⟩ = some (.string (nbs x))) (hS : SL tC 1 w w.heap.size (some ⟨b, off, none⟩) n (x :: r)) (hl : ∀ y ∈ x :: r, y.length ≤ 1000000) (ht : Lib.TabIs Tryz.prog w pow10N .u64 Lib.pow10Tab) (c0 : ¬ x = wInto) (c1 : ¬ x = wAnd) (c2 : ¬ x = wCrest) (c3 : ¬ x = wJump) (c4 : ¬ x = wBigjump) (c5 : ¬ x = [33]) (c6 : ¬ x = [33, 33]) (c7 : ¬ x = [33, 33, 33]) (c8 : ¬ x = wJunction) (hv : nVal ⟨2, 0, 0, 0, 0, 0, rnum x, 0, 0, 0⟩ = true) :
    Calls Tryz.prog 46 #[.slice (some ⟨b, off, none⟩) n c] w (RNx w (rNext (x :: r))) := by
  have hn1 : (0 : Int) < (n : Int) := by omega
  have HS := Lib.hid hS
  have HL := Lib.hid (wrd_le hl)
  have HT := Lib.hid ht
  clear hS hl ht
  have HR := Lib.hid (rNext_9 r c0 c1 c2 c3 c4 c5 c6 c7 c8)
  have f0 : ((nbs x).toList == [105, 110, 116, 111]) = false := by rw [nbs_list]; exact beq_eq_false_iff_ne.2 c0
  have f1 : ((nbs x).toList == [97, 110, 100]) = false := by rw [nbs_list]; exact beq_eq_false_iff_ne.2 c1
  have f2 : ((nbs x).toList == [99, 114, 101, 115, 116]) = false := by rw [nbs_list]; exact beq_eq_false_iff_ne.2 c2
  have f3 : ((nbs x).toList == [106, 117, 109, 112]) = false := by rw [nbs_list]; exact beq_eq_false_iff_ne.2 c3
  have f4 : ((nbs x).toList == [98, 105, 103, 106, 117, 109, 112]) = false := by rw [nbs_list]; exact beq_eq_false_iff_ne.2 c4
  have f5 : ((nbs x).toList == [33]) = false := by rw [nbs_list]; exact beq_eq_false_iff_ne.2 c5
  have f6 : ((nbs x).toList == [33, 33]) = false := by rw [nbs_list]; exact beq_eq_false_iff_ne.2 c6
  have f7 : ((nbs x).toList == [33, 33, 33]) = false := by rw [nbs_list]; exact beq_eq_false_iff_ne.2 c7
  have f8 : ((nbs x).toList == [106, 117, 110, 99, 116, 105, 111, 110]) = false := by rw [nbs_list]; exact beq_eq_false_iff_ne.2 c8
  have HV := Lib.hid hv
  have HE : Hid (rNext (x :: r) = (⟨2, 0, 0, 0, 0, 0, rnum x, 0, 0, 0⟩, 1)) := by show _ = _; rw [HR.out, if_pos hv]
  clear hv
  clear c0 c1 c2 c3 c4 c5 c6 c7 c8
  go_enter Tryz.func46, Tryz.ntmps46
  go_wp2_with fail
  obtain ⟨wA, hwA⟩ : ∃ wA, wA = w.alloc (.cells #[.int .i64 0, .int .i64 0, .int .i64 0, .int .i64 0, .int .i64 0, .int .i64 0, .int .i64 0, .int .i64 0, .int .i64 0, .int .i64 0] 36) := ⟨_, rfl⟩
  have HBA : Hid (Below w.heap.size w wA) := by show Below _ _ _; rw [hwA]; exact (Below.refl _ _).alloc (Nat.le_refl _) _
  have HZA : Hid (BK wA w.heap.size 36 #[.int .i64 0, .int .i64 0, .int .i64 0, .int .i64 0, .int .i64 0, .int .i64 0, .int .i64 0, .int .i64 0, .int .i64 0, .int .i64 0]) := by show BK _ _ _ _; rw [hwA]; exact BK.new _ _ _
  have HSA := Lib.hid (HS.out.grow HBA.out HBA.out.size)
  have HTA := Lib.hid (pow10_stays HT.out HBA.out (Nat.le_refl _))
  rw [← hwA]
  clear hwA
  refine (rnum_any x (HL.out 0) _ HTA.out).mono ?_
  rintro e w1 ⟨rfl, hb1⟩
  have HB1 := Lib.hid (HBA.out.trans (hb1.mono HBA.out.size))
  have HZ1 := Lib.hid (HZA.out.below hb1 HZA.out.lt)
  have HS1 := Lib.hid (HSA.out.grow hb1 hb1.size)
  clear hb1 HZA HSA HTA HBA
  go_wp2_with fail
  obtain ⟨wC, hwwC⟩ : ∃ v, v = w1.alloc (.cells #[.int .i64 2, .int .i64 0, .int .i64 0, .int .i64 0, .int .i64 0, .int .i64 0, .int .i64 (rnum x), .int .i64 0, .int .i64 0, .int .i64 0] 36) := ⟨_, rfl⟩
  have HNwC : Hid (BK wC w1.heap.size 36 #[.int .i64 2, .int .i64 0, .int .i64 0, .int .i64 0, .int .i64 0, .int .i64 0, .int .i64 (rnum x), .int .i64 0, .int .i64 0, .int .i64 0]) := by show BK _ _ _ _; rw [hwwC]; exact BK.new _ _ _
  have hqwC : Below w1.heap.size w1 wC := by rw [hwwC]; exact (Below.refl _ _).alloc (Nat.le_refl _) _
  have HBwC := Lib.hid (HB1.out.trans (hqwC.mono HB1.out.size))
  have HZwC := Lib.hid (HZ1.out.below hqwC HZ1.out.lt)
  have HSwC := Lib.hid (HS1.out.grow hqwC hqwC.size)
  rw [← hwwC]
  clear hwwC hqwC
  refine (rvalid_any 2 0 0 0 0 0 (rnum x) 0 0 0 _).mono ?_
  rintro e w4 ⟨rfl, hb4⟩
  rw [HV.out]
  have HBw4 := Lib.hid (HBwC.out.trans (hb4.mono HBwC.out.size))
  have HZw4 := Lib.hid (HZwC.out.below hb4 HZwC.out.lt)
  have HNw4 := Lib.hid (HNwC.out.below hb4 HNwC.out.lt)
  obtain ⟨m0, m1, m2, m3, m4, m5, m6, m7, m8, m9⟩ := HNw4.out.t10
  obtain ⟨z0, z1, z2, z3, z4, z5, z6, z7, z8, z9⟩ := HZw4.out.t10
  have zf := HZw4.out.frozen
  clear hb4
  go_wp2_with fail
  exact bodyPost_ret (res_note_b (t := 2) (u := 3) rfl _ _ _ _ _ rfl rfl rfl (HZw4.out.set10 rfl)) rfl ⟨by rw [HE.out]; rfl, below10 HBw4.out (Nat.le_refl _)⟩
set_option maxRecDepth 100000 in
set_option maxHeartbeats 4000000 in
theorem rnext_short (hn : 0 < n) (hb0 : b < w.heap.size) (h0 : w.cell? ⟨b, off, none⟩ = some (.string (nbs x))) (hS : SL tC 1 w w.heap.size (some ⟨b, off, none⟩) n (x :: r)) (hl : ∀ y ∈ x :: r, y.length ≤ 1000000) (ht : Lib.TabIs Tryz.prog w pow10N .u64 Lib.pow10Tab) (c0 : ¬ x = wInto) (c1 : ¬ x = wAnd) (c2 : ¬ x = wCrest) (c3 : ¬ x = wJump) (c4 : ¬ x = wBigjump) (c5 : ¬ x = [33]) (c6 : ¬ x = [33, 33]) (c7 : ¬ x = [33, 33, 33]) (c8 : ¬ x = wJunction) (hv : nVal ⟨2, 0, 0, 0, 0, 0, rnum x, 0, 0, 0⟩ = false) (hq : ¬(x.length = 2 ∧ (x.head? = some 76 ∨ x.head? = some 82))) :
    Calls Tryz.prog 46 #[.slice (some ⟨b, off, none⟩) n c] w (RNx w (rNext (x :: r))) := by
  have hn1 : (0 : Int) < (n : Int) := by omega
  have HS := Lib.hid hS
  have HL := Lib.hid (wrd_le hl)
  have HT := Lib.hid ht
  clear hS hl ht
  have HR := Lib.hid (rNext_9 r c0 c1 c2 c3 c4 c5 c6 c7 c8)
  have f0 : ((nbs x).toList == [105, 110, 116, 111]) = false := by rw [nbs_list]; exact beq_eq_false_iff_ne.2 c0
  have f1 : ((nbs x).toList == [97, 110, 100]) = false := by rw [nbs_list]; exact beq_eq_false_iff_ne.2 c1
  have f2 : ((nbs x).toList == [99, 114, 101, 115, 116]) = false := by rw [nbs_list]; exact beq_eq_false_iff_ne.2 c2
  have f3 : ((nbs x).toList == [106, 117, 109, 112]) = false := by rw [nbs_list]; exact beq_eq_false_iff_ne.2 c3
  have f4 : ((nbs x).toList == [98, 105, 103, 106, 117, 109, 112]) = false := by rw [nbs_list]; exact beq_eq_false_iff_ne.2 c4
  have f5 : ((nbs x).toList == [33]) = false := by rw [nbs_list]; exact beq_eq_false_iff_ne.2 c5
  have f6 : ((nbs x).toList == [33, 33]) = false := by rw [nbs_list]; exact beq_eq_false_iff_ne.2 c6
  have f7 : ((nbs x).toList == [33, 33, 33]) = false := by rw [nbs_list]; exact beq_eq_false_iff_ne.2 c7
  have f8 : ((nbs x).toList == [106, 117, 110, 99, 116, 105, 111, 110]) = false := by rw [nbs_list]; exact beq_eq_false_iff_ne.2 c8
  have HV := Lib.hid hv
  have HE : Hid (rNext (x :: r) = (zeroN, 0)) := by show _ = _; rw [HR.out, if_neg (by rw [hv]; decide), if_neg hq]
  have hsz : ((nbs x).size : Int) = (x.length : Int) := by rw [nbs_size]
  clear hv
  clear c0 c1 c2 c3 c4 c5 c6 c7 c8
  go_enter Tryz.func46, Tryz.ntmps46
  go_wp2_with fail
  obtain ⟨wA, hwA⟩ : ∃ wA, wA = w.alloc (.cells #[.int .i64 0, .int .i64 0, .int .i64 0, .int .i64 0, .int .i64 0, .int .i64 0, .int .i64 0, .int .i64 0, .int .i64 0, .int .i64 0] 36) := ⟨_, rfl⟩
  have HBA : Hid (Below w.heap.size w wA) := by show Below _ _ _; rw [hwA]; exact (Below.refl _ _).alloc (Nat.le_refl _) _
  have HZA : Hid (BK wA w.heap.size 36 #[.int .i64 0, .int .i64 0, .int .i64 0, .int .i64 0, .int .i64 0, .int .i64 0, .int .i64 0, .int .i64 0, .int .i64 0, .int .i64 0]) := by show BK _ _ _ _; rw [hwA]; exact BK.new _ _ _
  have HSA := Lib.hid (HS.out.grow HBA.out HBA.out.size)
  have HTA := Lib.hid (pow10_stays HT.out HBA.out (Nat.le_refl _))
  rw [← hwA]
  clear hwA
  refine (rnum_any x (HL.out 0) _ HTA.out).mono ?_
  rintro e w1 ⟨rfl, hb1⟩
  have HB1 := Lib.hid (HBA.out.trans (hb1.mono HBA.out.size))
  have HZ1 := Lib.hid (HZA.out.below hb1 HZA.out.lt)
  have HS1 := Lib.hid (HSA.out.grow hb1 hb1.size)
  clear hb1 HZA HSA HTA HBA
  go_wp2_with fail
  obtain ⟨wC, hwwC⟩ : ∃ v, v = w1.alloc (.cells #[.int .i64 2, .int .i64 0, .int .i64 0, .int .i64 0, .int .i64 0, .int .i64 0, .int .i64 (rnum x), .int .i64 0, .int .i64 0, .int .i64 0] 36) := ⟨_, rfl⟩
  have HNwC : Hid (BK wC w1.heap.size 36 #[.int .i64 2, .int .i64 0, .int .i64 0, .int .i64 0, .int .i64 0, .int .i64 0, .int .i64 (rnum x), .int .i64 0, .int .i64 0, .int .i64 0]) := by show BK _ _ _ _; rw [hwwC]; exact BK.new _ _ _
  have hqwC : Below w1.heap.size w1 wC := by rw [hwwC]; exact (Below.refl _ _).alloc (Nat.le_refl _) _
  have HBwC := Lib.hid (HB1.out.trans (hqwC.mono HB1.out.size))
  have HZwC := Lib.hid (HZ1.out.below hqwC HZ1.out.lt)
  have HSwC := Lib.hid (HS1.out.grow hqwC hqwC.size)
  rw [← hwwC]
  clear hwwC hqwC
  refine (rvalid_any 2 0 0 0 0 0 (rnum x) 0 0 0 _).mono ?_
  rintro e w4 ⟨rfl, hb4⟩
  rw [HV.out]
  have HBw4 := Lib.hid (HBwC.out.trans (hb4.mono HBwC.out.size))
  have HZw4 := Lib.hid (HZwC.out.below hb4 HZwC.out.lt)
  have HNw4 := Lib.hid (HNwC.out.below hb4 HNwC.out.lt)
  obtain ⟨m0, m1, m2, m3, m4, m5, m6, m7, m8, m9⟩ := HNw4.out.t10
  obtain ⟨z0, z1, z2, z3, z4, z5, z6, z7, z8, z9⟩ := HZw4.out.t10
  have zf := HZw4.out.frozen
  clear hb4
  by_cases h2 : x.length = 2
  · obtain ⟨b1, b2, hx⟩ : ∃ b1 b2, x = [b1, b2] := by
      match x, h2 with
      | [b1, b2], _ => exact ⟨b1, b2, rfl⟩
    have hix : ∀ w : World, (Instr.index 9 (.string (nbs x)) (.int .i64 0)).run Tryz.prog w = .ok (.int .u8 b1.toNat) w := fun w => by rw [hx]; exact nbs_idx0 b1 [b2] w
    have hb1 : b1 ≠ 76 ∧ b1 ≠ 82 := by
      refine ⟨fun e => hq ⟨h2, .inl ?_⟩, fun e => hq ⟨h2, .inr ?_⟩⟩ <;> rw [hx, e] <;> rfl
    have g1 : ((b1.toNat : Int) != 76) = true := by
      simp only [bne_iff_ne, ne_eq]
      intro hh
      exact hb1.1 (UInt8.toNat_inj.1 (by show b1.toNat = 76; omega))
    have g2 : ((b1.toNat : Int) != 82) = true := by
      simp only [bne_iff_ne, ne_eq]
      intro hh
      exact hb1.2 (UInt8.toNat_inj.1 (by show b1.toNat = 82; omega))
    have gz : ((x.length : Int) != 2) = false := by simp; omega
    clear hq h2 hx hb1
    go_wp2_with fail
    exact bodyPost_ret (res_note_b (t := 2) (u := 3) rfl _ _ _ _ _ rfl rfl rfl (HZw4.out.set10 rfl)) rfl ⟨by rw [HE.out]; rfl, below10 HBw4.out (Nat.le_refl _)⟩
  · have gz : ((x.length : Int) != 2) = true := by simp; omega
    clear hq h2
    go_wp2_with fail
    exact bodyPost_ret (res_note_b (t := 2) (u := 3) rfl _ _ _ _ _ rfl rfl rfl (HZw4.out.set10 rfl)) rfl ⟨by rw [HE.out]; rfl, below10 HBw4.out (Nat.le_refl _)⟩
end
end Go.Proofs.YtnmipejpjeakbaaGreatDoor
