/- Reading notes: a number, the parser's words. -/
import Derived.Test.YtcniibngfnkobaaGreatDoorPCBackOk
import Derived.Test.YtcniibngfnkobaaGreatDoorPNoteP
import Derived.Laws.RangeAny
import Derived.WalkLawsBesides
import Derived.Deep.AppendLies
namespace Go.Proofs.YtcniibngfnkobaaGreatDoor
open Go.RowKit Go.Shelf Go.Sort Go.Proofs

/-- What a parser gives up with. -/
abbrev unE : Ending := .panicked [{ v := .iface 124 (.agg #[.int .i64 3]), recovered := false }]
theorem need_true (w : World) : Calls Tryz.prog 85 #[.bool true] w fun e w' => e = .returned (.tuple #[]) ∧ w = w' := by
  go_enter Tryz.func85, Tryz.ntmps85
  go_wp2
  simp [bodyPost, results, Tryz.results85, go_sem]
theorem need_false (w : World) : Calls Tryz.prog 85 #[.bool false] w fun e w' => e = unE ∧ w = w' := by
  go_enter Tryz.func85, Tryz.ntmps85
  go_wp2
  exact ⟨rfl, rfl, rfl⟩
theorem numV_take_succ (t : Wd) (p : Nat) (b : UInt8) (h : t[p]? = some b) : numV (t.take (p + 1)) = 10 * numV (t.take p) + ((b.toNat : Int) - 48) := by
  rw [List.take_add_one, h]
  simp [numV]
theorem numV_bd : ∀ (k : Nat) (t : Wd), t.all digB = true → t.length ≤ k → k ≤ 4 → 0 ≤ numV t ∧ numV t < 10 ^ k := by
  intro k
  induction k with
  | zero =>
    intro t _ h _
    have : t = [] := List.eq_nil_of_length_eq_zero (by omega)
    subst this
    exact ⟨by decide, by decide⟩
  | succ k ih =>
    intro t ht hl hk
    by_cases h0 : t = []
    · subst h0
      exact ⟨by decide, Int.pow_pos (by decide)⟩
    · have e : t = t.dropLast ++ [t.getLast h0] := (List.dropLast_concat_getLast h0).symm
      rw [e] at ht ⊢
      rw [List.all_append, Bool.and_eq_true] at ht
      have hb := ht.2
      simp only [List.all_cons, List.all_nil, digB, Bool.and_true, Bool.and_eq_true, decide_eq_true_eq] at hb
      have := ih t.dropLast ht.1 (by simp; omega) (by omega)
      have e2 : numV (t.dropLast ++ [t.getLast h0]) = 10 * numV t.dropLast + (((t.getLast h0).toNat : Int) - 48) := by simp [numV]
      rw [e2, Int.pow_succ]
      omega
theorem take_digs (t : Wd) (p : Nat) (b : UInt8) (h : t[p]? = some b) (hd : (t.take p).all digB = true) (hb : digB b = true) : (t.take (p + 1)).all digB = true := by
  rw [List.take_add_one, h, List.all_append, hd]
  simp [hb]
theorem nbs_idx0 (b : UInt8) (t : Wd) (w : World) : (Instr.index 9 (.string (nbs (b :: t))) (.int .i64 0)).run Tryz.prog w = .ok (.int .u8 b.toNat) w := by
  rw [run_index_string w 9 (nbs (b :: t)) .i64 0 Tryz.underlying9, dif_pos ⟨by omega, by rw [nbs_size]; simp⟩]
  rfl
theorem digB_iff (b : UInt8) : digB b = true ↔ 48 ≤ b.toNat ∧ b.toNat ≤ 57 := by simp [digB]
set_option maxRecDepth 100000 in
set_option maxHeartbeats 4000000 in
theorem nnum_any (t : Wd) (w : World) :
    Calls Tryz.prog 97 #[.string (nbs t)] w fun e w' => ((∃ g, numB t = some g ∧ e = .returned (.int .i64 g)) ∨ (numB t = none ∧ e = unE)) ∧ Below w.heap.size w w' := by
  have HSZ := Lib.hid (nbs_size t)
  by_cases hl : 1 ≤ t.length ∧ t.length ≤ 4
  case neg =>
    have hN : Hid (numB t = none) := by
      show _ = _
      unfold numB
      rw [if_neg]
      simp only [Bool.and_eq_true, decide_eq_true_eq]
      omega
    have g1 : (decide ((1 : Int) ≤ ((nbs t).size : Int)) && decide (((nbs t).size : Int) ≤ 4)) = false := by rw [HSZ.out, ← Bool.not_eq_true]; simp only [Bool.and_eq_true, decide_eq_true_eq]; omega
    clear hl
    go_enter Tryz.func97, Tryz.ntmps97
    go_wp2_with (first | (go_at_call 42; refine (nwithin_any _ _ _ _).mono ?_; rintro e w' ⟨rfl, rfl⟩) | (go_at_call 85; refine (need_false _).mono ?_; rintro e w' ⟨rfl, rfl⟩))
    exact ⟨rfl, .inr ⟨hN.out, rfl⟩, Below.refl _ _⟩
  have g1 : (decide ((1 : Int) ≤ ((nbs t).size : Int)) && decide (((nbs t).size : Int) ≤ 4)) = true := by rw [HSZ.out]; simp only [Bool.and_eq_true, decide_eq_true_eq]; omega
  obtain ⟨b0, t', ht⟩ : ∃ b0 t', t = b0 :: t' := by
    cases t with
    | nil => simp at hl
    | cons b t' => exact ⟨b, t', rfl⟩
  have hix : ∀ w : World, (Instr.index 9 (.string (nbs t)) (.int .i64 0)).run Tryz.prog w = .ok (.int .u8 b0.toNat) w := fun w => by rw [ht]; exact nbs_idx0 b0 t' w
  by_cases h48 : b0 = 48
  case pos =>
    have hN : Hid (numB t = none) := by
      show _ = _
      unfold numB
      rw [if_neg, ]
      rw [ht, h48]
      simp
    have g2 : ((b0.toNat : Int) != 48) = false := by subst h48; rfl
    clear hl h48 ht
    go_enter Tryz.func97, Tryz.ntmps97
    go_wp2_with (first | (go_at_call 42; refine (nwithin_any _ _ _ _).mono ?_; rintro e w' ⟨rfl, rfl⟩) | (go_at_call 85; refine (need_false _).mono ?_; rintro e w' ⟨rfl, rfl⟩))
    exact ⟨rfl, .inr ⟨hN.out, rfl⟩, Below.refl _ _⟩
  have g2 : ((b0.toNat : Int) != 48) = true := by
    simp only [bne_iff_ne, ne_eq]
    intro hh
    exact h48 (UInt8.toNat_inj.1 (by have : b0.toNat = 48 := by omega
                                     rw [this]; rfl))
  have HD0 : Hid (t.head? ≠ some 48) := by show _ ≠ _; rw [ht]; simpa using h48
  have HLN := Lib.hid hl
  clear hl h48 ht
  go_enter Tryz.func97, Tryz.ntmps97
  go_wp2_with (first | (go_at_call 42; refine (nwithin_any _ _ _ _).mono ?_; rintro e w' ⟨rfl, rfl⟩) | (go_at_call 85; refine (need_true _).mono ?_; rintro e w' ⟨rfl, rfl⟩))
  clear g1 g2 hix
  go_loopw [3] (fun n wr => ∃ p : Nat, p ≤ t.length ∧ (t.take p).all digB = true ∧ n = .int .i64 (numV (t.take p)) ∧ wr = w.iter (nbs t) p)
    (fun _ wr => t.length - wr.iterPos w.heap.size)
  case atStart => exact ⟨0, by omega, by simp, rfl, rfl⟩
  case round =>
    obtain ⟨p, hp, hd, rfl, rfl⟩ := hrel
    have HDG := Lib.hid hd
    clear hd
    by_cases hlt : p < t.length
    · have hlz : p < (nbs t).size := by rw [nbs_size]; exact hlt
      have HG := Lib.hid (nbs_get t p hlz)
      have hV0 := numV_bd 4 (t.take p) HDG.out (by simp; have := HLN.out; omega) (by omega)
      by_cases hdb : digB ((nbs t)[p]'hlz) = true
      · have hnx : ∀ ty, (Instr.next (.pointer (some ⟨w.heap.size, 0, none⟩)) true ty).run Tryz.prog (w.iter (nbs t) p) = .ok (.tuple #[.bool true, .int .i64 p, .int .i32 ((nbs t)[p]'hlz).toNat]) (w.iter (nbs t) (p + 1)) := fun ty =>
          run_next_ascii w (nbs t) p ty hlz (by have := (digB_iff _).1 hdb; omega)
        have HV := Lib.hid (numV_take_succ t p _ HG.out)
        have HD := Lib.hid (take_digs t p _ HG.out HDG.out hdb)
        have hb := (digB_iff _).1 hdb
        have hV1 := numV_bd 4 (t.take (p + 1)) HD.out (by simp; have := HLN.out; omega) (by omega)
        rw [HV.out] at hV1
        generalize (nbs t)[p]'hlz = b at *
        have g3 : decide ((48 : Int) ≤ (b.toNat : Int)) = true := decide_eq_true (by omega)
        have g4 : decide ((b.toNat : Int) ≤ 57) = true := decide_eq_true (by omega)
        have e1 : IntKind.i32.wrap ((b.toNat : Int) - 48) = (b.toNat : Int) - 48 := IntWalk.i32_in _ (by omega)
        have e2 : IntKind.i64.wrap ((b.toNat : Int) - 48) = (b.toNat : Int) - 48 := IntWalk.i64_in _ (by omega)
        have e3 : IntKind.i64.wrap (10 * numV (t.take p)) = 10 * numV (t.take p) := IntWalk.i64_in _ (by omega)
        have e4 : IntKind.i64.wrap (10 * numV (t.take p) + ((b.toNat : Int) - 48)) = 10 * numV (t.take p) + ((b.toNat : Int) - 48) := IntWalk.i64_in _ (by omega)
        clear hdb hb hV0 hV1 hlz HG
        go_wp2_with (go_at_call 85; refine (need_true _).mono ?_; rintro e w' ⟨rfl, rfl⟩)
        go_roundw
        case rel => exact ⟨p + 1, by omega, HD.out, by rw [HV.out], rfl⟩
        case measure => rw [World.iterPos_iter, World.iterPos_iter]; omega
      · have hN : Hid (numB t = none) := by
          show _ = _
          unfold numB
          rw [if_neg]
          intro hh
          simp only [Bool.and_eq_true] at hh
          exact hdb (List.all_eq_true.1 hh.2 _ (List.mem_of_getElem? HG.out))
        obtain ⟨r, q, hnx, hr⟩ : ∃ (r q : Nat), (∀ ty, (Instr.next (.pointer (some ⟨w.heap.size, 0, none⟩)) true ty).run Tryz.prog (w.iter (nbs t) p) = .ok (.tuple #[.bool true, .int .i64 p, .int .i32 r]) (w.iter (nbs t) q)) ∧ (r < 48 ∨ 57 < r) := by
          by_cases h128 : ((nbs t)[p]'hlz).toNat < 128
          · exact ⟨_, _, fun ty => run_next_ascii w (nbs t) p ty hlz h128, by rw [digB_iff] at hdb; omega⟩
          · exact ⟨_, _, fun ty => run_next_any w (nbs t) p ty hlz, by have := (decode_high (nbs t) p hlz (by omega)).1; omega⟩
        have hB : Below w.heap.size w (w.iter (nbs t) q) := (Below.refl _ _).alloc (Nat.le_refl _) _
        clear hdb HG hlz hV0
        rcases Nat.lt_or_ge r 48 with h1 | h1
        · have g3 : decide ((48 : Int) ≤ (r : Int)) = false := decide_eq_false (by omega)
          go_wp2_with (go_at_call 85; refine (need_false _).mono ?_; rintro e w' ⟨rfl, rfl⟩)
          exact ⟨rfl, .inr ⟨hN.out, rfl⟩, hB⟩
        · have g3 : decide ((48 : Int) ≤ (r : Int)) = true := decide_eq_true (by omega)
          have g4 : decide ((r : Int) ≤ 57) = false := decide_eq_false (by omega)
          go_wp2_with (go_at_call 85; refine (need_false _).mono ?_; rintro e w' ⟨rfl, rfl⟩)
          exact ⟨rfl, .inr ⟨hN.out, rfl⟩, hB⟩
    · obtain rfl : p = t.length := by omega
      have hnx : ∀ ty, (Instr.next (.pointer (some ⟨w.heap.size, 0, none⟩)) true ty).run Tryz.prog (w.iter (nbs t) t.length) = .ok (.tuple #[.bool false]) (w.iter (nbs t) t.length) := fun ty => run_next_end w (nbs t) t.length ty (by rw [nbs_size]; omega)
      have hE : t.take t.length = t := List.take_length
      rw [hE] at HDG ⊢
      have hN : Hid (numB t = some (numV t)) := by
        show _ = _
        unfold numB
        rw [if_pos]
        have := HLN.out
        have h2 := HD0.out
        have h3 := HDG.out
        simp only [Bool.and_eq_true, decide_eq_true_eq, bne_iff_ne]
        exact ⟨⟨⟨this.1, this.2⟩, h2⟩, h3⟩
      go_wp2_with fail
      go_ret
      exact ⟨.inl ⟨_, hN.out, rfl⟩, (Below.refl _ _).alloc (Nat.le_refl _) _⟩
end Go.Proofs.YtcniibngfnkobaaGreatDoor

/- Reading notes: the parser's next and take. -/
namespace Go.Proofs.YtcniibngfnkobaaGreatDoor
open Go.RowKit Go.Shelf Go.Sort Go.Proofs

/-- The parser at block g has the words ws left; they lie below block B. -/
def PA (w : World) (g B : Nat) (ws : List Wd) : Prop := g < B ∧ B ≤ w.heap.size ∧ ∃ A n c, BK w g 128 #[.slice A n c] ∧ n ≤ c ∧ n ≤ 1000000 ∧ n = ws.length ∧
  (0 < n → ∃ b off, A = some ⟨b, off, none⟩ ∧ g < b ∧ b < B ∧ ∀ i x, ws[i]? = some x → w.cell? ⟨b, off + i, none⟩ = some (.string (nbs x)))
theorem PA.lt {w : World} {g B : Nat} {ws : List Wd} (h : PA w g B ws) : g < B ∧ B ≤ w.heap.size := ⟨h.1, h.2.1⟩
/-- Kept while blocks from B on are written and new ones are made. -/
theorem PA.grown {w w' : World} {g B : Nat} {row : Option Nat} {ws : List Wd} (h : PA w g B ws) (hg : w.grownBy w' row) (hr : ∀ m, row = some m → B ≤ m) : PA w' g B ws := by
  obtain ⟨h5, h6, A, n, c, hB, h1, h2, h3, h4⟩ := h
  have hne : ∀ k, k < B → some k ≠ row := fun k hk e => by have := hr k e.symm; omega
  refine ⟨h5, Nat.le_trans h6 hg.size, A, n, c, hB.same (hg.block g hB.lt (hne g h5)), h1, h2, h3, fun hn => ?_⟩
  obtain ⟨b, off, e, hbg, hbs, hc⟩ := h4 hn
  exact ⟨b, off, e, hbg, hbs, fun i x hx => (hg.cell_far ⟨b, off + i, none⟩ (Nat.lt_of_lt_of_le hbs h6) (hne b hbs)).trans (hc i x hx)⟩
/-- Kept while a block below the parser's is written. -/
theorem PA.low {w w' : World} {g B m : Nat} {ws : List Wd} (h : PA w g B ws) (hg : w.grownBy w' (some m)) (hm : m < g) : PA w' g B ws := by
  obtain ⟨h5, h6, A, n, c, hB, h1, h2, h3, h4⟩ := h
  refine ⟨h5, Nat.le_trans h6 hg.size, A, n, c, hB.same (hg.block g hB.lt (by simp; omega)), h1, h2, h3, fun hn => ?_⟩
  obtain ⟨b, off, e, hbg, hbs, hc⟩ := h4 hn
  exact ⟨b, off, e, hbg, hbs, fun i x hx => (hg.cell_far ⟨b, off + i, none⟩ (Nat.lt_of_lt_of_le hbs h6) (by simp; omega)).trans (hc i x hx)⟩
theorem PA.below {w w' : World} {g B : Nat} {ws : List Wd} (h : PA w g B ws) (hb : Below w.heap.size w w') : PA w' g B ws := h.grown (row := none) ⟨hb.os, hb.tape, hb.output, hb.size, fun k hk _ => hb.block k hk⟩ (fun _ e => by cases e)
theorem grown_of_below {w w' : World} {row : Option Nat} (hb : Below w.heap.size w w') : w.grownBy w' row := ⟨hb.os, hb.tape, hb.output, hb.size, fun k hk _ => hb.block k hk⟩
theorem nbs_beq (x v : Wd) : ((nbs x).toList == (nbs v).toList) = (x == v) := by rw [ByteArray.toList_eq, ByteArray.toList_eq]; simp [nbs]
def tailS (A : Option Addr) (c : Nat) : Option Addr := if c = 1 then A else A.map fun x => x.add 1
theorem sizeS (W : World) : (sizeOf 9).run Tryz.prog W = .ok 1 W := by kernel_rfl
theorem run_tailS (W : World) (A : Option Addr) (n c : Nat) (hn : 1 ≤ n) : (Instr.slice 88 (.slice A n c) (some (.int .i64 1)) none none).run Tryz.prog W = .ok (.slice (tailS A c) (n - 1) (c - 1)) W := by
  have hz := sizeS W
  have hn1 : (1 : Int) ≤ (n : Int) := by omega
  simp [Instr.slice, Instr.sliceBounds, Instr.sliceBound, asIntOf, run_underlying Tryz.underlying88, hn1, hz, Result.andThen, tailS]
theorem PA.tail {w : World} {g B b off n c : Nat} {x : Wd} {r : List Wd} (hB : BK w g 128 #[.slice (some ⟨b, off, none⟩) n c]) (hnc : n ≤ c) (hmx : n ≤ 1000000) (hn : n = (x :: r).length) (hbg : g < b) (hbs : b < B) (hgB : g < B) (hBw : B ≤ w.heap.size)
    (hc : ∀ i y, (x :: r)[i]? = some y → w.cell? ⟨b, off + i, none⟩ = some (.string (nbs y))) : PA (w.setCell ⟨g, 0, none⟩ (.slice (tailS (some ⟨b, off, none⟩) c) (n - 1) (c - 1))) g B r := by
  refine ⟨hgB, by simpa using hBw, _, n - 1, c - 1, hB.set_ 0 _, by omega, by omega, by rw [hn]; simp, fun h0 => ⟨b, off + 1, ?_, hbg, hbs, fun i y hy => ?_⟩⟩
  · unfold tailS
    rw [if_neg (by omega)]
    rfl
  · have h1 := hc (i + 1) y (by simpa using hy)
    rw [show off + 1 + i = off + (i + 1) by omega]
    exact (World.cell?_of_block (w := w) (a := ⟨b, off + (i + 1), none⟩) (Below.heap_setCell w ⟨g, 0, none⟩ _ b (by simp; omega))).trans h1
set_option maxRecDepth 100000 in
theorem nnext_nil (g B : Nat) (w : World) (h : PA w g B []) : Calls Tryz.prog 82 #[.pointer (some ⟨g, 0, none⟩)] w fun e w' => e = unE ∧ w = w' := by
  obtain ⟨hgB, hBw, A, n, c, hB, hnc, hmx, hn, hc⟩ := h
  obtain rfl : n = 0 := by simpa using hn
  have p0 := hB.cell 0
  simp only [List.getElem?_toArray, List.getElem?_cons_zero] at p0
  clear hc hn
  go_enter Tryz.func82, Tryz.ntmps82
  go_wp2_with (go_at_call 85; refine (need_false _).mono ?_; rintro e w' ⟨rfl, rfl⟩)
  exact ⟨rfl, rfl, rfl⟩
set_option maxRecDepth 100000 in
theorem nnext_cons (g B : Nat) (x : Wd) (r : List Wd) (w : World) (h : PA w g B (x :: r)) :
    Calls Tryz.prog 82 #[.pointer (some ⟨g, 0, none⟩)] w fun e w' => e = .returned (.string (nbs x)) ∧ PA w' g B r ∧ w.grownBy w' (some g) := by
  obtain ⟨hgB, hBw, A, n, c, hB, hnc, hmx, hn, hc⟩ := h
  have h1n : 1 ≤ n := by rw [hn]; simp
  obtain ⟨b, off, rfl, hbg, hbs, hc⟩ := hc h1n
  have HT := Lib.hid (PA.tail hB hnc hmx hn hbg hbs hgB hBw hc)
  have c0 := hc 0 x rfl
  simp only [Nat.add_zero] at c0
  have p0 := hB.cell 0
  have f0 := hB.frozen 0
  simp only [List.getElem?_toArray, List.getElem?_cons_zero] at p0
  have hsl := fun W => run_tailS W (some ⟨b, off, none⟩) n c h1n
  have gn : decide ((0 : Int) < (n : Int)) = true := decide_eq_true (by omega)
  have gnN : decide (0 < n) = true := decide_eq_true (by omega)
  have gn2 : (0 : Int) < (n : Int) := by omega
  clear hc hn hB
  go_enter Tryz.func82, Tryz.ntmps82
  go_wp2_with (go_at_call 85; refine (need_true _).mono ?_; rintro e w' ⟨rfl, rfl⟩)
  go_ret
  exact ⟨rfl, HT.out, grownBy_setCell' w g _⟩
set_option maxRecDepth 100000 in
theorem ntake_any (g B : Nat) (v : Wd) (ws : List Wd) (w : World) (h : PA w g B ws) :
    Calls Tryz.prog 98 #[.pointer (some ⟨g, 0, none⟩), .string (nbs v)] w fun e w' => (∃ r, ws = v :: r ∧ e = .returned (.bool true) ∧ PA w' g B r ∧ w.grownBy w' (some g)) ∨ (ws.head? ≠ some v ∧ e = .returned (.bool false) ∧ w = w') := by
  cases ws with
  | nil =>
    obtain ⟨hgB, hBw, A, n, c, hB, hnc, hmx, hn, hc⟩ := h
    obtain rfl : n = 0 := by simpa using hn
    have p0 := hB.cell 0
    simp only [List.getElem?_toArray, List.getElem?_cons_zero] at p0
    clear hc hn
    go_enter Tryz.func98, Tryz.ntmps98
    go_wp2_with fail
    go_ret
    exact .inr ⟨by simp, rfl, rfl⟩
  | cons x r =>
    obtain ⟨hgB, hBw, A, n, c, hB, hnc, hmx, hn, hc⟩ := h
    have h1n : 1 ≤ n := by rw [hn]; simp
    obtain ⟨b, off, rfl, hbg, hbs, hc⟩ := hc h1n
    have HT := Lib.hid (PA.tail hB hnc hmx hn hbg hbs hgB hBw hc)
    have c0 := hc 0 x rfl
    simp only [Nat.add_zero] at c0
    have p0 := hB.cell 0
    have f0 := hB.frozen 0
    simp only [List.getElem?_toArray, List.getElem?_cons_zero] at p0
    have hsl := fun W => run_tailS W (some ⟨b, off, none⟩) n c h1n
    have gn : ((n : Int) == 0) = false := by simp; omega
    have gnN : (n == 0) = false := by simp; omega
    have gn2 : (0 : Int) < (n : Int) := by omega
    clear hc hn hB
    by_cases hx : x = v
    · have gx : ((nbs x).toList == (nbs v).toList) = true := by rw [nbs_beq]; simpa using hx
      have HX := Lib.hid hx
      clear hx
      go_enter Tryz.func98, Tryz.ntmps98
      go_wp2_with fail
      go_ret
      exact .inl ⟨r, by rw [HX.out], rfl, HT.out, grownBy_setCell' w g _⟩
    · have gx : ((nbs x).toList == (nbs v).toList) = false := by rw [nbs_beq]; simpa using hx
      have HX := Lib.hid hx
      clear hx
      go_enter Tryz.func98, Tryz.ntmps98
      go_wp2_with fail
      go_ret
      exact .inr ⟨by simpa using HX.out, rfl, rfl⟩
end Go.Proofs.YtcniibngfnkobaaGreatDoor
