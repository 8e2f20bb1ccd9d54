/- note.Read of any text. -/
import Derived.Test.YtnmipejpjeakbaaGreatDoorPNAll
import Derived.Test.YtnmipejpjeakbaaGreatDoorPRNxC
import Derived.Test.YtnmipejpjeakbaaGreatDoorPRNum
namespace Go.Proofs.YtnmipejpjeakbaaGreatDoor
open Go.RowKit Go.Shelf Go.Sort Go.Proofs

theorem nall_any (s : List UInt8) (hl : s.length ≤ 100000) (w : World) : Calls Tryz.prog 44 #[.string (nbs s)] w (RA w s) := callsIn_wide.1 (all_in s hl w)
/-- The notes that note.Read gives, or its error. -/
def noteRd (s : List UInt8) : Except Int (List NoteR) :=
  if 40000 < s.length then .error 4 else match readB s with
  | none => .error 3
  | some L => if 2000 < L.length then .error 4 else .ok L
/-- What note.Read leaves. -/
def RR (w : World) (s : List UInt8) (e : Ending) (w' : World) : Prop :=
  Below w.heap.size w w' ∧ ((∃ k, noteRd s = .error k ∧ e = .returned (.tuple #[.slice none 0 0, .int .i64 k])) ∨
    (∃ L A c, noteRd s = .ok L ∧ e = .returned (.tuple #[.slice A L.length c, .int .i64 0]) ∧ OW nC 10 36 w.heap.size w' A L.length c L))
set_option maxRecDepth 100000 in
set_option maxHeartbeats 4000000 in
theorem nread_any (s : List UInt8) (w : World) : Calls Tryz.prog 14 #[.string (nbs s)] w (RR w s) := by
  have hz : (nbs s).size = s.length := nbs_size s
  go_enter Tryz.func14, Tryz.ntmps14
  go_wp2_with (go_at_call 44; refine (nall_any s (by omega) _).mono ?_; rintro e w' hR; have HR := Lib.hid hR; clear hR; rcases HR.out with ⟨L, A, c, hs, rfl, hO, hB⟩ | ⟨hs, rfl, hB⟩)
  all_goals go_ret2
  · exact ⟨Below.refl _ _, .inl ⟨4, by unfold noteRd; rw [if_pos (by omega)], rfl⟩⟩
  · exact ⟨hB, .inl ⟨4, by unfold noteRd; rw [if_neg (by omega), hs]; simp only; rw [if_pos (by omega)], rfl⟩⟩
  · exact ⟨hB, .inr ⟨L, A, c, by unfold noteRd; rw [if_neg (by omega), hs]; simp only; rw [if_neg (by omega)], rfl, hO⟩⟩
  · exact ⟨hB, .inl ⟨3, by unfold noteRd; rw [if_neg (by omega), hs], rfl⟩⟩
end Go.Proofs.YtnmipejpjeakbaaGreatDoor

/- The document's next note, and Read. Printed by genrnext.py. -/
namespace Go.Proofs.YtnmipejpjeakbaaGreatDoor
open Go.RowKit Go.Shelf Go.Sort Go.Proofs

theorem rnext_any (A : Option Addr) (n c : Nat) (x : Wd) (r : List Wd) (w : World) (hS : SL tC 1 w w.heap.size A n (x :: r)) (hl : ∀ y ∈ x :: r, y.length ≤ 1000000) (ht : Lib.TabIs Tryz.prog w pow10N .u64 Lib.pow10Tab) :
    Calls Tryz.prog 46 #[.slice A n c] w (RNx w (rNext (x :: r))) := by
  have hn : 0 < n := by rw [hS.1]; simp
  obtain ⟨b, off, rfl, hb, h0⟩ := WS.at_ hS (k := 0) (by simp)
  simp only [Nat.add_zero, List.getElem_cons_zero] at h0
  by_cases c0 : x = wInto
  · exact rnext_words b off n c x r w hn hb h0 (by rw [c0]; simp)
  by_cases c1 : x = wAnd
  · exact rnext_words b off n c x r w hn hb h0 (by rw [c1]; simp)
  by_cases c2 : x = wCrest
  · exact rnext_words b off n c x r w hn hb h0 (by rw [c2]; simp)
  by_cases c3 : x = wJump
  · exact rnext_words b off n c x r w hn hb h0 (by rw [c3]; simp)
  by_cases c4 : x = wBigjump
  · exact rnext_words b off n c x r w hn hb h0 (by rw [c4]; simp)
  by_cases c5 : x = [33]
  · exact rnext_words b off n c x r w hn hb h0 (by rw [c5]; simp)
  by_cases c6 : x = [33, 33]
  · exact rnext_words b off n c x r w hn hb h0 (by rw [c6]; simp)
  by_cases c7 : x = [33, 33, 33]
  · exact rnext_words b off n c x r w hn hb h0 (by rw [c7]; simp)
  by_cases c8 : x = wJunction
  · exact rnext_way b off n c x r w hn hb h0 hS hl ht c0 c1 c2 c3 c4 c5 c6 c7 c8
  cases hv : nVal ⟨2, 0, 0, 0, 0, 0, rnum x, 0, 0, 0⟩ with
  | true => exact rnext_meters b off n c x r w hn hb h0 hS hl ht c0 c1 c2 c3 c4 c5 c6 c7 c8 hv
  | false =>
    by_cases hq : x.length = 2 ∧ (x.head? = some 76 ∨ x.head? = some 82)
    · match x, hq with
      | [b1, b2], ⟨_, h⟩ =>
        rcases h with h | h
        · obtain rfl : b1 = 76 := by simpa using h
          exact rnext_L b off n c b2 r w _ hn hb h0 hS hl ht rfl
        · obtain rfl : b1 = 82 := by simpa using h
          exact rnext_R b off n c b2 r w _ hn hb h0 hS hl ht rfl
    · exact rnext_short b off n c x r w hn hb h0 hS hl ht c0 c1 c2 c3 c4 c5 c6 c7 c8 hv hq
/-- The document's notes of some words. -/
def tailW (A : Option Addr) (c k : Nat) : Option Addr := if c = k then A else A.map fun x => x.add k
theorem run_tailW (W : World) (A : Option Addr) (n c k : Nat) (hk : k ≤ n) : (Instr.slice 91 (.slice A n c) (some (.int .i64 (k : Nat))) none none).run Tryz.prog W = .ok (.slice (tailW A c k) (n - k) (c - k)) W := by
  have hz := sizeS W
  simp [Instr.slice, Instr.sliceBounds, Instr.sliceBound, asIntOf, run_underlying Tryz.underlying91, hk, hz, Result.andThen, tailW]
theorem SL.tailW {w : World} {B n c k : Nat} {A : Option Addr} {xs : List Wd} (h : SL tC 1 w B A n xs) (hc : n ≤ c) (hk : k ≤ n) : SL tC 1 w B (tailW A c k) (n - k) (xs.drop k) := by
  refine ⟨by rw [List.length_drop, ← h.1], fun h0 => ?_⟩
  obtain ⟨b, off, rfl, hb, hx⟩ := h.2 (by omega)
  refine ⟨b, off + k * 1, ?_, hb, fun i x hi j v hv => ?_⟩
  · unfold Go.Proofs.YtnmipejpjeakbaaGreatDoor.tailW
    rw [if_neg (by omega)]
    simp [Addr.add]
  · rw [List.getElem?_drop] at hi
    have := hx (k + i) x hi j v hv
    rw [show off + k * 1 + i * 1 + j = off + (k + i) * 1 + j by omega]
    exact this
theorem splitB_lens : ∀ (s : List UInt8), (splitB s).length ≤ s.length + 1 ∧ ∀ y ∈ splitB s, y.length ≤ s.length
  | [] => by simp [splitB]
  | b :: r => by
    have ih := splitB_lens r
    rw [splitB]
    split
    · refine ⟨by simp; omega, fun y hy => ?_⟩
      rcases List.mem_cons.1 hy with rfl | hy
      · simp
      · have := ih.2 y hy; simp; omega
    · split
      · refine ⟨by simp, fun y hy => ?_⟩
        have := List.mem_singleton.1 hy; subst this; simp
      · rename_i x xs he
        rw [he] at ih
        refine ⟨by have := ih.1; simp at this ⊢; omega, fun y hy => ?_⟩
        rcases List.mem_cons.1 hy with rfl | hy
        · have := ih.2 x (by simp); simp; omega
        · have := ih.2 y (by simp [hy]); simp; omega
def lenV : Value → Nat
  | .slice _ n _ => n
  | _ => 0
/-- What the document's Read leaves. -/
def RRd (w : World) (s : List UInt8) (e : Ending) (w' : World) : Prop :=
  Below w.heap.size w w' ∧ ((readB s = none ∧ e = .returned (.tuple #[.slice none 0 0, .bool false])) ∨
    (∃ L A c, readB s = some L ∧ e = .returned (.tuple #[.slice A L.length c, .bool true]) ∧ OW nC 10 36 w.heap.size w' A L.length c L))
set_option maxRecDepth 100000 in
set_option maxHeartbeats 4000000 in
theorem rread_any (s : List UInt8) (hl : s.length ≤ 100000) (w : World) (ht : Lib.TabIs Tryz.prog w pow10N .u64 Lib.pow10Tab) :
    Calls Tryz.prog 15 #[.string (nbs s)] w (RRd w s) := by
  by_cases h0 : s = []
  · have f0 : (nbs s).toList = [] := by rw [nbs_list]; exact h0
    have HR : Hid (readB s = some []) := by show _ = _; rw [h0]; unfold readB wordsB; rw [if_pos rfl, pAll_nil]
    clear h0
    go_enter Tryz.func15, Tryz.ntmps15
    go_wp2_with fail
    go_ret2
    exact ⟨Below.refl _ _, .inr ⟨[], none, 0, HR.out, rfl, OW.nil_⟩⟩
  have f0 : ((nbs s).toList == []) = false := by rw [nbs_list]; exact beq_eq_false_iff_ne.2 h0
  have HRB : Hid (readB s = pAll (splitB s)) := by show _ = _; unfold readB wordsB; rw [if_neg h0]
  have hsl := splitB_lens s
  have HLW : Hid (∀ y ∈ splitB s, y.length ≤ 1000000) := fun y hy => Nat.le_trans (hsl.2 y hy) (by omega)
  have hsl1 := hsl.1
  have HT := Lib.hid ht
  clear h0 hsl ht
  go_enter Tryz.func15, Tryz.ntmps15
  go_wp2_with fail
  refine (rwords_any s hl _).mono ?_
  rintro e w1 ⟨A, c, rfl, hO, hb1⟩
  have HS := Lib.hid (hO.sl tC_len)
  have hcap := hO.cap
  have HB1 := Lib.hid hb1
  clear hO hb1 f0
  go_wp2_with fail
  go_loopw [4, 5, 6, 7] (fun ov lv _ _ wr => ∃ (ws : List Wd) (A1 : Option Addr) (c1 : Nat) (acc : List NoteR) (A2 : Option Addr) (c2 : Nat), lv = .slice A1 ws.length c1 ∧ ov = .slice A2 acc.length c2 ∧ ws.length ≤ c1 ∧ SL tC 1 wr w1.heap.size A1 ws.length ws ∧ OW nC 10 36 w1.heap.size wr A2 acc.length c2 acc ∧ acc.length + ws.length ≤ 100001 ∧ (∀ y ∈ ws, y.length ≤ 1000000) ∧ readB s = (pAll ws).map (acc ++ ·) ∧ Below w1.heap.size w1 wr)
    (fun _ lv _ _ _ => lenV lv)
  case atStart => exact ⟨splitB s, A, c, [], none, 0, rfl, rfl, hcap, HS.out, OW.nil_, by simp; omega, HLW.out, by rw [HRB.out]; simp, Below.refl _ _⟩
  case round =>
    obtain ⟨ws, A1, c1, acc, A2, c2, rfl, rfl, hc1, hS, hO, hal, hwl, hrb, hbr⟩ := hrel
    have hzr := hbr.size
    cases ws with
    | nil =>
      have HRB2 : Hid (readB s = some acc) := by show _ = _; rw [hrb, pAll_nil]; simp
      clear hrb
      go_wp2_with fail
      go_ret2
      exact ⟨HB1.out.trans (hbr.mono HB1.out.size), .inr ⟨acc, A2, c2, HRB2.out, rfl, hO.drop0 HB1.out.size⟩⟩
    | cons x r =>
      have HAG := Lib.hid (rNext_agrees x r)
      have htr := pow10_stays HT.out (HB1.out.trans (hbr.mono HB1.out.size)) (Nat.le_refl _)
      have hcall := rnext_any A1 _ c1 x r wr (hS.more hzr) hwl htr
      obtain ⟨q, hq⟩ : ∃ q, rNext (x :: r) = q := ⟨_, rfl⟩
      rw [hq] at HAG hcall
      obtain ⟨⟨qk, qtu, qgr, qlo, qch, qton, qme, qsi, qwa, qar⟩, qn⟩ := q
      have HSW := Lib.hid hS
      have HOW := Lib.hid hO
      have HBR := Lib.hid hbr
      have HWL := Lib.hid hwl
      have HRB2 := Lib.hid hrb
      have HAL := Lib.hid hal
      have hwn : 0 < (x :: r).length := by simp
      have hwlen : (x :: r).length ≤ 100001 := by omega
      obtain ⟨N, hN⟩ : ∃ N, N = (x :: r).length := ⟨_, rfl⟩
      rw [← hN] at hc1 hcall hwn hwlen ⊢
      have HN := Lib.hid hN
      clear hq hS hO hbr hwl hrb hal htr hN
      go_wp2_with fail
      refine hcall.mono ?_
      rintro e w2 ⟨rfl, hb2⟩
      clear hcall
      have HB2 := Lib.hid hb2
      clear hb2
      unfold nA
      dsimp only
      rcases HAG.out with ⟨hp, hz⟩ | ⟨nn, k, hp, hz, hk0, hkl⟩
      · injection hz with hz1 hz2
        subst hz2
        have HNO : Hid (readB s = none) := by show _ = _; rw [HRB2.out, pAll_none (by simp) hp]; rfl
        clear hp hz1
        go_wp2_with fail
        go_ret2
        exact ⟨((HB1.out.trans (HBR.out.mono HB1.out.size)).trans (HB2.out.mono (Nat.le_trans HB1.out.size HBR.out.size))).alloc (Nat.le_trans (Nat.le_trans HB1.out.size HBR.out.size) HB2.out.size) _, .inl ⟨HNO.out, rfl⟩⟩
      · injection hz with hz1 hz2
        subst hz2
        have HPS : Hid (readB s = (pAll ((x :: r).drop qn)).map ((acc ++ [nn]) ++ ·)) := by
          show _ = _
          rw [HRB2.out, pAll_some hp]
          simp [Option.map_map, Function.comp_def]
        rw [← HN.out] at hkl
        have HNN := Lib.hid hz1
        have g0 : ((qn : Int) == 0) = false := by simp; omega
        have g1 : decide ((N : Int) < (qn : Int)) = false := by simp; omega
        have hsl := fun W : World => run_tailW W A1 N c1 qn hkl
        clear hp hz1
        have g1N : decide (N < qn) = false := by simp; omega
        have hz2 : w1.heap.size ≤ w2.heap.size := Nat.le_trans HBR.out.size HB2.out.size
        have HB3 : Hid (Below w1.heap.size w1 ((w2.alloc (.cells #[.int .i64 qk, .int .i64 qtu, .int .i64 qgr, .int .i64 qlo, .int .i64 qch, .int .i64 qton, .int .i64 qme, .int .i64 qsi, .int .i64 qwa, .int .i64 qar] 36)).alloc (.cells #[.int .i64 qk, .int .i64 qtu, .int .i64 qgr, .int .i64 qlo, .int .i64 qch, .int .i64 qton, .int .i64 qme, .int .i64 qsi, .int .i64 qwa, .int .i64 qar] 36))) := ((HBR.out.trans (HB2.out.mono HBR.out.size)).alloc hz2 _).alloc (by simp; omega) _
        have HS3 : Hid (SL tC 1 ((w2.alloc (.cells #[.int .i64 qk, .int .i64 qtu, .int .i64 qgr, .int .i64 qlo, .int .i64 qch, .int .i64 qton, .int .i64 qme, .int .i64 qsi, .int .i64 qwa, .int .i64 qar] 36)).alloc (.cells #[.int .i64 qk, .int .i64 qtu, .int .i64 qgr, .int .i64 qlo, .int .i64 qch, .int .i64 qton, .int .i64 qme, .int .i64 qsi, .int .i64 qwa, .int .i64 qar] 36)) w1.heap.size (tailW A1 c1 qn) (N - qn) ((x :: r).drop qn)) := by
          show SL _ _ _ _ _ _ _
          have h1 := HSW.out
          rw [← HN.out] at h1
          exact (((h1.below (HB2.out.mono HBR.out.size)).below ((Below.refl _ _).alloc hz2 _)).below ((Below.refl _ _).alloc (by simp; omega) _)).tailW hc1 hkl
        have hal9 : acc.length ≤ 100001 := by have := HAL.out; omega
        go_wp2_with (at_builtin; refine wpList_app rfl _ _ 23 rfl w1.heap.size 36 _ 10 80 Tryz.underlying23 infoN rfl (by decide) nC A2 acc.length c2 _ rfl (((HOW.out.call HB2.out).alloc _).alloc _) ⟨qk, qtu, qgr, qlo, qch, qton, qme, qsi, qwa, qar⟩ #[.int .i64 qk, .int .i64 qtu, .int .i64 qgr, .int .i64 qlo, .int .i64 qch, .int .i64 qton, .int .i64 qme, .int .i64 qsi, .int .i64 qwa, .int .i64 qar] rfl rfl 36 (w2.heap.size + 1) rfl (bk2 _ _ _ _ _) (by simp [nC, Value.oneCell']) (by omega) (by omega) (by simp; omega) ?_; intro g' c9 w8 hap; have HAP := Lib.hid hap; clear hap)
        have hbN := HB3.out.trans HAP.out.bel
        have HSN : Hid (SL tC 1 w8 w1.heap.size (tailW A1 c1 qn) (N - qn) ((x :: r).drop qn)) := HS3.out.below HAP.out.bel
        go_roundw
        case rel => exact ⟨(x :: r).drop qn, tailW A1 c1 qn, c1 - qn, acc ++ [⟨qk, qtu, qgr, qlo, qch, qton, qme, qsi, qwa, qar⟩], some ⟨g', 0, none⟩, c9, by rw [List.length_drop, ← HN.out], by simp, by rw [List.length_drop, ← HN.out]; omega, by rw [List.length_drop, ← HN.out]; exact HSN.out, by rw [List.length_append]; exact HAP.out.own, by have := HAL.out; rw [List.length_drop, List.length_append, ← HN.out]; rw [← HN.out] at this; simp; omega, fun y hy => HWL.out y (List.mem_of_mem_drop hy), by rw [HPS.out, HNN.out], hbN⟩
        case measure => simp [lenV]; omega
end Go.Proofs.YtnmipejpjeakbaaGreatDoor
