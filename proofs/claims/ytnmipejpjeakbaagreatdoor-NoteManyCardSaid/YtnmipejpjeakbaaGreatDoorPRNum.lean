/- The document's numbers and words: number, word, words. -/
import Derived.Test.YtnmipejpjeakbaaGreatDoorPRRdP
import Derived.Test.YtnmipejpjeakbaaGreatDoorPNList
import Derived.Test.YtnmipejpjeakbaaGreatDoorPNRead1
import Derived.Test.YtnmipejpjeakbaaGreatDoorPDReg
import Derived.Test.YtnmipejpjeakbaaGreatDoorPCBase
import Derived.Test.YtnmipejpjeakbaaGreatDoorPCRoad
import Derived.Test.YtnmipejpjeakbaaGreatDoorPCIter
import Derived.Test.YtnmipejpjeakbaaGreatDoorPCCheck
import Derived.Test.YtnmipejpjeakbaaGreatDoorPCReg
import Derived.Test.YtnmipejpjeakbaaGreatDoorPCGrouped
import Derived.Test.YtnmipejpjeakbaaGreatDoorPCAppS
import Derived.Test.YtnmipejpjeakbaaGreatDoorPCCorn
import Derived.Test.YtnmipejpjeakbaaGreatDoorPCReg8
namespace Go.Proofs.YtnmipejpjeakbaaGreatDoor
open Go.RowKit Go.Shelf Go.Sort Go.Proofs

theorem rnbs_idx (t : Wd) (p : Nat) (h : p < t.length) (w : World) : (Instr.index 9 (.string (nbs t)) (.int .i64 (p : Nat))).run Tryz.prog w = .ok (.int .u8 t[p].toNat) w := by
  rw [run_index_string w 9 (nbs t) .i64 (p : Nat) Tryz.underlying9, dif_pos ⟨by omega, by rw [nbs_size]; omega⟩]
  rfl
theorem rnbs_ne (x v : Wd) : ((nbs x).toList == (nbs v).toList) = decide (x = v) := by rw [ByteArray.toList_eq, ByteArray.toList_eq]; by_cases h : x = v <;> simp [nbs, h]
theorem rnum_bad {t : Wd} (h : t.all digB = false) : rnum t = 0 := by
  unfold rnum numB
  rw [h]
  simp
theorem rnum_long {t : Wd} (h : 4 < t.length) : rnum t = 0 := by
  unfold rnum numB
  have : decide (t.length ≤ 4) = false := by simp; omega
  rw [this]
  simp
theorem rnum_eq {t : Wd} (hd : t.all digB = true) (hl : t.length ≤ 4) (h : Lib.itoa (numV t) = t) : rnum t = numV t := by
  have h0 := numV_bd 4 t hd hl (by omega)
  by_cases h1 : 1 ≤ numV t
  · have := numB_itoa h1 (by omega)
    rw [h] at this
    exact rnum_some this
  · have e : numV t = 0 := by omega
    rw [e] at h ⊢
    rw [← h]
    show rnum (Lib.itoa ((0 : Nat) : Int)) = 0
    rw [Lib.itoa_nonneg, Lib.decDigits, dif_pos (by decide)]
    decide
theorem rnum_neq {t : Wd} (h : Lib.itoa (numV t) ≠ t) : rnum t = 0 := by
  unfold rnum
  cases hn : numB t with
  | none => rfl
  | some g =>
    obtain ⟨h1, -, -, h2⟩ := numB_some hn
    exact absurd (by rw [← h2, ← h1]) h
set_option maxRecDepth 100000 in
set_option maxHeartbeats 4000000 in
theorem rnum_any (t : Wd) (hl : t.length ≤ 1000000) (w : World) (ht : Lib.TabIs Tryz.prog w pow10N .u64 Lib.pow10Tab) :
    Calls Tryz.prog 82 #[.string (nbs t)] w fun e w' => e = .returned (.int .i64 (rnum t)) ∧ Below w.heap.size w w' := by
  have hsz : ((nbs t).size : Int) = (t.length : Int) := by rw [nbs_size]
  go_enter Tryz.func82, Tryz.ntmps82
  go_wp2_with fail
  go_loopw [3, 4] (fun nn ii wr => ∃ p : Nat, p ≤ t.length ∧ p ≤ 4 ∧ (t.take p).all digB = true ∧ nn = .int .i64 (numV (t.take p)) ∧ ii = .int .i64 (p : Nat) ∧ wr = w)
    (fun _ ii _ => t.length - (intOf ii).toNat)
  case atStart => exact ⟨0, by omega, by omega, by simp, rfl, rfl, rfl⟩
  case round =>
    obtain ⟨p, hp, hp4, hd, rfl, rfl, rfl⟩ := hrel
    by_cases hlt : p < t.length
    · have hix := rnbs_idx t p hlt
      have hv := numV_bd 4 (t.take p) hd (by simp; omega) (by omega)
      have hget := List.getElem?_eq_getElem hlt
      have hs := numV_take_succ t p _ hget
      have hbN : t[p].toNat < 256 := t[p].toNat_lt
      have HALL := Lib.hid (fun h : digB t[p] = false => all_false_of digB t p hlt h)
      have HDG := Lib.hid (fun h : digB t[p] = true => take_digs t p _ hget hd h)
      generalize t[p] = b at *
      by_cases hb : digB b = true
      · obtain ⟨hb1, hb2⟩ := (digB_iff b).1 hb
        have g1 : decide ((b.toNat : Int) < 48) = false := by simp; omega
        have g2 : decide ((57 : Int) < (b.toNat : Int)) = false := by simp; omega
        have HD2 := Lib.hid (HDG.out hb)
        clear hb HDG HALL hd
        by_cases h3 : 3 < p
        · have HR : Hid (rnum t = 0) := rnum_long (by omega)
          have g3 : decide ((3 : Int) < (p : Int)) = true := by simp; omega
          go_wp2_with fail
          go_ret
          exact ⟨by rw [HR.out]; rfl, Below.refl _ _⟩
        · have g3 : decide ((3 : Int) < (p : Int)) = false := by simp; omega
          have HS := Lib.hid hs
          generalize numV (t.take p) = v at *
          go_wp2_with fail
          go_roundw
          case rel => exact ⟨p + 1, by omega, by omega, HD2.out, by rw [HS.out]; congr 1; omega, by go_num, trivial⟩
          case measure => simp [intOf]; omega
      · have hR0 : rnum t = 0 := rnum_bad (HALL.out (by simpa using hb))
        have HR := Lib.hid hR0
        have hb' : b.toNat < 48 ∨ 57 < b.toNat := by have := mt (digB_iff b).2 hb; omega
        clear hb HDG HALL hd hR0
        rcases hb' with hb' | hb'
        · have g1 : decide ((b.toNat : Int) < 48) = true := by simp; omega
          go_wp2_with fail
          go_ret
          exact ⟨by rw [HR.out]; rfl, Below.refl _ _⟩
        · have g1 : decide ((b.toNat : Int) < 48) = false := by simp; omega
          have g2 : decide ((57 : Int) < (b.toNat : Int)) = true := by simp; omega
          go_wp2_with fail
          go_ret
          exact ⟨by rw [HR.out]; rfl, Below.refl _ _⟩
    · obtain rfl : t.length = p := by omega
      rw [List.take_length] at hd ⊢
      have hv := numV_bd 4 t hd hp4 (by omega)
      by_cases he : Lib.itoa (numV t) = t
      · have HR := Lib.hid (rnum_eq hd hp4 he)
        have g1 : ((nbs (Lib.itoa (numV t))).toList == (nbs t).toList) = true := by rw [rnbs_ne]; simpa using he
        clear he hd
        generalize numV t = V at *
        go_wp2_with (go_at_call 86; refine (itoa_meters V (by omega) (by omega) _ ht).mono ?_; rintro e w' ⟨rfl, hb⟩)
        go_ret
        exact ⟨by rw [HR.out]; rfl, hb⟩
      · have HR := Lib.hid (rnum_neq he)
        have g1 : ((nbs (Lib.itoa (numV t))).toList == (nbs t).toList) = false := by rw [rnbs_ne]; simpa using he
        clear he hd
        generalize numV t = V at *
        go_wp2_with (go_at_call 86; refine (itoa_meters V (by omega) (by omega) _ ht).mono ?_; rintro e w' ⟨rfl, hb⟩)
        go_ret
        exact ⟨by rw [HR.out]; rfl, hb⟩
theorem WS.at_ {w : World} {B n : Nat} {A : Option Addr} {xs : List Wd} (h : SL tC 1 w B A n xs) {k : Nat} (hk : k < xs.length) : ∃ b off, A = some ⟨b, off, none⟩ ∧ b < B ∧
    w.cell? ⟨b, off + k, none⟩ = some (.string (nbs xs[k])) := by
  obtain ⟨b, off, e, hb, hc⟩ := h.at_ hk
  exact ⟨b, off, e, hb, by simpa using hc 0 _ rfl⟩
set_option maxRecDepth 100000 in
theorem rword_any (A : Option Addr) (n c : Nat) (xs : List Wd) (i : Nat) (w : World) (h : SL tC 1 w w.heap.size A n xs) :
    Calls Tryz.prog 83 #[.slice A n c, .int .i64 (i : Nat)] w fun e w' => e = .returned (.string (nbs (wrd xs i))) ∧ w = w' := by
  have hl := h.1
  by_cases hi : i < xs.length
  · obtain ⟨b, off, hA, hbB, c0⟩ := WS.at_ h hi
    have hW : wrd xs i = xs[i] := by simp [wrd, List.getElem?_eq_getElem hi]
    have hin : i < n := by omega
    rw [hW]
    subst hA
    generalize xs[i] = x at *
    clear h hW hl hi
    go_enter Tryz.func83, Tryz.ntmps83
    go_wp2_with fail
    go_ret
    exact ⟨rfl, rfl⟩
  · have hW : wrd xs i = [] := by simp [wrd, List.getElem?_eq_none (Nat.le_of_not_lt hi)]
    have hin : ¬ i < n := by omega
    rw [hW]
    clear h hW hl hi
    go_enter Tryz.func83, Tryz.ntmps83
    go_wp2_with fail
    go_ret
    exact ⟨rfl, rfl⟩
end Go.Proofs.YtnmipejpjeakbaaGreatDoor

/- The document's words of a text. -/
namespace Go.Proofs.YtnmipejpjeakbaaGreatDoor
open Go.RowKit Go.Shelf Go.Sort Go.Proofs

theorem run_strsub (s : Wd) (f p : Nat) (hf : f ≤ p) (hp : p ≤ s.length) (w : World) : (Instr.slice 9 (.string (nbs s)) (some (.int .i64 (f : Nat))) (some (.int .i64 (p : Nat))) none).run Tryz.prog w = .ok (.string (nbs ((s.take p).drop f))) w := by
  rw [run_slice_string w 9 (nbs s) .i64 .i64 (f : Nat) (p : Nat) Tryz.underlying9 (by omega) (by omega) (by rw [nbs_size]; omega)]
  refine congrArg (fun s => Result.ok (Value.string s) w) (ByteArray.ext ?_)
  rw [ByteArray.data_extract]
  apply Array.ext'
  simp [nbs, List.drop_take]
/-- Where the words of a text stand: some are cut off, the next one begins at f. -/
structure WSt (s : Wd) (ws : List Wd) (f p : Nat) : Prop where
  fp : f ≤ p
  pl : p ≤ s.length
  sp : splitB s = ws ++ splitB (s.drop f)
  nb : 32 ∉ (s.take p).drop f
  lw : ws.length ≤ p
theorem WSt.start (s : Wd) : WSt s [] 0 0 := ⟨by omega, by omega, rfl, by simp, by simp⟩
theorem drop_take_succ (s : Wd) (f p : Nat) (hf : f ≤ p) (hp : p < s.length) : (s.take (p + 1)).drop f = (s.take p).drop f ++ [s[p]] := by
  rw [List.take_add_one, List.getElem?_eq_getElem hp, List.drop_append_of_le_length (by simp; omega)]
  rfl
theorem drop_cut (s : Wd) (f p : Nat) (hf : f ≤ p) (hp : p < s.length) : s.drop f = (s.take p).drop f ++ s[p] :: s.drop (p + 1) := by
  conv => lhs; rw [← List.take_append_drop p s]
  rw [List.drop_append_of_le_length (by simp; omega), List.drop_eq_getElem_cons hp]
theorem WSt.go {s : Wd} {ws : List Wd} {f p : Nat} (h : WSt s ws f p) (hp : p < s.length) (hb : s[p] ≠ 32) : WSt s ws f (p + 1) :=
  ⟨by have := h.fp; omega, by omega, h.sp, by
    rw [drop_take_succ s f p h.fp hp]
    simp only [List.mem_append, List.mem_singleton, not_or]
    exact ⟨h.nb, fun e => hb e.symm⟩, by have := h.lw; omega⟩
theorem WSt.cut {s : Wd} {ws : List Wd} {f p : Nat} (h : WSt s ws f p) (hp : p < s.length) (hb : s[p] = 32) : WSt s (ws ++ [(s.take p).drop f]) (p + 1) (p + 1) :=
  ⟨by omega, by omega, by
    rw [h.sp, drop_cut s f p h.fp hp, hb, splitB_app _ _ h.nb]
    simp, by simp, by have := h.lw; simp; omega⟩
theorem WSt.last {s : Wd} {ws : List Wd} {f : Nat} (h : WSt s ws f s.length) : splitB s = ws ++ [(s.take s.length).drop f] := by
  have := h.nb
  rw [h.sp]
  rw [List.take_length] at this ⊢
  rw [splitB_word _ this]
set_option maxRecDepth 100000 in
set_option maxHeartbeats 4000000 in
theorem rwords_any (s : Wd) (hl : s.length ≤ 100000) (w : World) :
    Calls Tryz.prog 45 #[.string (nbs s)] w fun e w' => ∃ A c, e = .returned (.slice A (splitB s).length c) ∧ OW tC 1 9 w.heap.size w' A (splitB s).length c (splitB s) ∧ Below w.heap.size w w' := by
  have hsz : ((nbs s).size : Int) = (s.length : Int) := by rw [nbs_size]
  go_enter Tryz.func45, Tryz.ntmps45
  go_wp2_with fail
  go_loopw [3, 4, 5] (fun oo ff ii wr => ∃ (p : Nat) (ws : List Wd) (A : Option Addr) (c f : Nat), ii = .int .i64 (p : Nat) ∧ ff = .int .i64 (f : Nat) ∧ oo = .slice A ws.length c ∧ OW tC 1 9 w.heap.size wr A ws.length c ws ∧ Below w.heap.size w wr ∧ (WSt s ws f p ∨ (p = s.length + 1 ∧ splitB s = ws)))
    (fun _ _ ii _ => s.length + 1 - (intOf ii).toNat)
  case atStart => exact ⟨0, [], none, 0, 0, rfl, rfl, rfl, OW.nil_, Below.refl _ _, .inl (WSt.start s)⟩
  case round =>
    obtain ⟨p, ws, A, c, f, rfl, rfl, rfl, hO, hbr, hW⟩ := hrel
    rcases hW with hW | ⟨rfl, hfin⟩
    · have hfp := hW.fp
      have hpl := hW.pl
      have hlw := hW.lw
      have hzr := hbr.size
      have hsub := run_strsub s f p hfp hpl
      have hcap := hO.cap
      by_cases hlt : p < s.length
      · have hix := rnbs_idx s p hlt
        have gp : ((p : Int) == (s.length : Int)) = false := by simp; omega
        have gpN : (p == s.length) = false := by simp; omega
        have HC := Lib.hid (fun h : s[p] = 32 => hW.cut hlt h)
        have HG := Lib.hid (fun h : s[p] ≠ 32 => hW.go hlt h)
        generalize s[p] = b at *
        generalize (s.take p).drop f = x at *
        by_cases hb : b = 32
        · have HW2 := Lib.hid (HC.out hb)
          subst hb
          have g1 : (((32 : UInt8).toNat : Int) == 32) = true := rfl
          clear HC HG hW
          go_wp2_with (at_builtin; refine wpList_app rfl _ _ 91 rfl w.heap.size 9 _ 1 16 Tryz.underlying91 infoT rfl (by decide) tC A ws.length c _ rfl (hO.alloc _) x #[.string (nbs x)] rfl rfl 9 wr.heap.size rfl (BK.new wr _ _) (by simp [tC, Value.oneCell']) (by omega) (by omega) (by simp; omega) ?_; intro g' c9 w8 hap; have HAP := Lib.hid hap; clear hap)
          have hbN := (hbr.alloc (by omega) (.cells #[.string (nbs x)] 9)).trans HAP.out.bel
          go_roundw
          case rel => exact ⟨p + 1, ws ++ [x], some ⟨g', 0, none⟩, c9, p + 1, by go_num, by go_num, by simp, by rw [List.length_append]; exact HAP.out.own, hbN, .inl HW2.out⟩
          case measure => simp [intOf]; omega
        · have HW2 := Lib.hid (HG.out hb)
          have g1 : ((b.toNat : Int) == 32) = false := by
            simp only [beq_eq_false_iff_ne, ne_eq]
            intro hh
            exact hb (UInt8.toNat_inj.1 (by show b.toNat = 32; omega))
          clear HC HG hW hb
          go_wp2_with fail
          go_roundw
          case rel => exact ⟨p + 1, ws, A, c, f, by go_num, rfl, rfl, hO, hbr, .inl HW2.out⟩
          case measure => simp [intOf]; omega
      · obtain rfl : s.length = p := by omega
        have HF := Lib.hid hW.last
        generalize (s.take s.length).drop f = x at *
        clear hW
        go_wp2_with (at_builtin; refine wpList_app rfl _ _ 91 rfl w.heap.size 9 _ 1 16 Tryz.underlying91 infoT rfl (by decide) tC A ws.length c _ rfl (hO.alloc _) x #[.string (nbs x)] rfl rfl 9 wr.heap.size rfl (BK.new wr _ _) (by simp [tC, Value.oneCell']) (by omega) (by omega) (by simp; omega) ?_; intro g' c9 w8 hap; have HAP := Lib.hid hap; clear hap)
        have hbN := (hbr.alloc (by omega) (.cells #[.string (nbs x)] 9)).trans HAP.out.bel
        go_roundw
        case rel => exact ⟨s.length + 1, ws ++ [x], some ⟨g', 0, none⟩, c9, s.length + 1, by go_num, by go_num, by simp, by rw [List.length_append]; exact HAP.out.own, hbN, .inr ⟨rfl, HF.out⟩⟩
        case measure => simp [intOf]
    · have HF := Lib.hid hfin
      clear hfin
      go_wp2_with fail
      go_ret
      exact ⟨A, c, by rw [HF.out]; rfl, by rw [HF.out]; exact hO, hbr⟩
end Go.Proofs.YtnmipejpjeakbaaGreatDoor
