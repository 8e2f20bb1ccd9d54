/- Notes read from a text, plain: words, numbers, notes. -/
import Derived.Test.YtogkmnopggmdjaaGreatDoorPNoteP
import Derived.Test.YtogkmnopggmdjaaGreatDoorPNoteV
import Derived.Test.YtogkmnopggmdjaaGreatDoorPOrdM
import Derived.Laws.RangeAny
import Derived.WalkLawsBesides
import Derived.Deep.AppendLies
import Derived.Maps.OwnSet
import Derived.StringKeys
namespace Go.Proofs.YtogkmnopggmdjaaGreatDoor
open Go.Lib
abbrev Wd := List UInt8
end Go.Proofs.YtogkmnopggmdjaaGreatDoor

/- Lists of notes: the program's listed and Write. -/
namespace Go.Proofs.YtogkmnopggmdjaaGreatDoor
open Go.RowKit Go.Shelf Go.Sort Go.Proofs

def nC (n : NoteR) : List Value := [.int .i64 n.k, .int .i64 n.tu, .int .i64 n.gr, .int .i64 n.lo, .int .i64 n.ch, .int .i64 n.ton, .int .i64 n.me, .int .i64 n.si, .int .i64 n.wa, .int .i64 n.ar]
theorem nC_len (n : NoteR) : (nC n).length = 10 := rfl
def nA (n : NoteR) : Value := .agg #[.int .i64 n.k, .int .i64 n.tu, .int .i64 n.gr, .int .i64 n.lo, .int .i64 n.ch, .int .i64 n.ton, .int .i64 n.me, .int .i64 n.si, .int .i64 n.wa, .int .i64 n.ar]
theorem NS.at_ {w : World} {B n : Nat} {A : Option Addr} {xs : List NoteR} (h : SL nC 10 w B A n xs) {k : Nat} (hk : k < xs.length) : ∃ b off, A = some ⟨b, off, none⟩ ∧ b < B ∧
    w.cell? ⟨b, off + k * 10, none⟩ = some (.int .i64 xs[k].k) ∧ w.cell? ⟨b, off + k * 10 + 1, none⟩ = some (.int .i64 xs[k].tu) ∧ w.cell? ⟨b, off + k * 10 + 2, none⟩ = some (.int .i64 xs[k].gr) ∧ w.cell? ⟨b, off + k * 10 + 3, none⟩ = some (.int .i64 xs[k].lo) ∧ w.cell? ⟨b, off + k * 10 + 4, none⟩ = some (.int .i64 xs[k].ch) ∧ w.cell? ⟨b, off + k * 10 + 5, none⟩ = some (.int .i64 xs[k].ton) ∧ w.cell? ⟨b, off + k * 10 + 6, none⟩ = some (.int .i64 xs[k].me) ∧ w.cell? ⟨b, off + k * 10 + 7, none⟩ = some (.int .i64 xs[k].si) ∧ w.cell? ⟨b, off + k * 10 + 8, none⟩ = some (.int .i64 xs[k].wa) ∧ w.cell? ⟨b, off + k * 10 + 9, none⟩ = some (.int .i64 xs[k].ar) := by
  obtain ⟨b, off, e, hb, hc⟩ := h.at_ hk
  exact ⟨b, off, e, hb, hc 0 _ rfl, hc 1 _ rfl, hc 2 _ rfl, hc 3 _ rfl, hc 4 _ rfl, hc 5 _ rfl, hc 6 _ rfl, hc 7 _ rfl, hc 8 _ rfl, hc 9 _ rfl⟩
def tC (l : List UInt8) : List Value := [.string (nbs l)]
theorem tC_len (l : List UInt8) : (tC l).length = 1 := rfl
theorem infoT : (Tryz.prog.info? 9).map (fun i => (i.zero, i.size, i.bytes)) = some (some (.string (nbs [])), 1, 16) := by kernel_rfl
theorem OW.cap {α : Type} {f : α → List Value} {sz : Nat} {e : TypeId} {base : Nat} {w : World} {A : Option Addr} {n c : Nat} {xs : List α} (h : OW f sz e base w A n c xs) : n ≤ c := by
  rcases h.1.2 with ⟨_, h4⟩ | ⟨b, cap, cur, h3, _, _, hn, _⟩
  · omega
  · injection h3 with _ _ h5
    subst h5
    exact hn
theorem all_take_succ {α : Type} (p : α → Bool) (xs : List α) (k : Nat) (hk : k < xs.length) : (xs.take (k + 1)).all p = ((xs.take k).all p && p xs[k]) := by
  rw [List.take_add_one, List.getElem?_eq_getElem hk, List.all_append]
  simp
theorem all_false_of {α : Type} (p : α → Bool) (xs : List α) (k : Nat) (hk : k < xs.length) (h : p xs[k] = false) : xs.all p = false :=
  List.all_eq_false.2 ⟨xs[k], List.getElem_mem hk, by rw [h]; decide⟩
/-- The error of a list of notes. -/
def nLE (xs : List NoteR) : Int := if 2000 < xs.length then 4 else if xs.all nVal then 0 else 2
/-- The text of a list of notes. -/
def nJoin (xs : List NoteR) : List UInt8 := Lib.join (xs.map nTxt) [32]
theorem nlisted1_any (x : NoteR) (w : World) :
    Calls Tryz.prog 94 #[nA x] w fun e w' => e = .returned (.bool (!nVal x)) ∧ Below w.heap.size w w' := by
  obtain ⟨k, tu, gr, lo, ch, ton, me, si, wa, ar⟩ := x
  have hb := (Below.refl w.heap.size w).alloc (Nat.le_refl _) (.cells #[.int .i64 k, .int .i64 tu, .int .i64 gr, .int .i64 lo, .int .i64 ch, .int .i64 ton, .int .i64 me, .int .i64 si, .int .i64 wa, .int .i64 ar] 54)
  have hv := nvalid_any k tu gr lo ch ton me si wa ar (w.alloc (.cells #[.int .i64 k, .int .i64 tu, .int .i64 gr, .int .i64 lo, .int .i64 ch, .int .i64 ton, .int .i64 me, .int .i64 si, .int .i64 wa, .int .i64 ar] 54))
  unfold nA
  go_enter Tryz.func94, Tryz.ntmps94
  go_wp2_with fail
  refine hv.mono ?_
  rintro e w' ⟨rfl, hb'⟩
  go_wp2_with fail
  go_ret
  exact ⟨rfl, hb.trans (hb'.mono (by simp))⟩
theorem nidxf_any (A : Option Addr) (n c : Nat) (xs : List NoteR) (w : World) (h : SL nC 10 w w.heap.size A n xs) (hn : n ≤ 2000) :
    Calls Tryz.prog 108 #[.slice A n c, .func (.func 94) #[] #[]] w fun e w' => ∃ i : Int, e = .returned (.int .i64 i) ∧ (xs.all nVal = true → i = -1) ∧ (xs.all nVal = false → 0 ≤ i) ∧ Below w.heap.size w w' := by
  have HK := nlisted1_any
  unfold nA at HK
  have HL := Lib.hid h.1
  have HS := Lib.hid h
  clear h
  go_enter Tryz.func108, Tryz.ntmps108
  go_wp2_with fail
  go_loopw [8] (fun i wr => ∃ k : Nat, k ≤ n ∧ i = .int .i64 k ∧ (xs.take k).all nVal = true ∧ Below w.heap.size w wr)
    (fun i _ => n - (intOf i).toNat)
  case atStart => exact ⟨0, Nat.zero_le _, rfl, by simp, Below.refl _ _⟩
  case round =>
    obtain ⟨k, hk1, rfl, hal, hbr⟩ := hrel
    have HAL := Lib.hid hal
    clear hal
    by_cases hlt : k < n
    · have hkl : k < xs.length := by rw [← HL.out]; exact hlt
      obtain ⟨b, off, hA, hbB, c0, c1, c2, c3, c4, c5, c6, c7, c8, c9⟩ := NS.at_ (HS.out.below hbr) hkl
      have HX : Hid (nVal (xs[k]'hkl) = nVal xs[k]) := rfl
      have HT := Lib.hid (all_take_succ nVal xs k hkl)
      have HF := Lib.hid (all_false_of nVal xs k hkl)
      generalize xs[k]'hkl = x at *
      subst hA
      have gk : decide ((k : Int) < (n : Int)) = true := decide_eq_true (by omega)
      have gkN : decide (k < n) = true := decide_eq_true hlt
      go_wp2_with fail
      refine (HK x _).mono ?_
      rintro e w' ⟨rfl, hb'⟩
      cases hv : nVal x with
      | false =>
        have hall := HF.out hv
        have HALL := Lib.hid hall
        clear hall hv
        go_wp2_with fail
        go_ret
        exact ⟨_, rfl, fun hh => absurd (hh.symm.trans HALL.out) (by decide), fun _ => by omega, hbr.trans (hb'.mono hbr.size)⟩
      | true =>
        have HV := Lib.hid hv
        clear hv
        go_wp2_with fail
        go_roundw
        case rel => exact ⟨k + 1, by omega, by go_num, by rw [HT.out, HAL.out, HV.out]; rfl, hbr.trans (hb'.mono hbr.size)⟩
        case measure => simp [intOf]; omega
    · obtain rfl : k = n := by omega
      have gk : decide ((k : Int) < (k : Int)) = false := decide_eq_false (by omega)
      have hall : xs.all nVal = true := by have := HAL.out; rwa [HL.out, List.take_length] at this
      have HALL := Lib.hid hall
      clear hall
      go_wp2_with fail
      go_ret
      exact ⟨-1, rfl, fun _ => rfl, fun hh => absurd (hh.symm.trans HALL.out) (by decide), hbr⟩
theorem ncontf_any (A : Option Addr) (n c : Nat) (xs : List NoteR) (w : World) (h : SL nC 10 w w.heap.size A n xs) (hn : n ≤ 2000) :
    Calls Tryz.prog 93 #[.slice A n c, .func (.func 94) #[] #[]] w fun e w' => e = .returned (.bool (!xs.all nVal)) ∧ Below w.heap.size w w' := by
  go_enter Tryz.func93, Tryz.ntmps93
  go_wp2_with fail
  refine (nidxf_any A n c xs w h hn).mono ?_
  rintro e w' ⟨i, rfl, h1, h2, hb'⟩
  cases hall : xs.all nVal with
  | true =>
    obtain rfl := h1 hall
    have HALL := Lib.hid hall
    clear h1 h2 hall
    go_wp2_with fail
    go_ret
    exact ⟨by rw [HALL.out]; rfl, hb'⟩
  | false =>
    have h0 := h2 hall
    have g0 : decide ((0 : Int) ≤ i) = true := decide_eq_true h0
    have HALL := Lib.hid hall
    clear h1 h2 hall h0
    go_wp2_with fail
    go_ret
    exact ⟨by rw [HALL.out]; rfl, hb'⟩
theorem nlisted_any (A : Option Addr) (n c : Nat) (xs : List NoteR) (w : World) (h : SL nC 10 w w.heap.size A n xs) :
    Calls Tryz.prog 79 #[.slice A n c] w fun e w' => e = .returned (.int .i64 (nLE xs)) ∧ Below w.heap.size w w' := by
  have HL := Lib.hid h.1
  by_cases hn : n ≤ 2000
  case neg =>
    have hE : Hid (nLE xs = 4) := by show _ = _; unfold nLE; rw [if_pos (by rw [← HL.out]; omega)]
    have g0 : decide ((2000 : Int) < (n : Int)) = true := decide_eq_true (by omega)
    clear hn h
    go_enter Tryz.func79, Tryz.ntmps79
    go_wp2_with fail
    go_ret
    exact ⟨by rw [hE.out]; rfl, Below.refl _ _⟩
  have g0 : decide ((2000 : Int) < (n : Int)) = false := decide_eq_false (by omega)
  have hcall := ncontf_any A n c xs w h hn
  clear h
  go_enter Tryz.func79, Tryz.ntmps79
  go_wp2_with fail
  refine hcall.mono ?_
  rintro e w' ⟨rfl, hb'⟩
  cases hall : xs.all nVal with
  | true =>
    have hE : Hid (nLE xs = 0) := by show _ = _; unfold nLE; rw [if_neg (by rw [← HL.out]; omega), hall]; rfl
    clear hall hcall
    go_wp2_with fail
    go_ret
    exact ⟨by rw [hE.out]; rfl, hb'⟩
  | false =>
    have hE : Hid (nLE xs = 2) := by show _ = _; unfold nLE; rw [if_neg (by rw [← HL.out]; omega), hall]; rfl
    clear hall hcall
    go_wp2_with fail
    go_ret
    exact ⟨by rw [hE.out]; rfl, hb'⟩
theorem join_cells (xs : List NoteR) : (((xs.map nTxt).map nbs).map (·.data.toList)) = xs.map nTxt := by
  rw [List.map_map]
  exact (List.map_congr_left fun a _ => by simp [nbs]).trans (List.map_id _)
theorem join_len (sep : List UInt8) : ∀ (xs : List (List UInt8)) (m : Nat), (∀ x ∈ xs, x.length ≤ m) → (Lib.join xs sep).length ≤ xs.length * (m + sep.length)
  | [], _, _ => by simp [Lib.join, List.intercalate]
  | [x], m, h => by
    have := h x (by simp)
    simp [Lib.join, List.intercalate]
    omega
  | x :: y :: r, m, h => by
    have h1 := h x (by simp)
    have h2 := join_len sep (y :: r) m (fun z hz => h z (List.mem_cons_of_mem _ hz))
    unfold Lib.join at h2 ⊢
    rw [List.intercalate_cons_cons]
    simp only [List.length_append, List.length_cons] at h2 ⊢
    rw [Nat.succ_mul]
    omega
theorem nTxt_len_valid (n : NoteR) (h : nVal n = true) : (nTxt n).length ≤ 80 := by
  refine len_nTxt n fun x hx => ?_
  obtain ⟨k, tu, gr, lo, ch, ton, me, si, wa, ar⟩ := n
  by_cases k1 : k = 1
  · subst k1; rw [nVal1] at h; simp at hx; omega
  by_cases k2 : k = 2
  · subst k2; rw [nVal2] at h; simp at hx; omega
  by_cases k3 : k = 3
  · subst k3; rw [nVal3] at h; simp at hx; omega
  by_cases k4 : k = 4
  · subst k4; rw [nVal4] at h; simp at hx; omega
  by_cases k5 : k = 5
  · subst k5; rw [nVal5] at h; simp at hx; omega
  by_cases k6 : k = 6
  · subst k6; rw [nVal6] at h; simp at hx; omega
  by_cases k7 : k = 7
  · subst k7; rw [nVal7] at h; simp at hx; omega
  exact absurd (h.symm.trans (nVal0 tu gr lo ch ton me si wa ar k k1 k2 k3 k4 k5 k6 k7)) (by decide)
theorem njoin_own (B : Nat) (A : Option Addr) (n c : Nat) (xs : List NoteR) (w : World) (h : OW tC 1 9 B w A n c (xs.map nTxt)) (hc : n ≤ c) (hn : n ≤ 2000) (hv : xs.all nVal = true) :
    Calls Tryz.prog 81 #[.slice A n c, .string (ByteArray.mk #[32])] w fun e w' => e = .returned (.string (nbs (nJoin xs))) ∧ Below w.heap.size w w' := by
  rcases A with _ | g
  · obtain ⟨rfl, rfl, hx⟩ := h.none_
    have hx : xs = [] := by simpa using hx
    subst hx
    exact (sh_strings_Join_none none 0 _ w).mono fun e w' ⟨he, hw⟩ => ⟨he, hw ▸ Below.refl _ _⟩
  obtain ⟨b, rfl, hb, -, -, hcell⟩ := h.at_ tC_len g rfl
  have hl : n = ((xs.map nTxt).map nbs).length := by rw [h.2]; simp
  subst hl
  have hj := sh_strings_Join b 0 c ((xs.map nTxt).map nbs) (ByteArray.mk #[32]) w (fun j x hx => by
      rw [List.getElem?_map] at hx
      obtain ⟨y, hy, rfl⟩ := Option.map_eq_some_iff.1 hx
      have := hcell j y hy 0 _ rfl
      simpa using this) hb (by omega) hc (by
      rw [join_cells]
      have := join_len [32] (xs.map nTxt) 80 (fun x hx => by
        obtain ⟨y, hy, rfl⟩ := List.mem_map.1 hx
        exact nTxt_len_valid y (List.all_eq_true.1 hv y hy))
      simp at this hn ⊢
      omega)
  rw [join_cells] at hj
  exact hj
def nWr (xs : List NoteR) : List UInt8 × Int := if nLE xs = 0 then (nJoin xs, 0) else ([], nLE xs)
set_option maxRecDepth 100000 in
set_option maxHeartbeats 8000000 in
theorem nwrite_any (A : Option Addr) (n c : Nat) (xs : List NoteR) (w : World) (h : SL nC 10 w w.heap.size A n xs) (ht : Lib.TabIs Tryz.prog w pow10N .u64 Lib.pow10Tab) :
    Calls Tryz.prog 64 #[.slice A n c] w fun e w' => e = .returned (.tuple #[.string (nbs (nWr xs).1), .int .i64 (nWr xs).2]) ∧ Below w.heap.size w w' := by
  have HL := Lib.hid h.1
  have HS := Lib.hid h
  have hcall := nlisted_any A n c xs w h
  clear h
  go_enter Tryz.func64, Tryz.ntmps64
  go_wp2_with fail
  refine hcall.mono ?_
  rintro e w1 ⟨rfl, hB1⟩
  clear hcall
  have ht1 := pow10_stays ht hB1 (Nat.le_refl _)
  have HS1 := Lib.hid (HS.out.grow hB1 hB1.size)
  clear ht HS
  by_cases hE : nLE xs = 0
  case neg =>
    have hW : Hid (nWr xs = ([], nLE xs)) := by show _ = _; unfold nWr; rw [if_neg hE]
    generalize nLE xs = er at hE hW
    have g0 : (er != 0) = true := by simpa using hE
    have g1 : (er == 0) = false := by simpa using hE
    clear hE
    go_wp2_with fail
    go_ret2
    exact ⟨by rw [hW.out]; rfl, hB1⟩
  have hW : Hid (nWr xs = (nJoin xs, 0)) := by show _ = _; unfold nWr; rw [if_pos hE]
  have hq0 : 2000 < xs.length ∨ xs.all nVal = true ∧ n ≤ 2000 := by
    unfold nLE at hE
    split at hE
    · cases hE
    · split at hE
      · rename_i hh; exact .inr ⟨hh, by rw [HL.out]; omega⟩
      · cases hE
  have hq : xs.all nVal = true ∧ n ≤ 2000 := by
    rcases hq0 with hq | hq
    · unfold nLE at hE; rw [if_pos hq] at hE; cases hE
    · exact hq
  have hn := hq.2
  have HV := Lib.hid hq.1
  rw [hE]
  clear hq0 hq hE
  go_wp2_with fail
  have hz1 := hB1.size
  go_loopw [5, 15] (fun oo ii wr => ∃ (k : Nat) (A' : Option Addr) (c' : Nat), k ≤ n ∧ ii = .int .i64 k ∧ oo = .slice A' k c' ∧ OW tC 1 9 w1.heap.size wr A' k c' ((xs.take k).map nTxt) ∧ Below w1.heap.size w1 wr)
    (fun _ ii _ => n - (intOf ii).toNat)
  case atStart => exact ⟨0, none, 0, Nat.zero_le _, rfl, rfl, OW.nil_, Below.refl _ _⟩
  case round =>
    obtain ⟨k, A', c', hk1, rfl, rfl, hO, hbr⟩ := hrel
    have hzr := hbr.size
    by_cases hlt : k < n
    · have hkl : k < xs.length := by rw [← HL.out]; exact hlt
      obtain ⟨b, off, hA, hbB, c0, c1, c2, c3, c4, c5, c6, c7, c8, c9⟩ := NS.at_ (HS1.out.below hbr) hkl
      have HVX := Lib.hid (List.all_eq_true.1 HV.out xs[k] (List.getElem_mem hkl))
      have HT : Hid ((xs.take (k + 1)).map nTxt = (xs.take k).map nTxt ++ [nTxt xs[k]]) := by
        show _ = _
        rw [List.take_add_one, List.getElem?_eq_getElem hkl, List.map_append]
        rfl
      generalize xs[k]'hkl = x at *
      obtain ⟨k0, tu0, gr0, lo0, ch0, ton0, me0, si0, wa0, ar0⟩ := x
      dsimp only at c0 c1 c2 c3 c4 c5 c6 c7 c8 c9
      subst hA
      have gk : decide ((k : Int) < (n : Int)) = true := decide_eq_true (by omega)
      have gkN : decide (k < n) = true := decide_eq_true hlt
      obtain ⟨wx, hwx⟩ : ∃ wx, wx = wr.alloc (.cells #[.int .i64 k0, .int .i64 tu0, .int .i64 gr0, .int .i64 lo0, .int .i64 ch0, .int .i64 ton0, .int .i64 me0, .int .i64 si0, .int .i64 wa0, .int .i64 ar0] 54) := ⟨_, rfl⟩
      have hbx : Below wr.heap.size wr wx := by rw [hwx]; exact (Below.refl _ _).alloc (Nat.le_refl _) _
      have hX : BK wx wr.heap.size 54 #[.int .i64 k0, .int .i64 tu0, .int .i64 gr0, .int .i64 lo0, .int .i64 ch0, .int .i64 ton0, .int .i64 me0, .int .i64 si0, .int .i64 wa0, .int .i64 ar0] := by rw [hwx]; exact BK.new wr _ _
      have hOx := hO.call hbx
      have hbx1 := hbr.trans (hbx.mono hzr)
      have htx := pow10_stays ht1 hbx1 (Nat.le_refl _)
      go_wp2_with fail
      rw [← hwx]
      clear c0 c1 c2 c3 c4 c5 c6 c7 c8 c9 hwx
      have x0 := hX.cell 0
      have x1 := hX.cell 1
      have x2 := hX.cell 2
      have x3 := hX.cell 3
      have x4 := hX.cell 4
      have x5 := hX.cell 5
      have x6 := hX.cell 6
      have x7 := hX.cell 7
      have x8 := hX.cell 8
      have x9 := hX.cell 9
      simp only [List.getElem?_toArray, List.getElem?_cons_zero, List.getElem?_cons_succ] at x0 x1 x2 x3 x4 x5 x6 x7 x8 x9
      go_wp2_with fail
      refine (ntext_any k0 tu0 gr0 lo0 ch0 ton0 me0 si0 wa0 ar0 HVX.out wx htx).mono ?_
      rintro e w2 ⟨rfl, hb2⟩
      have hO2 := hOx.call hb2
      have hbr2 := hbx1.trans (hb2.mono hbx1.size)
      have HTX : Hid (nTxt ⟨k0, tu0, gr0, lo0, ch0, ton0, me0, si0, wa0, ar0⟩ = nTxt ⟨k0, tu0, gr0, lo0, ch0, ton0, me0, si0, wa0, ar0⟩) := rfl
      generalize nTxt ⟨k0, tu0, gr0, lo0, ch0, ton0, me0, si0, wa0, ar0⟩ = tx at *
      have hz2 := hbr2.size
      have hNew : BK (w2.alloc (.cells #[.string (nbs tx)] 9)) w2.heap.size 9 #[.string (nbs tx)] := BK.new w2 _ _
      go_wp2_with (at_builtin; refine wpList_app rfl _ _ 160 rfl w1.heap.size 9 _ 1 16 Tryz.underlying160 infoT rfl (by decide) tC A' k c' _ rfl (hO2.alloc _) tx #[.string (nbs tx)] rfl rfl 9 w2.heap.size rfl hNew (by simp [tC, Value.oneCell']) (by omega) (by omega) (by simp; omega) ?_; intro g' c9 w8 hap; have HAP := Lib.hid hap; clear hap)
      have hbN := (hbr2.alloc (by omega) (.cells #[.string (nbs tx)] 9)).trans HAP.out.bel
      go_roundw
      case rel => exact ⟨k + 1, some ⟨g', 0, none⟩, c9, by omega, by go_num, rfl, by rw [HT.out]; exact HAP.out.own, hbN⟩
      case measure => simp [intOf]; omega
    · obtain rfl : n = k := by omega
      have gk : decide ((n : Int) < (n : Int)) = false := decide_eq_false (by omega)
      have hx : xs.take n = xs := by rw [HL.out, List.take_length]
      rw [hx] at hO
      have hjn := njoin_own w1.heap.size A' n c' xs wr hO hO.cap hn HV.out
      have hbw := hB1.trans (hbr.mono hB1.size)
      clear hx hO hbr
      go_wp2_with fail
      refine hjn.mono ?_
      rintro e w2 ⟨rfl, hb2⟩
      go_wp2_with fail
      go_ret2
      exact ⟨by rw [hW.out]; rfl, hbw.trans (hb2.mono hbw.size)⟩
end Go.Proofs.YtogkmnopggmdjaaGreatDoor

/- Reading notes: the kinds of notes, walked. -/
namespace Go.Proofs.YtogkmnopggmdjaaGreatDoor
open Go.RowKit Go.Shelf Go.Sort Go.Proofs

theorem BK.grownBy {w w' : World} {b : Nat} {t : TypeId} {cs : Array Value} {row : Option Nat} (h : BK w b t cs) (hg : w.grownBy w' row) (hne : some b ≠ row) : BK w' b t cs := (hg.block b h.lt hne).trans h
theorem res_note {fn : Func} {t : Nat} (hr : fn.results = #[.cell t 54]) (tm : Array Value) (w : World) (b : Nat) (cs : Array Value) (hsz : cs.size = 10) (ht : tm[t]? = some (.pointer (some ⟨b, 0, none⟩))) (hb : BK w b 54 cs) :
    (results fn tm).run Tryz.prog w = .ok (.agg cs) w := by
  obtain ⟨l⟩ := cs
  match l, hsz with
  | [c0, c1, c2, c3, c4, c5, c6, c7, c8, c9], _ =>
  have x0 := hb.cell 0
  have x1 := hb.cell 1
  have x2 := hb.cell 2
  have x3 := hb.cell 3
  have x4 := hb.cell 4
  have x5 := hb.cell 5
  have x6 := hb.cell 6
  have x7 := hb.cell 7
  have x8 := hb.cell 8
  have x9 := hb.cell 9
  simp only [List.getElem?_toArray, List.getElem?_cons_zero, List.getElem?_cons_succ] at x0 x1 x2 x3 x4 x5 x6 x7 x8 x9
  simp [results, hr, ht, go_sem, Tryz.isAgg54, Tryz.sizeOf54, x0, x1, x2, x3, x4, x5, x6, x7, x8, x9]
section
variable {w w0 : World} {b B : Nat} {t : TypeId} {cs : Array Value} {c0 c1 c2 c3 c4 c5 c6 c7 c8 c9 : Value}
theorem BK.set10 (h : BK w b t cs) (hsz : cs.size = 10) : BK ((((((((((w.setCell ⟨b, 0, none⟩ c0).setCell ⟨b, 1, none⟩ c1).setCell ⟨b, 2, none⟩ c2).setCell ⟨b, 3, none⟩ c3).setCell ⟨b, 4, none⟩ c4).setCell ⟨b, 5, none⟩ c5).setCell ⟨b, 6, none⟩ c6).setCell ⟨b, 7, none⟩ c7).setCell ⟨b, 8, none⟩ c8).setCell ⟨b, 9, none⟩ c9) b t #[c0, c1, c2, c3, c4, c5, c6, c7, c8, c9] := by
  obtain ⟨l⟩ := cs
  match l, hsz with
  | [y0, y1, y2, y3, y4, y5, y6, y7, y8, y9], _ =>
  have := (((((((((h.set_ 0 c0).set_ 1 c1).set_ 2 c2).set_ 3 c3).set_ 4 c4).set_ 5 c5).set_ 6 c6).set_ 7 c7).set_ 8 c8).set_ 9 c9
  simpa using this
theorem below10 (h : Below B w0 w) (hb : B ≤ b) : Below B w0 ((((((((((w.setCell ⟨b, 0, none⟩ c0).setCell ⟨b, 1, none⟩ c1).setCell ⟨b, 2, none⟩ c2).setCell ⟨b, 3, none⟩ c3).setCell ⟨b, 4, none⟩ c4).setCell ⟨b, 5, none⟩ c5).setCell ⟨b, 6, none⟩ c6).setCell ⟨b, 7, none⟩ c7).setCell ⟨b, 8, none⟩ c8).setCell ⟨b, 9, none⟩ c9) :=
  (((((((((h.setCell (p := ⟨b, 0, none⟩) hb c0).setCell (p := ⟨b, 1, none⟩) hb c1).setCell (p := ⟨b, 2, none⟩) hb c2).setCell (p := ⟨b, 3, none⟩) hb c3).setCell (p := ⟨b, 4, none⟩) hb c4).setCell (p := ⟨b, 5, none⟩) hb c5).setCell (p := ⟨b, 6, none⟩) hb c6).setCell (p := ⟨b, 7, none⟩) hb c7).setCell (p := ⟨b, 8, none⟩) hb c8).setCell (p := ⟨b, 9, none⟩) hb c9
end
end Go.Proofs.YtogkmnopggmdjaaGreatDoor

/- Reading notes: a crest, a note. -/
namespace Go.Proofs.YtogkmnopggmdjaaGreatDoor
open Go.RowKit Go.Shelf Go.Sort Go.Proofs

open Go.Maps
def kT (v : Wd) : Lit := .string v
theorem kT_key (v : Wd) : WideAt.IsKeyLit (kT v) := by simp [kT, WideAt.IsKeyLit]
theorem kT_ne {a b : Wd} (h : a ≠ b) : kT a ≠ kT b := fun hh => h (by injection hh)
/-- A map of some words. -/
structure TM (D : DataW Unit) (l : List (Wd × DataW Unit)) : Prop where
  m : IsMap D
  t : ∀ v d, (v, d) ∈ l → Maps.has D (kT v) = true ∧ ∀ z, D.atKey (kT v) z = d
  n : ∀ v, (∀ d, (v, d) ∉ l) → Maps.has D (kT v) = false
theorem TM.nil (hm : IsMap (.map [] : DataW Unit)) : TM (.map []) [] := ⟨hm, (fun _ _ h => by cases h), (fun _ _ => rfl)⟩
theorem TM.put {D : DataW Unit} {l : List (Wd × DataW Unit)} (h : TM D l) (v : Wd) (d : DataW Unit) (hm : IsMap (D.put (kT v) d)) (hv : ∀ d', (v, d') ∉ l) : TM (D.put (kT v) d) (l ++ [(v, d)]) := by
  refine ⟨hm, fun u e hu => ?_, fun u hu => ?_⟩
  · rcases List.mem_append.1 hu with hu | hu
    · have hne : u ≠ v := fun hh => hv e (hh ▸ hu)
      rw [has_put_other (kT_ne hne)]
      refine ⟨(h.t u e hu).1, fun z => ?_⟩
      rw [atKey_put_other (kT_ne hne)]
      exact (h.t u e hu).2 z
    · simp only [List.mem_singleton, Prod.mk.injEq] at hu
      obtain ⟨rfl, rfl⟩ := hu
      exact ⟨has_put_same h.m (kT_key u) _, fun z => atKey_put_same h.m (kT_key u) _ z⟩
  · have hne : u ≠ v := fun hh => hu d (by rw [hh]; simp)
    rw [has_put_other (kT_ne hne)]
    exact h.n u fun d' hd => hu d' (List.mem_append.2 (.inl hd))
end Go.Proofs.YtogkmnopggmdjaaGreatDoor
