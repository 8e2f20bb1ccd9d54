/- hairpintop's known02, short, corners. -/
import Derived.Test.YtcniibngfnkobaaGreatDoorTellP
namespace Go.Proofs.YtcniibngfnkobaaGreatDoor
open Go.RowKit Go.Shelf Go.Sort Go.Proofs

/-- R4 long tightens 3 50 into jump ! junction 2 of 3 -/
def kTxt : List UInt8 := [82, 52, 32, 108, 111, 110, 103, 32, 116, 105, 103, 104, 116, 101, 110, 115, 32, 51, 32, 53, 48, 32, 105, 110, 116, 111, 32, 106, 117, 109, 112, 32, 33, 32, 106, 117, 110, 99, 116, 105, 111, 110, 32, 50, 32, 111, 102, 32, 51]
def kLst : List NoteR := [⟨1, 1, 4, 1, 1, 3, 0, 0, 0, 0⟩, ⟨2, 0, 0, 0, 0, 0, 50, 0, 0, 0⟩, ⟨3, 0, 0, 0, 0, 0, 0, 0, 0, 0⟩, ⟨5, 0, 0, 0, 0, 0, 0, 2, 0, 0⟩, ⟨6, 0, 0, 0, 0, 0, 0, 1, 0, 0⟩, ⟨7, 0, 0, 0, 0, 0, 0, 0, 2, 3⟩]
theorem itoa_d (m : Nat) (h : m < 10) : Lib.itoa (m : Nat) = [UInt8.ofNat (48 + m)] := by
  rw [Lib.itoa_nonneg, Lib.decDigits, dif_pos h]
theorem itoa_dd (m : Nat) (h : ¬ m < 10) (h2 : m / 10 < 10) : Lib.itoa (m : Nat) = [UInt8.ofNat (48 + m / 10), UInt8.ofNat (48 + m % 10)] := by
  rw [Lib.itoa_nonneg, Lib.decDigits, dif_neg h, Lib.decDigits, dif_pos h2]
  rfl
theorem itoa_2 : Lib.itoa 2 = [50] := itoa_d 2 (by decide)
theorem itoa_3 : Lib.itoa 3 = [51] := itoa_d 3 (by decide)
theorem itoa_4 : Lib.itoa 4 = [52] := itoa_d 4 (by decide)
theorem itoa_50 : Lib.itoa 50 = [53, 48] := itoa_dd 50 (by decide) (by decide)
theorem kLst_val : kLst.all nVal = true := by decide
theorem kLst_txt : nJoin kLst = kTxt := by
  simp [nJoin, kLst, kTxt, nTxt, itoa_2, itoa_3, itoa_4, itoa_50, Lib.join, List.intercalate]
theorem kRead : readB kTxt = some kLst := by
  rw [← kLst_txt]
  exact read_write kLst kLst_val
theorem nJoin_len (xs : List NoteR) (hv : xs.all nVal = true) : (nJoin xs).length ≤ xs.length * 81 := by
  have := join_len [32] (xs.map nTxt) 80 (fun x hx => by
    obtain ⟨n, hn, rfl⟩ := List.mem_map.1 hx
    exact nTxt_len_valid n (List.all_eq_true.1 hv n hn))
  rw [List.length_map] at this
  exact this
theorem rd_ok2 {w w' : World} {s : List UInt8} {L : List NoteR} {e : Ending} (hs : noteRd s = .ok L) (h : RR w s e w') : Below w.heap.size w w' ∧ ∃ A c, e = .returned (.tuple #[.slice A L.length c, .int .i64 0]) ∧ OW nC 10 48 w.heap.size w' A L.length c L := by
  obtain ⟨hb, ⟨k, hk, -⟩ | ⟨L', A, c, hL, he, hO⟩⟩ := h
  · rw [hs] at hk; cases hk
  · rw [hs] at hL
    injection hL with hL
    subst hL
    exact ⟨hb, A, c, he, hO⟩
theorem rm_ok2 {w w' : World} {b : BkR} {R : Road} {e : Ending} (hl : (makeL b R).length ≤ 2000) (h : RM w b R e w') : Below w.heap.size w w' ∧ ∃ A c, e = .returned (.tuple #[.slice A (makeL b R).length c, .int .i64 0]) ∧ OW nC 10 48 w.heap.size w' A (makeL b R).length c (makeL b R) := by
  obtain ⟨hb, ⟨hk, -⟩ | ⟨-, h⟩⟩ := h
  · omega
  · exact ⟨hb, h⟩
theorem kRdT : noteRd kTxt = .ok kLst := by
  unfold noteRd
  rw [if_neg (by decide), kRead]
  rfl
set_option maxRecDepth 100000 in
set_option maxHeartbeats 4000000 in
theorem known02_any (w : World) : Calls Tryz.prog 6 #[] w fun e w' => e = .returned (.bool true) ∧ Below w.heap.size w w' := by
  go_enter Tryz.func6, Tryz.ntmps6
  go_wp2_with fail
  refine (nread_any kTxt _).mono ?_
  rintro e w1 hR
  obtain ⟨hb1, A1, c1, rfl, hO1⟩ := rd_ok2 kRdT hR
  have HS1 := Lib.hid (hO1.sl nC_len)
  have HB1 := Lib.hid hb1
  rw [show kLst.length = 6 from rfl] at HS1 ⊢
  obtain ⟨b, off, rfl, -, c0, c1', c2, c3, c4, c5, -⟩ := NS.at_ HS1.out (k := 0) (by decide)
  have c5 : w1.cell? ⟨b, off + 5, none⟩ = some (.int .i64 3) := by have := c5; rw [Nat.zero_mul, Nat.add_zero] at this; exact this
  clear hR hO1 hb1 c0 c1' c2 c3 c4
  go_wp2_with fail
  go_ret
  exact ⟨rfl, HB1.out⟩
set_option maxRecDepth 100000 in
set_option maxHeartbeats 4000000 in
theorem short_any (pa : Option Addr) (pn pc : Nat) (ca : Option Addr) (cn cc : Nat) (ja : Option Addr) (jn jc : Nat) (R : Road) (most : Int) (w : World) (h : RD w w.heap.size pa pn ca cn ja jn R) :
    Calls Tryz.prog 4 #[.agg #[.slice pa pn pc, .slice ca cn cc, .slice ja jn jc], .int .i64 most] w fun e w' => ∃ m, e = .returned (.bool m) ∧ (m = true → OK R ∧ R.ps.length ≤ 15 ∧ R.cs.length ≤ 20 ∧ R.js.length ≤ 20 ∧ sumL R.ps ≤ most) ∧ Below w.heap.size w w' := by
  have hlp := Lib.hid h.p.1
  have hlc := Lib.hid h.c.1
  have hlj := Lib.hid h.j.1
  obtain ⟨w0, hw0⟩ : ∃ w0, w0 = w.alloc (.cells #[.slice pa pn pc, .slice ca cn cc, .slice ja jn jc] 26) := ⟨_, rfl⟩
  have HX0 : Hid (BK w0 w.heap.size 26 #[.slice pa pn pc, .slice ca cn cc, .slice ja jn jc]) := by show BK _ _ _ _; rw [hw0]; exact BK.new w _ _
  have HB0 : Hid (Below w.heap.size w w0) := by show Below _ _ _; rw [hw0]; exact (Below.refl _ w).alloc (Nat.le_refl _) _
  have HR := Lib.hid h
  have hval := Valid_any pa pn pc ca cn cc ja jn jc R w0 (h.grow HB0.out HB0.out.size)
  have HVAL := Lib.hid hval
  obtain ⟨r0, r1, r2⟩ := roadbk HX0.out
  clear h hval
  by_cases g1 : 15 < pn
  · have k1 : decide ((15 : Int) < (pn : Int)) = true := by simp; omega
    go_enter Tryz.func4, Tryz.ntmps4
    go_wp2_with fail
    rw [← hw0]
    clear hw0
    go_wp2_with fail
    go_ret
    exact ⟨false, rfl, fun q => (by cases q), HB0.out⟩
  have k1 : decide ((15 : Int) < (pn : Int)) = false := by simp; omega
  by_cases g2 : 20 < cn
  · have k2 : decide ((20 : Int) < (cn : Int)) = true := by simp; omega
    go_enter Tryz.func4, Tryz.ntmps4
    go_wp2_with fail
    rw [← hw0]
    clear hw0
    go_wp2_with fail
    go_ret
    exact ⟨false, rfl, fun q => (by cases q), HB0.out⟩
  have k2 : decide ((20 : Int) < (cn : Int)) = false := by simp; omega
  by_cases g3 : 20 < jn
  · have k3 : decide ((20 : Int) < (jn : Int)) = true := by simp; omega
    go_enter Tryz.func4, Tryz.ntmps4
    go_wp2_with fail
    rw [← hw0]
    clear hw0
    go_wp2_with fail
    go_ret
    exact ⟨false, rfl, fun q => (by cases q), HB0.out⟩
  have k3 : decide ((20 : Int) < (jn : Int)) = false := by simp; omega
  have HQ : Hid (R.ps.length ≤ 15 ∧ R.cs.length ≤ 20 ∧ R.js.length ≤ 20) := ⟨by rw [← hlp.out]; omega, by rw [← hlc.out]; omega, by rw [← hlj.out]; omega⟩
  have hp5 : pn ≤ 100000 := by omega
  clear g1 g2 g3
  go_enter Tryz.func4, Tryz.ntmps4
  go_wp2_with fail
  rw [← hw0]
  clear hw0
  go_wp2_with fail
  refine HVAL.out.mono ?_
  rintro e w1 ⟨rfl, hb⟩
  have HB1 := Lib.hid (HB0.out.trans (hb.mono HB0.out.size))
  have HX1 := Lib.hid (HX0.out.below hb HX0.out.lt)
  clear hb r0 r1 r2
  cases hv : val R with
  | false =>
    clear hv
    go_wp2_with fail
    go_ret
    exact ⟨false, rfl, fun q => (by cases q), HB1.out⟩
  | true =>
    have HOK := Lib.hid ((val_iff R).1 hv)
    obtain ⟨r0, r1, r2⟩ := roadbk HX1.out
    clear hv
    go_wp2_with fail
    refine (rLength_any pa pn pc ca cn cc ja jn jc R _ (HR.out.grow HB1.out HB1.out.size) HOK.out.pk hp5).mono ?_
    rintro e w2 ⟨rfl, hb⟩
    have HB2 := Lib.hid (HB1.out.trans (hb.mono HB1.out.size))
    clear hb
    go_wp2_with fail
    go_ret
    exact ⟨_, rfl, fun q => ⟨HOK.out, HQ.out.1, HQ.out.2.1, HQ.out.2.2, of_decide_eq_true q⟩, HB2.out⟩
set_option maxRecDepth 100000 in
set_option maxHeartbeats 4000000 in
theorem tcorn_any (A : Option Addr) (n c : Nat) (xs : List NoteR) (w : World) (h : SL nC 10 w w.heap.size A n xs) (hn : n ≤ 100000) :
    Calls Tryz.prog 12 #[.slice A n c] w fun e w' => ∃ Ao co, e = .returned (.slice Ao (xs.filter (isK 1)).length co) ∧ OW nC 10 48 w.heap.size w' Ao (xs.filter (isK 1)).length co (xs.filter (isK 1)) ∧ Below w.heap.size w w' := by
  have HL := Lib.hid h.1
  have HS := Lib.hid h
  clear h
  go_enter Tryz.func12, Tryz.ntmps12
  go_wp2_with fail
  go_loopw [3, 4] (fun ov iv wr => ∃ (k : Nat) (acc : List NoteR) (Ao : Option Addr) (co : Nat), k ≤ n ∧ iv = .int .i64 (k : Nat) ∧ ov = .slice Ao acc.length co ∧ acc.length ≤ k ∧ xs.filter (isK 1) = acc ++ (xs.drop k).filter (isK 1) ∧ OW nC 10 48 w.heap.size wr Ao acc.length co acc ∧ Below w.heap.size w wr) (fun _ iv _ => n - (intOf iv).toNat)
  case atStart => exact ⟨0, [], none, 0, Nat.zero_le _, rfl, rfl, Nat.zero_le _, rfl, OW.nil_, Below.refl _ _⟩
  case round =>
    obtain ⟨k, acc, Ao, co, hk, rfl, rfl, hac, hfl, hO, hbr⟩ := hrel
    have hcap := hO.cap
    have HO := Lib.hid hO
    have HBR := Lib.hid hbr
    clear hO hbr
    by_cases hkn : k < n
    case neg =>
      obtain rfl : k = n := by omega
      have hfin : xs.filter (isK 1) = acc := by rw [hfl, List.drop_of_length_le (by rw [← HL.out]; omega)]; simp
      have HF := Lib.hid hfin
      clear hfin hfl hcap
      go_wp2_with fail
      go_ret
      exact ⟨Ao, co, by rw [HF.out]; rfl, by rw [HF.out]; exact HO.out, HBR.out⟩
    have hkl : k < xs.length := by rw [← HL.out]; exact hkn
    obtain ⟨eb, eo, hA, heB, c0, c1', c2', c3, c4, c5, c6, c7, c8, c9⟩ := NS.at_ (HS.out.below HBR.out) hkl
    rw [List.drop_eq_getElem_cons hkl] at hfl
    generalize xs[k]'hkl = x at *
    subst hA
    have gk : (k : Int) < (n : Int) := by omega
    clear hkl
    by_cases k1 : x.k = 1
    · have gk1 : (x.k == 1) = true := by simpa using k1
      have HF : Hid (xs.filter (isK 1) = (acc ++ [x]) ++ (xs.drop (k + 1)).filter (isK 1)) := by
        show _ = _
        rw [hfl, List.filter_cons_of_pos (by unfold isK; rw [k1]; rfl), List.append_assoc]
        rfl
      have hws := HBR.out.size
      clear hfl k1
      go_wp2_with (at_builtin; refine wpList_app rfl _ _ 38 rfl w.heap.size 48 _ 10 80 Tryz.underlying38 infoN rfl (by decide) nC Ao acc.length co _ rfl (HO.out.alloc _) x #[.int .i64 x.k, .int .i64 x.tu, .int .i64 x.gr, .int .i64 x.lo, .int .i64 x.ch, .int .i64 x.ton, .int .i64 x.me, .int .i64 x.si, .int .i64 x.wa, .int .i64 x.ar] rfl rfl 48 wr.heap.size rfl (BK.new wr _ _) (by simp [nC, Value.oneCell']) (by omega) (by omega) (by simp; omega) ?_; intro g' c9 w8 hap; have HAP := Lib.hid hap; clear hap)
      have hbN := (HBR.out.alloc hws (.cells #[.int .i64 x.k, .int .i64 x.tu, .int .i64 x.gr, .int .i64 x.lo, .int .i64 x.ch, .int .i64 x.ton, .int .i64 x.me, .int .i64 x.si, .int .i64 x.wa, .int .i64 x.ar] 48)).trans HAP.out.bel
      go_roundw
      case rel => exact ⟨k + 1, acc ++ [x], some ⟨g', 0, none⟩, c9, by omega, by go_num, by simp, by rw [List.length_append, List.length_singleton]; omega, HF.out, by rw [List.length_append]; exact HAP.out.own, hbN⟩
      case measure => simp [intOf]; omega
    · have gk1 : (x.k == 1) = false := by simpa using k1
      have HF : Hid (xs.filter (isK 1) = acc ++ (xs.drop (k + 1)).filter (isK 1)) := by
        show _ = _
        rw [hfl, List.filter_cons_of_neg (by unfold isK; simpa using k1)]
      clear hfl k1
      go_wp2_with fail
      go_roundw
      case rel => exact ⟨k + 1, acc, Ao, co, by omega, by go_num, rfl, by omega, HF.out, HO.out, HBR.out⟩
      case measure => simp [intOf]; omega
end Go.Proofs.YtcniibngfnkobaaGreatDoor
