/- Layer 2's examples, walked: hairpinlaw02.known. -/
import Derived.Test.YtnmipejpjeakbaaGreatDoorPMakeP
import Derived.Test.YtnmipejpjeakbaaGreatDoorPMake
import Derived.Test.YtnmipejpjeakbaaGreatDoorPNRdAll
import Derived.Test.YtnmipejpjeakbaaGreatDoorPMend
namespace Go.Proofs.YtnmipejpjeakbaaGreatDoor
open Go.RowKit Go.Shelf Go.Sort Go.Proofs

theorem kRd1 : noteRd kTxt = .ok kLst := by
  unfold noteRd
  rw [if_neg (by decide), kRead]
  rfl
theorem kRd2 : noteRd kTxt2 = .error 3 := by
  unfold noteRd
  rw [if_neg (by decide), kRead2]
theorem kWr1 : nWr kLst = (kTxt, 0) := by
  unfold nWr
  rw [if_pos (by decide), kLst_txt]
theorem kWr3 : nWr kLst3 = (kTxt3, 0) := by
  unfold nWr
  rw [if_pos (by decide), kLst3_txt]
def kGs : Array Value := #[.int .i64 20, .int .i64 40, .int .i64 60, .int .i64 100, .int .i64 200]
theorem Book_any (w : World) : Calls Tryz.prog 43 #[] w fun e w' => e = .returned (bkA (some ⟨w.heap.size + 1, 0, none⟩) 5 kBook) ∧ SL iC 1 w' w'.heap.size (some ⟨w.heap.size + 1, 0, none⟩) kBook.gs.length kBook.gs ∧ Below w.heap.size w w' := by
  go_enter Tryz.func43, Tryz.ntmps43
  go_wp2_with fail
  have b2 : BK ((w.alloc (.cells #[.slice (some ⟨w.heap.size + 1, 0, none⟩) 5 5, .int .i64 300, .int .i64 1200, .int .i64 150, .int .i64 10, .int .i64 30, .int .i64 10, .int .i64 20, .int .i64 100] 50)).alloc (.cells kGs 3)) (w.heap.size + 1) 3 kGs := bk2 _ _ _ _ _
  refine bodyPost_ret (v := bkA (some ⟨w.heap.size + 1, 0, none⟩) 5 kBook) (by simp [results, Tryz.results43, go_sem]; rfl) rfl ⟨rfl, ?_, ?_⟩
  · exact SL.of_bk (xs := kBook.gs) b2 rfl iC_len (by simp)
  · exact ((Below.refl w.heap.size w).alloc (Nat.le_refl _) _).alloc (by simp) _
theorem rd_ok {w w' : World} {s : List UInt8} {L : List NoteR} {e : Ending} (hs : noteRd s = .ok L) (h : RR w s e w') : Below w.heap.size w w' ∧ ∃ A c, e = .returned (.tuple #[.slice A L.length c, .int .i64 0]) ∧ OW nC 10 36 w.heap.size w' A L.length c L := by
  obtain ⟨hb, ⟨k, hk, -⟩ | ⟨L', A, c, hL, he, hO⟩⟩ := h
  · rw [hs] at hk; cases hk
  · rw [hs] at hL
    injection hL with hL
    subst hL
    exact ⟨hb, A, c, he, hO⟩
theorem rd_err {w w' : World} {s : List UInt8} {k : Int} {e : Ending} (hs : noteRd s = .error k) (h : RR w s e w') : Below w.heap.size w w' ∧ e = .returned (.tuple #[.slice none 0 0, .int .i64 k]) := by
  obtain ⟨hb, ⟨k', hk, he⟩ | ⟨L', A, c, hL, he, hO⟩⟩ := h
  · rw [hs] at hk
    injection hk with hk
    subst hk
    exact ⟨hb, he⟩
  · rw [hs] at hL; cases hL
theorem rm_ok {w w' : World} {b : BkR} {R : Road} {e : Ending} (hl : (makeL b R).length ≤ 2000) (h : RM w b R e w') : Below w.heap.size w w' ∧ ∃ A c, e = .returned (.tuple #[.slice A (makeL b R).length c, .int .i64 0]) ∧ OW nC 10 36 w.heap.size w' A (makeL b R).length c (makeL b R) := by
  obtain ⟨hb, ⟨hk, -⟩ | ⟨-, h⟩⟩ := h
  · omega
  · exact ⟨hb, h⟩
theorem rmd_ok {w w' : World} {a b : List NoteR} {e : Ending} (hl : mendE a b = 0) (h : RMd w a b e w') : Below w.heap.size w w' ∧ ∃ A c, e = .returned (.tuple #[.slice A (mnd 0 a b).length c, .int .i64 0]) ∧ OW eC 12 83 w.heap.size w' A (mnd 0 a b).length c (mnd 0 a b) := by
  obtain ⟨hb, ⟨hk, -⟩ | ⟨-, h⟩⟩ := h
  · exact absurd hl hk
  · exact ⟨hb, h⟩
theorem ES.at_ {w : World} {B n : Nat} {A : Option Addr} {xs : List EdR} (h : SL eC 12 w B A n xs) {k : Nat} (hk : k < xs.length) : ∃ b off, A = some ⟨b, off, none⟩ ∧ b < B ∧
    w.cell? ⟨b, off + k * 12, none⟩ = some (.int .i64 xs[k].at_) ∧ w.cell? ⟨b, off + k * 12 + 1, none⟩ = some (.int .i64 xs[k].kd) := by
  obtain ⟨b, off, e, hb, hc⟩ := h.at_ hk
  exact ⟨b, off, e, hb, hc 0 _ rfl, hc 1 _ rfl⟩
set_option maxRecDepth 100000 in
set_option maxHeartbeats 4000000 in
theorem known2_any (w : World) (ht : Lib.TabIs Tryz.prog w pow10N .u64 Lib.pow10Tab) :
    Calls Tryz.prog 13 #[] w fun e w' => e = .returned (.bool true) ∧ Below w.heap.size w w' := by
  have hm3 : (makeL kBook exR).length ≤ 2000 := by rw [kMake]; decide
  have HM3 := Lib.hid hm3
  have HT := Lib.hid ht
  clear ht hm3
  go_enter Tryz.func13, Tryz.ntmps13
  go_wp2_with fail
  refine (nread_any kTxt _).mono ?_
  rintro e w1 hR
  obtain ⟨hb1, A1, c1, rfl, hO1⟩ := rd_ok kRd1 hR
  have HS1 := Lib.hid (hO1.sl nC_len)
  have HT1 := Lib.hid (pow10_stays HT.out hb1 (Nat.le_refl _))
  have HB1 := Lib.hid hb1
  rw [show kLst.length = 6 from rfl] at HS1 ⊢
  clear hR hO1 hb1
  go_wp2_with fail
  refine (nwrite_any A1 6 c1 kLst _ HS1.out HT1.out).mono ?_
  rintro e w2 ⟨rfl, hb2⟩
  rw [kWr1]
  have HB2 := Lib.hid (HB1.out.trans (hb2.mono HB1.out.size))
  clear hb2 HS1
  go_wp2_with fail
  refine (nread_any kTxt2 _).mono ?_
  rintro e w3 hR
  obtain ⟨hb3, rfl⟩ := rd_err kRd2 hR
  have HB3 := Lib.hid (HB2.out.trans (hb3.mono HB2.out.size))
  clear hb3 hR
  go_wp2_with fail
  refine (Example_any _).mono ?_
  rintro e w4 ⟨rfl, hR4, hb4⟩
  have HB4 := Lib.hid (HB3.out.trans (hb4.mono HB3.out.size))
  have HR4 := Lib.hid hR4
  clear hb4 hR4
  go_wp2_with fail
  refine (Book_any _).mono ?_
  rintro e w5 ⟨rfl, hS5, hb5⟩
  have HB5 := Lib.hid (HB4.out.trans (hb5.mono HB4.out.size))
  have HR5 := Lib.hid (HR4.out.grow hb5 hb5.size)
  have HS5 := Lib.hid hS5
  clear hb5 hS5 HR4
  go_wp2_with fail
  refine (nMake_ok kBook kBook_ok _ 5 _ 5 5 _ 1 1 none 0 0 exR exR_ok _ HR5.out HS5.out).mono ?_
  rintro e w6 hR
  obtain ⟨hb6, A6, c6, rfl, hO6⟩ := rm_ok HM3.out hR
  rw [kMake] at hO6 ⊢
  rw [show kLst3.length = 4 from rfl] at hO6 ⊢
  have HB6 := Lib.hid (HB5.out.trans (hb6.mono HB5.out.size))
  have HS6 := Lib.hid (hO6.sl nC_len)
  have HT6 := Lib.hid (pow10_stays HT.out HB6.out (Nat.le_refl _))
  clear hb6 hR hO6 HR5 HS5
  go_wp2_with fail
  refine (nwrite_any A6 4 c6 kLst3 _ HS6.out HT6.out).mono ?_
  rintro e w7 ⟨rfl, hb7⟩
  rw [kWr3]
  have HB7 := Lib.hid (HB6.out.trans (hb7.mono HB6.out.size))
  clear hb7 HS6
  go_wp2_with fail
  refine (Book_any _).mono ?_
  rintro e w8 ⟨rfl, hS8, hb8⟩
  have HB8 := Lib.hid (HB7.out.trans (hb8.mono HB7.out.size))
  have HS8 := Lib.hid hS8
  clear hb8 hS8
  go_wp2_with fail
  refine (nGrade_ok kBook kBook_ok _ 5 20 (by decide) (by decide) _ HS8.out).mono ?_
  rintro e w9 ⟨rfl, hb9⟩
  rw [kGrade]
  have HB9 := Lib.hid (HB8.out.trans (hb9.mono HB8.out.size))
  clear hb9 HS8
  go_wp2_with fail
  obtain ⟨w10, hw10⟩ : ∃ w10, w10 = (w9.alloc (.cells #[.int .i64 1, .int .i64 1, .int .i64 3, .int .i64 0, .int .i64 0, .int .i64 0, .int .i64 0, .int .i64 0, .int .i64 0, .int .i64 0] 36)).alloc (.cells #[.int .i64 1, .int .i64 (-1), .int .i64 2, .int .i64 0, .int .i64 0, .int .i64 0, .int .i64 0, .int .i64 0, .int .i64 0, .int .i64 0, .int .i64 2, .int .i64 0, .int .i64 0, .int .i64 0, .int .i64 0, .int .i64 0, .int .i64 50, .int .i64 0, .int .i64 0, .int .i64 0] 36) := ⟨_, rfl⟩
  have hb10 : Below w9.heap.size w9 w10 := by rw [hw10]; exact ((Below.refl _ _).alloc (Nat.le_refl _) _).alloc (by simp) _
  have hA10 : SL nC 10 w10 w10.heap.size (some ⟨w9.heap.size, 0, none⟩) kLA.length kLA := by
    rw [hw10]
    exact SL.of_bk (xs := kLA) ((BK.new w9 _ _).alloc _) rfl nC_len (by simp; omega)
  have hB10 : SL nC 10 w10 w10.heap.size (some ⟨w9.heap.size + 1, 0, none⟩) kLB.length kLB := by
    rw [hw10]
    exact SL.of_bk (xs := kLB) (bk2 _ _ _ _ _) rfl nC_len (by simp)
  rw [← hw10]
  clear hw10
  refine (nMend_any kLA kLB _ 1 1 _ 2 2 _ hA10 hB10).mono ?_
  rintro e w11 hR
  obtain ⟨hb11, A, c, rfl, hO⟩ := rmd_ok (by decide) hR
  rw [kMnd] at hO ⊢
  obtain ⟨d, off, hA, -, p0, p1⟩ := ES.at_ (hO.sl eC_len) (k := 0) (by decide)
  obtain ⟨d', off', hA', -, q0, q1⟩ := ES.at_ (hO.sl eC_len) (k := 1) (by decide)
  rw [hA] at hA'
  injection hA' with hA'
  injection hA' with e1 e2
  subst e1 e2 hA
  have HB11 := Lib.hid ((HB9.out.trans (hb10.mono HB9.out.size)).trans (hb11.mono (Nat.le_trans HB9.out.size hb10.size)))
  have g1 : (nbs kTxt).toList = [82, 52, 32, 108, 111, 110, 103, 32, 116, 105, 103, 104, 116, 101, 110, 115, 32, 51, 32, 53, 48, 32, 105, 110, 116, 111, 32, 106, 117, 109, 112, 32, 33, 32, 106, 117, 110, 99, 116, 105, 111, 110, 32, 50, 32, 111, 102, 32, 51] := by rw [ByteArray.toList_eq]; rfl
  have g2 : (nbs kTxt3).toList = [49, 48, 48, 32, 82, 51, 32, 108, 111, 110, 103, 32, 116, 105, 103, 104, 116, 101, 110, 115, 32, 50, 32, 53, 48, 32, 106, 117, 109, 112] := by rw [ByteArray.toList_eq]; rfl
  simp only [List.length_cons, List.length_nil] at hO ⊢
  clear hR hb11 hb10 hA10 hB10 hO
  dsimp only [List.getElem_cons_zero, List.getElem_cons_succ] at p0 p1 q0 q1
  go_wp2_with fail
  go_ret
  exact ⟨rfl, HB11.out⟩
end Go.Proofs.YtnmipejpjeakbaaGreatDoor
