/- The document's Apply. Printed by genapl.py. -/
import Derived.Test.YtnmipejpjeakbaaGreatDoorNApl
namespace Go.Proofs.YtnmipejpjeakbaaGreatDoor
open Go.RowKit Go.Shelf Go.Sort Go.Proofs

theorem apI_start2 (a : List NoteR) {k : Nat} (l : List EdR) (hk : k ≤ a.length) : apO a k l = apI a k l true := by
  rw [apI_start a l hk]
  by_cases h : k < a.length
  · rw [decide_eq_true h]
  · rw [decide_eq_false h]
    unfold apI
    rw [List.getElem?_eq_none (by omega)]
    simp
set_option maxRecDepth 100000 in
set_option maxHeartbeats 8000000 in
theorem rApply_any (a : List NoteR) (xs : List EdR) (aa : Option Addr) (n ac : Nat) (A : Option Addr) (m c : Nat) (w : World) (ha : SL nC 10 w w.heap.size aa n a) (h : SL eC 12 w w.heap.size A m xs) (hn2 : n ≤ 2000) (hm6 : m ≤ 100000) :
    Calls Tryz.prog 38 #[.slice aa n ac, .slice A m c] w fun e w' => ∃ Ao co, e = .returned (.slice Ao (apE 0 a xs).length co) ∧ OW nC 10 36 w.heap.size w' Ao (apE 0 a xs).length co (apE 0 a xs) ∧ Below w.heap.size w w' := by
  have HLA := Lib.hid ha.1
  have HLX := Lib.hid h.1
  have HA := Lib.hid ha
  have HS := Lib.hid h
  clear ha h
  go_enter Tryz.func38, Tryz.ntmps38
  go_wp2_with fail
  go_loopw [5, 6, 7, 8] (fun ov jv iv _ wr => ∃ (k j : Nat) (acc : List NoteR) (Ao : Option Addr) (co : Nat), k ≤ n + 1 ∧ j ≤ m ∧ iv = .int .i64 (k : Nat) ∧ jv = .int .i64 (j : Nat) ∧ ov = .slice Ao acc.length co ∧ acc.length ≤ k + j ∧ apE 0 a xs = acc ++ apO a k (xs.drop j) ∧ OW nC 10 36 w.heap.size wr Ao acc.length co acc ∧ Below w.heap.size w wr) (fun _ _ iv _ _ => n + 1 - (intOf iv).toNat)
  case atStart => exact ⟨0, 0, [], none, 0, Nat.zero_le _, Nat.zero_le _, rfl, rfl, rfl, by simp, by unfold apO; rw [if_pos (Nat.zero_le _)]; rfl, OW.nil_, Below.refl _ _⟩
  case round =>
    obtain ⟨k, j, acc, Ao, co, hk, hj, rfl, rfl, rfl, hac, hap, hO, hbr⟩ := hrel
    have hcap := hO.cap
    by_cases hkn : k ≤ n
    case neg =>
      obtain rfl : k = n + 1 := by omega
      have hfin : apE 0 a xs = acc := by
        rw [hap]
        unfold apO
        rw [if_neg (by rw [← HLA.out]; omega), List.append_nil]
      have HF := Lib.hid hfin
      have g3 : decide (((n + 1 : Nat) : Int) ≤ (n : Int)) = false := by rw [decide_eq_false_iff_not]; omega
      clear hap hfin
      go_wp2_with fail
      go_ret
      exact ⟨Ao, co, by rw [HF.out]; rfl, by rw [HF.out]; exact hO, hbr⟩
    have hkl : k ≤ a.length := by rw [← HLA.out]; exact hkn
    rw [apI_start2 a _ hkl] at hap
    have g3 : decide ((k : Int) ≤ (n : Int)) = true := by simp; omega
    have g3N : decide (k ≤ n) = true := decide_eq_true hkn
    have HAC := Lib.hid hac
    have HAP := Lib.hid hap
    have HO := Lib.hid hO
    have HBR := Lib.hid hbr
    clear hac hap hO hbr hcap hk hkl
    go_wp2_with fail
    clear g3 g3N
    go_loopw [5, 6, 8] (fun ov jv kv wq => ∃ (j : Nat) (acc : List NoteR) (Ao : Option Addr) (co : Nat) (kp : Bool), j ≤ m ∧ jv = .int .i64 (j : Nat) ∧ ov = .slice Ao acc.length co ∧ kv = .bool kp ∧ acc.length ≤ k + j ∧ apE 0 a xs = acc ++ apI a k (xs.drop j) kp ∧ OW nC 10 36 w.heap.size wq Ao acc.length co acc ∧ Below w.heap.size w wq) (fun _ jv _ _ => m - (intOf jv).toNat)
    case atStart => exact ⟨j, acc, Ao, co, true, hj, rfl, rfl, rfl, HAC.out, HAP.out, HO.out, HBR.out⟩
    case round =>
      clear HAC HAP HO HBR hj
      obtain ⟨j, acc, Ao, co, kp, hj, rfl, rfl, rfl, hac, hap, hO, hbr⟩ := hrel
      have hcap := hO.cap
      have HO := Lib.hid hO
      have HBR := Lib.hid hbr
      clear hO hbr
      by_cases hjm : j < m
      case neg =>
        obtain rfl : j = m := by omega
        have gN : decide ((j : Int) < (j : Int)) = false := by simp
        rw [List.drop_of_length_le (by rw [← HLX.out]; omega), apI_stop a k [] kp (fun e r q => by cases q)] at hap
        have hdr : ([] : List EdR) = xs.drop j := (List.drop_of_length_le (by rw [← HLX.out]; omega)).symm
        rw [hdr] at hap
        clear hdr
        have HAP1 := Lib.hid hap
        clear hap
        cases kp with
        | false =>
          have HAP2 : Hid (apE 0 a xs = acc ++ apO a (k + 1) (xs.drop j)) := HAP1.out
          clear HAP1
          go_wp2_with fail
          go_roundw
          case rel => exact ⟨k + 1, j, acc, Ao, co, by omega, hj, by go_num, rfl, rfl, by omega, HAP2.out, HO.out, HBR.out⟩
          case measure => simp [intOf]; omega
        | true =>
          by_cases hkn2 : k < n
          case neg =>
            have HAP2 : Hid (apE 0 a xs = acc ++ apO a (k + 1) (xs.drop j)) := by show _ = _; rw [HAP1.out, List.getElem?_eq_none (by rw [← HLA.out]; omega)]; rfl
            have gk : decide ((k : Int) < (n : Int)) = false := by simp; omega
            have gkN : decide (k < n) = false := decide_eq_false hkn2
            clear HAP1
            go_wp2_with fail
            go_roundw
            case rel => exact ⟨k + 1, j, acc, Ao, co, by omega, hj, by go_num, rfl, rfl, by omega, HAP2.out, HO.out, HBR.out⟩
            case measure => simp [intOf]; omega
          have hka : k < a.length := by rw [← HLA.out]; exact hkn2
          have HAP2 : Hid (apE 0 a xs = (acc ++ [a[k]]) ++ apO a (k + 1) (xs.drop j)) := by show _ = _; rw [HAP1.out, List.getElem?_eq_getElem hka, List.append_assoc]; rfl
          clear HAP1
          obtain ⟨xb, xo, hxa, hxB, d0, d1, d2, d3, d4, d5, d6, d7, d8, d9⟩ := NS.at_ (HA.out.below HBR.out) hka
          have gki : (k : Int) < (n : Int) := by omega
          have gk : decide ((k : Int) < (n : Int)) = true := by simp; omega
          have gkN : decide (k < n) = true := decide_eq_true hkn2
          generalize a[k]'hka = y at *
          clear hka
          subst hxa
          have hws := HBR.out.size
          go_wp2_with (at_builtin; refine wpList_app rfl _ _ 23 rfl w.heap.size 36 _ 10 80 Tryz.underlying23 infoN rfl (by decide) nC Ao acc.length co _ rfl (HO.out.alloc _) y #[.int .i64 y.k, .int .i64 y.tu, .int .i64 y.gr, .int .i64 y.lo, .int .i64 y.ch, .int .i64 y.ton, .int .i64 y.me, .int .i64 y.si, .int .i64 y.wa, .int .i64 y.ar] rfl rfl 36 wr.heap.size rfl (BK.new wr _ _) (by simp [nC, Value.oneCell']) (by omega) (by omega) (by simp; omega) ?_; intro g' c9 w8 hap; have HAP := Lib.hid hap; clear hap)
          have hbN := (HBR.out.alloc (by have := HBR.out.size; omega) (.cells #[.int .i64 y.k, .int .i64 y.tu, .int .i64 y.gr, .int .i64 y.lo, .int .i64 y.ch, .int .i64 y.ton, .int .i64 y.me, .int .i64 y.si, .int .i64 y.wa, .int .i64 y.ar] 36)).trans HAP.out.bel
          go_roundw
          case rel => exact ⟨k + 1, j, acc ++ [y], some ⟨g', 0, none⟩, c9, by omega, hj, by go_num, rfl, by simp, by rw [List.length_append, List.length_singleton]; omega, HAP2.out, by rw [List.length_append]; exact HAP.out.own, hbN⟩
          case measure => simp [intOf]; omega
      have gN : decide ((j : Int) < (m : Int)) = true := by simp; omega
      have gNN : decide (j < m) = true := decide_eq_true hjm
      have hkl : j < xs.length := by rw [← HLX.out]; exact hjm
      have hj0 : (j : Int) < (m : Int) := by omega
      obtain ⟨b, off, hA1, hbB, c0, c1, c2, c3, c4, c5, c6, c7, c8, c9, c10, c11⟩ := ES.at12 (HS.out.below HBR.out) hkl
      have hdr := List.drop_eq_getElem_cons hkl
      generalize xs[j]'hkl = e at *
      obtain ⟨ea, ek, x⟩ := e
      dsimp only at c0 c1 c2 c3 c4 c5 c6 c7 c8 c9 c10 c11
      subst hA1
      clear hkl
      by_cases hek : ea = (k : Nat)
      case neg =>
        have ge : (ea == (k : Int)) = false := by simpa using hek
        rw [apI_stop a k _ kp (fun e' r' q => by rw [hdr] at q; injection q with q1 q2; subst q1; exact hek)] at hap
        clear hdr
        have HAP1 := Lib.hid hap
        clear hap
        cases kp with
        | false =>
          have HAP2 : Hid (apE 0 a xs = acc ++ apO a (k + 1) (xs.drop j)) := HAP1.out
          clear HAP1
          go_wp2_with fail
          go_roundw
          case rel => exact ⟨k + 1, j, acc, Ao, co, by omega, hj, by go_num, rfl, rfl, by omega, HAP2.out, HO.out, HBR.out⟩
          case measure => simp [intOf]; omega
        | true =>
          by_cases hkn2 : k < n
          case neg =>
            have HAP2 : Hid (apE 0 a xs = acc ++ apO a (k + 1) (xs.drop j)) := by show _ = _; rw [HAP1.out, List.getElem?_eq_none (by rw [← HLA.out]; omega)]; rfl
            have gk : decide ((k : Int) < (n : Int)) = false := by simp; omega
            have gkN : decide (k < n) = false := decide_eq_false hkn2
            clear HAP1
            go_wp2_with fail
            go_roundw
            case rel => exact ⟨k + 1, j, acc, Ao, co, by omega, hj, by go_num, rfl, rfl, by omega, HAP2.out, HO.out, HBR.out⟩
            case measure => simp [intOf]; omega
          have hka : k < a.length := by rw [← HLA.out]; exact hkn2
          have HAP2 : Hid (apE 0 a xs = (acc ++ [a[k]]) ++ apO a (k + 1) (xs.drop j)) := by show _ = _; rw [HAP1.out, List.getElem?_eq_getElem hka, List.append_assoc]; rfl
          clear HAP1
          obtain ⟨xb, xo, hxa, hxB, d0, d1, d2, d3, d4, d5, d6, d7, d8, d9⟩ := NS.at_ (HA.out.below HBR.out) hka
          have gki : (k : Int) < (n : Int) := by omega
          have gk : decide ((k : Int) < (n : Int)) = true := by simp; omega
          have gkN : decide (k < n) = true := decide_eq_true hkn2
          generalize a[k]'hka = y at *
          clear hka
          subst hxa
          have hws := HBR.out.size
          go_wp2_with (at_builtin; refine wpList_app rfl _ _ 23 rfl w.heap.size 36 _ 10 80 Tryz.underlying23 infoN rfl (by decide) nC Ao acc.length co _ rfl (HO.out.alloc _) y #[.int .i64 y.k, .int .i64 y.tu, .int .i64 y.gr, .int .i64 y.lo, .int .i64 y.ch, .int .i64 y.ton, .int .i64 y.me, .int .i64 y.si, .int .i64 y.wa, .int .i64 y.ar] rfl rfl 36 wr.heap.size rfl (BK.new wr _ _) (by simp [nC, Value.oneCell']) (by omega) (by omega) (by simp; omega) ?_; intro g' c9 w8 hap; have HAP := Lib.hid hap; clear hap)
          have hbN := (HBR.out.alloc (by have := HBR.out.size; omega) (.cells #[.int .i64 y.k, .int .i64 y.tu, .int .i64 y.gr, .int .i64 y.lo, .int .i64 y.ch, .int .i64 y.ton, .int .i64 y.me, .int .i64 y.si, .int .i64 y.wa, .int .i64 y.ar] 36)).trans HAP.out.bel
          go_roundw
          case rel => exact ⟨k + 1, j, acc ++ [y], some ⟨g', 0, none⟩, c9, by omega, hj, by go_num, rfl, by simp, by rw [List.length_append, List.length_singleton]; omega, HAP2.out, by rw [List.length_append]; exact HAP.out.own, hbN⟩
          case measure => simp [intOf]; omega
      subst hek
      have ge : ((k : Int) == (k : Int)) = true := by simp
      rw [hdr] at hap
      clear hdr
      by_cases k1 : ek = 1
      · subst k1
        rw [apI_ins] at hap
        have HAP0 : Hid (apE 0 a xs = (acc ++ [x]) ++ apI a k (xs.drop (j + 1)) kp) := by show _ = _; rw [hap, List.append_assoc]; rfl
        clear hap
        have hws := HBR.out.size
        go_wp2_with (at_builtin; refine wpList_app rfl _ _ 23 rfl w.heap.size 36 _ 10 80 Tryz.underlying23 infoN rfl (by decide) nC Ao acc.length co _ rfl (HO.out.alloc _) x #[.int .i64 x.k, .int .i64 x.tu, .int .i64 x.gr, .int .i64 x.lo, .int .i64 x.ch, .int .i64 x.ton, .int .i64 x.me, .int .i64 x.si, .int .i64 x.wa, .int .i64 x.ar] rfl rfl 36 wr.heap.size rfl (BK.new wr _ _) (by simp [nC, Value.oneCell']) (by omega) (by omega) (by simp; omega) ?_; intro g' c9 w8 hap; have HAP := Lib.hid hap; clear hap; have hbN1 := (HBR.out.alloc (by have := HBR.out.size; omega) (.cells #[.int .i64 x.k, .int .i64 x.tu, .int .i64 x.gr, .int .i64 x.lo, .int .i64 x.ch, .int .i64 x.ton, .int .i64 x.me, .int .i64 x.si, .int .i64 x.wa, .int .i64 x.ar] 36)).trans HAP.out.bel; have c1w := (World.cell?_of_block (w := wr) (a := ⟨b, off + j * 12 + 1, none⟩) ((hbN1.block b hbB).trans (HBR.out.block b hbB).symm)).trans c1; clear hbN1)
        have hbN := (HBR.out.alloc (by have := HBR.out.size; omega) (.cells #[.int .i64 x.k, .int .i64 x.tu, .int .i64 x.gr, .int .i64 x.lo, .int .i64 x.ch, .int .i64 x.ton, .int .i64 x.me, .int .i64 x.si, .int .i64 x.wa, .int .i64 x.ar] 36)).trans HAP.out.bel
        go_roundw
        case rel => exact ⟨j + 1, acc ++ [x], some ⟨g', 0, none⟩, c9, kp, by omega, by go_num, by simp, rfl, by rw [List.length_append, List.length_singleton]; omega, HAP0.out, by rw [List.length_append]; exact HAP.out.own, hbN⟩
        case measure => simp [intOf]; omega
      have g1 : (ek != 1) = true := by simpa using k1
      by_cases k2 : ek = 2
      · subst k2
        rw [apI_del] at hap
        have HAP0 := Lib.hid hap
        clear hap
        go_wp2_with fail
        go_roundw
        case rel => exact ⟨j + 1, acc, Ao, co, false, by omega, by go_num, rfl, rfl, by omega, HAP0.out, HO.out, HBR.out⟩
        case measure => simp [intOf]; omega
      have g2 : (ek != 2) = true := by simpa using k2
      rw [apI_rep a k ek x _ kp k1 k2] at hap
      have HAP0 : Hid (apE 0 a xs = (acc ++ [x]) ++ apI a k (xs.drop (j + 1)) false) := by show _ = _; rw [hap, List.append_assoc]; rfl
      clear hap
      have hws := HBR.out.size
      go_wp2_with (at_builtin; refine wpList_app rfl _ _ 23 rfl w.heap.size 36 _ 10 80 Tryz.underlying23 infoN rfl (by decide) nC Ao acc.length co _ rfl (HO.out.alloc _) x #[.int .i64 x.k, .int .i64 x.tu, .int .i64 x.gr, .int .i64 x.lo, .int .i64 x.ch, .int .i64 x.ton, .int .i64 x.me, .int .i64 x.si, .int .i64 x.wa, .int .i64 x.ar] rfl rfl 36 wr.heap.size rfl (BK.new wr _ _) (by simp [nC, Value.oneCell']) (by omega) (by omega) (by simp; omega) ?_; intro g' c9 w8 hap; have HAP := Lib.hid hap; clear hap; have hbN1 := (HBR.out.alloc (by have := HBR.out.size; omega) (.cells #[.int .i64 x.k, .int .i64 x.tu, .int .i64 x.gr, .int .i64 x.lo, .int .i64 x.ch, .int .i64 x.ton, .int .i64 x.me, .int .i64 x.si, .int .i64 x.wa, .int .i64 x.ar] 36)).trans HAP.out.bel; have c1w := (World.cell?_of_block (w := wr) (a := ⟨b, off + j * 12 + 1, none⟩) ((hbN1.block b hbB).trans (HBR.out.block b hbB).symm)).trans c1; clear hbN1)
      have hbN := (HBR.out.alloc (by have := HBR.out.size; omega) (.cells #[.int .i64 x.k, .int .i64 x.tu, .int .i64 x.gr, .int .i64 x.lo, .int .i64 x.ch, .int .i64 x.ton, .int .i64 x.me, .int .i64 x.si, .int .i64 x.wa, .int .i64 x.ar] 36)).trans HAP.out.bel
      go_roundw
      case rel => exact ⟨j + 1, acc ++ [x], some ⟨g', 0, none⟩, c9, false, by omega, by go_num, by simp, rfl, by rw [List.length_append, List.length_singleton]; omega, HAP0.out, by rw [List.length_append]; exact HAP.out.own, hbN⟩
      case measure => simp [intOf]; omega
end Go.Proofs.YtnmipejpjeakbaaGreatDoor
