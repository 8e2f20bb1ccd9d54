/- NoteFull, walked. -/
import Derived.Test.YtnmipejpjeakbaaGreatDoorNApl
import Derived.Test.YtnmipejpjeakbaaGreatDoorEdQ
namespace Go.Proofs.YtnmipejpjeakbaaGreatDoor
open Go.RowKit Go.Shelf Go.Sort Go.Proofs

def nInto : NoteR := ⟨3, 0, 0, 0, 0, 0, 0, 0, 0, 0⟩
def eAnd (i : Nat) : EdR := ⟨(i : Nat), 1, ⟨4, 0, 0, 0, 0, 0, 0, 0, 0, 0⟩⟩
theorem full_all (n : Nat) : (List.replicate n nInto).all nVal = true := by
  rw [List.all_eq_true]
  intro x hx
  rw [(List.mem_replicate.1 hx).2]
  rfl
theorem full_pw (k : Nat) : ((List.range k).map eAnd).Pairwise (fun d e => d.at_ ≤ e.at_) := by
  refine List.pairwise_map.2 (List.Pairwise.imp (fun {a b} h => ?_) List.pairwise_lt_range)
  show ((a : Nat) : Int) ≤ ((b : Nat) : Int)
  omega
theorem full_ed {n k : Nat} (h : k ≤ n) : edB (List.replicate n nInto).length ((List.range k).map eAnd) = true := by
  refine edDoc_ins _ _ 0 1 (fun e he => ?_) (full_pw k) rfl
  obtain ⟨i, hi, rfl⟩ := List.mem_map.1 he
  have := List.mem_range.1 hi
  rw [List.length_replicate]
  exact ⟨rfl, by show (0 : Int) ≤ (i : Nat); omega, by show ((i : Nat) : Int) ≤ _; omega, rfl, by show (0 : Int) ≤ (i : Nat); omega⟩
theorem full_len {n k : Nat} (h : k ≤ n) : (apE 0 (List.replicate n nInto) ((List.range k).map eAnd)).length = n + k := by
  rw [apE_ins_len _ 0 _ (fun e he => ?_) (full_pw k), List.length_replicate, List.length_map, List.length_range]
  obtain ⟨i, hi, rfl⟩ := List.mem_map.1 he
  have := List.mem_range.1 hi
  rw [List.length_replicate]
  exact ⟨rfl, by show (0 : Int) ≤ (i : Nat); omega, by show ((i : Nat) : Int) ≤ _; omega⟩
theorem full_err {n k : Nat} (h : k ≤ n) (hn : n ≤ 2000) : apErr (List.replicate n nInto) ((List.range k).map eAnd) = if 2000 < n + k then 4 else 0 := by
  unfold apErr
  rw [if_neg (by rw [List.length_replicate]; omega), full_all, full_ed h, if_neg (by decide), full_len h]
set_option maxRecDepth 100000 in
set_option maxHeartbeats 4000000 in
theorem LFull_walk (x y : Int) (w : World) (ht : Lib.TabIs Tryz.prog w pow10N .u64 Lib.pow10Tab) :
    Calls Tryz.prog 11 #[.int .i64 x, .int .i64 y] w fun e w' => e = .returned (.bool true) ∧ Below w.heap.size w w' := by
  have HT := Lib.hid ht
  clear ht
  by_cases hk : 1980 ≤ x ∧ x ≤ 2000 ∧ 0 ≤ y ∧ y ≤ 40
  case neg =>
    by_cases q1 : x < 1980
    · have g1 : decide (x < 1980) = true := decide_eq_true q1
      clear hk
      go_enter Tryz.func11, Tryz.ntmps11
      go_wp2_with fail
      refine (known2_any _ HT.out).mono ?_
      rintro e w' ⟨rfl, hb⟩
      go_wp2_with fail
      go_ret
      exact ⟨rfl, hb⟩
    have g1 : decide (x < 1980) = false := decide_eq_false q1
    by_cases q2 : 2000 < x
    · have g2 : decide (2000 < x) = true := decide_eq_true q2
      clear hk
      go_enter Tryz.func11, Tryz.ntmps11
      go_wp2_with fail
      refine (known2_any _ HT.out).mono ?_
      rintro e w' ⟨rfl, hb⟩
      go_wp2_with fail
      go_ret
      exact ⟨rfl, hb⟩
    have g2 : decide (2000 < x) = false := decide_eq_false q2
    by_cases q3 : y < 0
    · have g3 : decide (y < 0) = true := decide_eq_true q3
      clear hk
      go_enter Tryz.func11, Tryz.ntmps11
      go_wp2_with fail
      refine (known2_any _ HT.out).mono ?_
      rintro e w' ⟨rfl, hb⟩
      go_wp2_with fail
      go_ret
      exact ⟨rfl, hb⟩
    have g3 : decide (y < 0) = false := decide_eq_false q3
    have g4 : decide (40 < y) = true := by simp; omega
    clear hk
    go_enter Tryz.func11, Tryz.ntmps11
    go_wp2_with fail
    refine (known2_any _ HT.out).mono ?_
    rintro e w' ⟨rfl, hb⟩
    go_wp2_with fail
    go_ret
    exact ⟨rfl, hb⟩
  obtain ⟨N, rfl⟩ : ∃ N : Nat, x = (N : Int) := ⟨x.toNat, by omega⟩
  obtain ⟨M, rfl⟩ : ∃ M : Nat, y = (M : Int) := ⟨y.toNat, by omega⟩
  have hN : 1980 ≤ N ∧ N ≤ 2000 := by omega
  have hM : M ≤ 40 := by omega
  have g1 : decide ((N : Int) < 1980) = false := by simp; omega
  have g2 : decide (2000 < (N : Int)) = false := by simp; omega
  have g3 : decide ((M : Int) < 0) = false := by simp
  have g4 : decide (40 < (M : Int)) = false := by simp; omega
  obtain ⟨hN1, hN2⟩ := hN
  clear hk
  go_enter Tryz.func11, Tryz.ntmps11
  go_wp2_with fail
  clear g1 g2 g3 g4
  go_loopw [5, 7] (fun av iv wr => ∃ (k : Nat) (acc : List NoteR) (A : Option Addr) (c : Nat), k ≤ N ∧ iv = .int .i64 (k : Nat) ∧ av = .slice A acc.length c ∧ acc = List.replicate k nInto ∧ OW nC 10 36 w.heap.size wr A acc.length c acc ∧ Below w.heap.size w wr) (fun _ iv _ => N - (intOf iv).toNat)
  case atStart => exact ⟨0, [], none, 0, Nat.zero_le _, rfl, rfl, rfl, OW.nil_, Below.refl _ _⟩
  case round =>
    obtain ⟨k, acc, A, c, hk, rfl, rfl, hacc, hO, hbr⟩ := hrel
    have hcap := hO.cap
    have hlen : acc.length = k := by rw [hacc, List.length_replicate]
    have hl2 : acc.length ≤ 2000 := by omega
    have HACC := Lib.hid hacc
    have HLEN := Lib.hid hlen
    have HO := Lib.hid hO
    have HBR := Lib.hid hbr
    clear hacc hlen hO hbr
    by_cases hkN : k < N
    · have gk : decide ((k : Int) < (N : Int)) = true := by simp; omega
      have gkN : decide (k < N) = true := decide_eq_true hkN
      have hws := HBR.out.size
      go_wp2_with (at_builtin; refine wpList_app rfl _ _ 23 rfl w.heap.size 36 _ 10 80 Tryz.underlying23 infoN rfl (by decide) nC A acc.length c _ rfl (HO.out.alloc _) nInto #[.int .i64 3, .int .i64 0, .int .i64 0, .int .i64 0, .int .i64 0, .int .i64 0, .int .i64 0, .int .i64 0, .int .i64 0, .int .i64 0] rfl rfl 36 wr.heap.size rfl (BK.new wr _ _) (by simp [nC, Value.oneCell']) (by omega) (by omega) (by simp; omega) ?_; intro g' c9 w8 hap; have HAP := Lib.hid hap; clear hap)
      have hbN := (HBR.out.alloc hws (.cells #[.int .i64 3, .int .i64 0, .int .i64 0, .int .i64 0, .int .i64 0, .int .i64 0, .int .i64 0, .int .i64 0, .int .i64 0, .int .i64 0] 36)).trans HAP.out.bel
      go_roundw
      case rel => exact ⟨k + 1, acc ++ [nInto], some ⟨g', 0, none⟩, c9, by omega, by go_num, by simp, by rw [HACC.out, List.replicate_succ'], by rw [List.length_append]; exact HAP.out.own, hbN⟩
      case measure => simp [intOf]; omega
    obtain rfl : k = N := by omega
    have gk : decide ((k : Int) < (k : Int)) = false := by simp
    have gkN : decide (k < k) = false := by simp
    obtain ⟨w1, rfl⟩ : ∃ w1, w1 = wr := ⟨_, rfl⟩
    go_wp2_with fail
    go_loopw [6, 8] (fun lv iv wq => ∃ (j : Nat) (es : List EdR) (B : Option Addr) (d : Nat), j ≤ M ∧ iv = .int .i64 (j : Nat) ∧ lv = .slice B es.length d ∧ es = (List.range j).map eAnd ∧ OW eC 12 83 w1.heap.size wq B es.length d es ∧ Below w1.heap.size w1 wq) (fun _ iv _ => M - (intOf iv).toNat)
    case atStart => exact ⟨0, [], none, 0, Nat.zero_le _, rfl, rfl, rfl, OW.nil_, Below.refl _ _⟩
    case round =>
      obtain ⟨j, es, B, d, hj, rfl, rfl, hes, hO2, hbq⟩ := hrel
      have hcap2 := hO2.cap
      have hlen2 : es.length = j := by rw [hes, List.length_map, List.length_range]
      have hl40 : es.length ≤ 40 := by omega
      have HES := Lib.hid hes
      have HLEN2 := Lib.hid hlen2
      have HO2 := Lib.hid hO2
      have HBQ := Lib.hid hbq
      clear hes hlen2 hO2 hbq
      by_cases hjM : j < M
      · have gj : decide ((j : Int) < (M : Int)) = true := by simp; omega
        have gjN : decide (j < M) = true := decide_eq_true hjM
        have hws := HBQ.out.size
        go_wp2_with (at_builtin; refine wpList_app rfl _ _ 40 rfl w1.heap.size 83 _ 12 96 Tryz.underlying40 infoE rfl (by decide) eC B es.length d _ rfl (HO2.out.alloc _) (eAnd j) #[.int .i64 (j : Nat), .int .i64 1, .int .i64 4, .int .i64 0, .int .i64 0, .int .i64 0, .int .i64 0, .int .i64 0, .int .i64 0, .int .i64 0, .int .i64 0, .int .i64 0] rfl rfl 83 wr.heap.size rfl (BK.new wr _ _) (by simp [eC, Value.oneCell']) (by omega) (by omega) (by simp; omega) ?_; intro g' c9 w8 hap; have HAP := Lib.hid hap; clear hap)
        have hbN := (HBQ.out.alloc hws (.cells #[.int .i64 (j : Nat), .int .i64 1, .int .i64 4, .int .i64 0, .int .i64 0, .int .i64 0, .int .i64 0, .int .i64 0, .int .i64 0, .int .i64 0, .int .i64 0, .int .i64 0] 83)).trans HAP.out.bel
        go_roundw
        case rel => exact ⟨j + 1, es ++ [eAnd j], some ⟨g', 0, none⟩, c9, by omega, by go_num, by simp, by rw [HES.out, List.range_succ, List.map_append]; rfl, by rw [List.length_append]; exact HAP.out.own, hbN⟩
        case measure => simp [intOf]; omega
      obtain rfl : j = M := by omega
      have gj : decide ((j : Int) < (j : Int)) = false := by simp
      have gjN : decide (j < j) = false := by simp
      have HSA : Hid (SL nC 10 wr wr.heap.size A k acc) := by
        have h1 := (HO.out.sl nC_len).grow HBQ.out HBQ.out.size
        rwa [HLEN.out] at h1
      have HSE : Hid (SL eC 12 wr wr.heap.size B j es) := by
        have h1 := HO2.out.sl eC_len
        rwa [HLEN2.out] at h1
      have HCE : Hid (j ≤ d) := by show _ ≤ _; rw [← HLEN2.out]; exact hcap2
      have HBW := Lib.hid (HBR.out.trans (HBQ.out.mono HBR.out.size))
      have hkl := HLEN.out
      have hjl := HLEN2.out
      have herr : apErr acc es = if 2000 < k + j then 4 else 0 := by rw [HACC.out, HES.out]; exact full_err (by omega) hN2
      have hfl : (apE 0 acc es).length = k + j := by rw [HACC.out, HES.out]; exact full_len (by omega)
      rw [hkl, hjl]
      have HER := Lib.hid herr
      have HFL := Lib.hid hfl
      have us : IntKind.i64.wrap ((k : Int) + (j : Int)) = (k : Int) + (j : Int) := IntWalk.i64_in _ (by omega)
      clear hkl hjl herr hfl HO HO2 HBR HBQ HLEN HLEN2 HACC HES hcap hcap2 hl2 hl40 gk gkN hk hj
      go_wp2_with fail
      refine (nApply_any acc es A k c B j d _ HSA.out HSE.out HCE.out (by omega)).mono ?_
      rintro e w3 hR
      by_cases h2 : 2000 < k + j
      · obtain ⟨hb3, rfl⟩ := rap_err (k := 4) (by decide) (by rw [HER.out, if_pos h2]) hR
        have HB3 := Lib.hid (HBW.out.trans (hb3.mono HBW.out.size))
        have HT3 := Lib.hid (pow10_stays HT.out HB3.out (Nat.le_refl _))
        have g5 : decide ((2000 : Int) < (k : Int) + (j : Int)) = true := by simp; omega
        clear hR hb3
        go_wp2_with fail
        refine (known2_any _ HT3.out).mono ?_
        rintro e w4 ⟨rfl, hb4⟩
        go_wp2_with fail
        go_ret
        exact ⟨rfl, HB3.out.trans (hb4.mono HB3.out.size)⟩
      · obtain ⟨hb3, X, cx, rfl, -⟩ := rap_ok (by rw [HER.out, if_neg h2]) hR
        rw [HFL.out]
        have HB3 := Lib.hid (HBW.out.trans (hb3.mono HBW.out.size))
        have HT3 := Lib.hid (pow10_stays HT.out HB3.out (Nat.le_refl _))
        have g5 : decide ((2000 : Int) < (k : Int) + (j : Int)) = false := by simp; omega
        have g6 : (((k + j : Nat) : Int) == (k : Int) + (j : Int)) = true := by simp
        clear hR hb3
        go_wp2_with fail
        refine (known2_any _ HT3.out).mono ?_
        rintro e w4 ⟨rfl, hb4⟩
        go_wp2_with fail
        go_ret
        exact ⟨rfl, HB3.out.trans (hb4.mono HB3.out.size)⟩
end Go.Proofs.YtnmipejpjeakbaaGreatDoor
