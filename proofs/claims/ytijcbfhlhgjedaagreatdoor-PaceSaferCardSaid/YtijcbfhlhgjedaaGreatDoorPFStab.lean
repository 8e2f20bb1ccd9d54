/- slices.stableCmpFunc and SortStableFunc at crests and junctions. -/
import Derived.Test.YtijcbfhlhgjedaaGreatDoorPCBBase
import Derived.Test.YtijcbfhlhgjedaaGreatDoorPCBRoad
import Derived.Test.YtijcbfhlhgjedaaGreatDoorPCBLeaf
import Derived.Test.YtijcbfhlhgjedaaGreatDoorPCBCheck
import Derived.Test.YtijcbfhlhgjedaaGreatDoorPCBValid
import Derived.Test.YtijcbfhlhgjedaaGreatDoorPCBFind
import Derived.Test.YtijcbfhlhgjedaaGreatDoorPCBReg
import Derived.Test.YtijcbfhlhgjedaaGreatDoorPCBGrouped
import Derived.Test.YtijcbfhlhgjedaaGreatDoorPCBPG
import Derived.Test.YtijcbfhlhgjedaaGreatDoorPCBStr
import Derived.Test.YtijcbfhlhgjedaaGreatDoorPCBCmp
import Derived.Test.YtijcbfhlhgjedaaGreatDoorPCBOpen
import Derived.Test.YtijcbfhlhgjedaaGreatDoorPCBReg7
import Derived.Test.YtijcbfhlhgjedaaGreatDoorPCPRow
import Derived.Test.YtijcbfhlhgjedaaGreatDoorPCMtr
import Derived.Test.YtijcbfhlhgjedaaGreatDoorPCReg8
import Derived.Test.YtijcbfhlhgjedaaGreatDoorPCSpCk
import Derived.Test.YtijcbfhlhgjedaaGreatDoorPCPlanM
import Derived.Test.YtijcbfhlhgjedaaGreatDoorPCLast
import Derived.Test.YtijcbfhlhgjedaaGreatDoorPCBeg
import Derived.Test.YtijcbfhlhgjedaaGreatDoorPCRoom
import Derived.Test.YtijcbfhlhgjedaaGreatDoorPCCallsB
import Derived.Test.YtijcbfhlhgjedaaGreatDoorPCPlan
import Derived.Test.YtijcbfhlhgjedaaGreatDoorPCBetw
import Derived.Test.YtijcbfhlhgjedaaGreatDoorPCKn03P
import Derived.Test.YtijcbfhlhgjedaaGreatDoorPCRef3
import Derived.Test.YtijcbfhlhgjedaaGreatDoorPFSymM
import Derived.Deep.RegionLaw
import Derived.Deep.Upon
import Derived.Shelf.RegionOpenPlain
import Derived.Lib.SliceRun
namespace Go.Proofs.YtijcbfhlhgjedaaGreatDoor
open Go.RowKit Go.Shelf Go.Sort Go.Proofs

theorem SymC : ∀ N, SymOKC N
  | 0 => fun base b n c a m e P L R Q w hN h hP hm he hL hR => by omega
  | N + 1 => fun base b n c a m e P L R Q w hN h hP hm he hL hR hLs hRs hn => by
    by_cases h1 : L.length = 1
    · exact SymAC base b n c a m e P L R Q w h hP hm he h1 hRs hn
    · by_cases h2 : R.length = 1
      · exact SymBC base b n c a m e P L R Q w h hP hm he (by omega) h2 hLs hn
      · exact SymMC N (SymC N) base b n c a m e P L R Q w hN h hP hm he (by omega) (by omega) hLs hRs hn
set_option maxRecDepth 100000 in
set_option maxHeartbeats 8000000 in
theorem StabC (base b n c : Nat) (xs : List Crest) (w : World) (h : OW cC 2 76 base w (some ⟨b, 0, none⟩) n c xs) (hn : n ≤ 100000) :
    Calls Tryz.prog 92 #[.slice (some ⟨b, 0, none⟩) n c, .int .i64 n, .func (.func 31) #[] #[]] w fun ev w' => (∃ v, ev = .returned v) ∧ OW cC 2 76 base w' (some ⟨b, 0, none⟩) n c (ssort (fun x : Crest => x.pos) xs) ∧ w.grownBy w' (some b) := by
  have HH := Lib.hid h
  have HN := Lib.hid h.2
  clear h
  go_enter Tryz.func92, Tryz.ntmps92
  go_wp2_with fail
  go_loopw [7, 8] (fun av bv wr => ∃ k a0 b0 : Nat, av = .int .i64 a0 ∧ bv = .int .i64 b0 ∧ Hid (a0 = k * 20) ∧ Hid (b0 = a0 + 20) ∧ a0 ≤ n ∧ OW cC 2 76 base wr (some ⟨b, 0, none⟩) n c (bl (fun x : Crest => x.pos) 20 k xs) ∧ w.grownBy wr (some b))
    (fun av _ _ => n - (intOf av).toNat)
  case atStart => exact ⟨0, 0, 20, rfl, rfl, Lib.hid (by omega), Lib.hid rfl, Nat.zero_le _, HH.out, World.grownBy.refl w _⟩
  case round =>
    obtain ⟨k, a0, b0, rfl, rfl, HA0, HB0, hann, hO, hg⟩ := hrel
    have han : a0 ≤ n := hann
    obtain ⟨A, hA1, hA2, hA3⟩ := bl_step (fun x : Crest => x.pos) 20 k xs (by have h1 := HA0.out; have h2 := HN.out; omega)
    rw [hA2] at hO
    have hA1' : A.length = a0 := by rw [hA1]; exact HA0.out.symm
    obtain ⟨C, hC⟩ : ∃ C, C = (xs.drop (k * 20)).take 20 := ⟨_, rfl⟩
    obtain ⟨B, hB⟩ : ∃ B, B = (xs.drop (k * 20)).drop 20 := ⟨_, rfl⟩
    have hCl : C.length = min 20 (n - a0) := by rw [hC, List.length_take, List.length_drop, ← HN.out, ← HA0.out]
    rw [← hC, ← hB] at hO hA3
    have HA3 := Lib.hid hA3
    have HAL := Lib.hid hA1'
    have HCL := Lib.hid hCl
    clear hA1 hA2 hA3 hC hB hA1' hCl
    by_cases hlt : b0 ≤ n
    · obtain ⟨b1, hb1⟩ : ∃ b1, b1 = b0 + 20 := ⟨_, rfl⟩
      have hwb : IntKind.i64.wrap ((b0 : Int) + 20) = (b1 : Int) := by rw [show (b0 : Int) + 20 = (b1 : Int) by omega]; exact IntWalk.i64_in _ (by omega)
      have HB1 := Lib.hid hb1
      clear hb1
      go_wp2_with fail
      refine (InsC base b n c a0 b0 A C B _ hO HAL.out (by have h1 := HCL.out; have h2 := HB0.out; omega) hn).mono ?_
      rintro ev w2 ⟨⟨v, rfl⟩, hO2, hg2⟩
      rw [← HA3.out] at hO2
      go_wp2_with fail
      go_roundw
      case rel => exact ⟨k + 1, b0, b1, rfl, rfl, Lib.hid (by have h1 := HA0.out; have h2 := HB0.out; omega), HB1, hlt, hO2, only_trans hg hg2⟩
      case measure => have := HB0.out; simp [intOf]; omega
    · go_wp2_with fail
      refine (InsC base b n c a0 n A C B _ hO HAL.out (by have h1 := HCL.out; have h2 := HB0.out; omega) hn).mono ?_
      rintro ev w2 ⟨⟨v, rfl⟩, hO2, hg2⟩
      have hbs : bl (fun x : Crest => x.pos) 20 (k + 1) xs = bs (fun x : Crest => x.pos) 20 xs := bs_eq (fun x : Crest => x.pos) (by omega) (by have h1 := HA0.out; have h2 := HB0.out; have h3 := HN.out; omega)
      rw [← HA3.out, hbs] at hO2
      have HG := Lib.hid (only_trans hg hg2)
      have HO := Lib.hid hO2
      clear hO2 hg hg2 hO hbs HA3 HAL HCL HA0 HB0
      go_wp2_with fail
      go_loopw [6] (fun sv wq => ∃ S : Nat, sv = .int .i64 S ∧ 1 ≤ S ∧ S ≤ 400000 ∧ OW cC 2 76 base wq (some ⟨b, 0, none⟩) n c (bs (fun x : Crest => x.pos) S xs) ∧ w.grownBy wq (some b))
        (fun sv _ => n - (intOf sv).toNat)
      case atStart => exact ⟨20, rfl, by omega, by omega, HO.out, HG.out⟩
      case round =>
        obtain ⟨S, rfl, hS1, hS2, hOS, hgS⟩ := hrel
        by_cases hlt2 : S < n
        · obtain ⟨S2, hSS⟩ : ∃ S2, S2 = 2 * S := ⟨_, rfl⟩
          have hw1 : IntKind.i64.wrap (2 * (S : Int)) = (S2 : Int) := by rw [show 2 * (S : Int) = (S2 : Int) by omega]; exact IntWalk.i64_in _ (by omega)
          have hw2 : IntKind.i64.wrap ((S : Int) * 2) = (S2 : Int) := by rw [show (S : Int) * 2 = (S2 : Int) by omega]; exact IntWalk.i64_in _ (by omega)
          have HSS := Lib.hid hSS
          have HOS := Lib.hid hOS
          have HGS := Lib.hid hgS
          clear hSS hOS hgS
          go_wp2_with fail
          go_loopw [7, 8] (fun av bv wr => ∃ k a0 b0 : Nat, av = .int .i64 a0 ∧ bv = .int .i64 b0 ∧ Hid (a0 = k * (2 * S)) ∧ Hid (b0 = a0 + S2) ∧ a0 ≤ n ∧ OW cC 2 76 base wr (some ⟨b, 0, none⟩) n c (mx (fun x : Crest => x.pos) S k xs) ∧ w.grownBy wr (some b))
            (fun av _ _ => n - (intOf av).toNat)
          case atStart => exact ⟨0, 0, S2, rfl, rfl, Lib.hid (by omega), Lib.hid (by omega), Nat.zero_le _, HOS.out, HGS.out⟩
          case round =>
            obtain ⟨j, a0, b0, rfl, rfl, HA0, HB0, han2, hO, hg⟩ := hrel
            have han3 : a0 ≤ n := han2
            obtain ⟨A, hA1, hA2, hA3⟩ := mx_step (fun x : Crest => x.pos) S hS1 j xs (by have h1 := HA0.out; have h2 := HN.out; omega)
            have hA1' : A.length = a0 := by rw [hA1]; exact HA0.out.symm
            obtain ⟨D, hD⟩ : ∃ D, D = xs.drop (j * (2 * S)) := ⟨_, rfl⟩
            rw [← hD] at hA2 hA3
            have hDl : D.length = n - a0 := by rw [hD, List.length_drop, ← HN.out, ← HA0.out]
            have HAL := Lib.hid hA1'
            have HDL := Lib.hid hDl
            have HA2 := Lib.hid hA2
            have HA3 := Lib.hid hA3
            have hm1 : Hid (mrg (fun x : Crest => x.pos) (ssort (fun x : Crest => x.pos) (D.take S)) (ssort (fun x : Crest => x.pos) ((D.drop S).take S)) = ssort (fun x : Crest => x.pos) (D.take (2 * S))) := by show _ = _; rw [mrg_ssort, take_two]
            have hm2 : Hid (mx (fun x : Crest => x.pos) S j xs = A ++ (ssort (fun x : Crest => x.pos) (D.take S) ++ (ssort (fun x : Crest => x.pos) ((D.drop S).take S) ++ bs (fun x : Crest => x.pos) S (D.drop (2 * S))))) := by show _ = _; rw [HA2.out, bs_two (fun x : Crest => x.pos) D hS1]
            clear hA1 hA2 hA3 hD hA1' hDl
            obtain ⟨m0, hm0⟩ : ∃ m0, m0 = a0 + S := ⟨_, rfl⟩
            have hwm : IntKind.i64.wrap ((a0 : Int) + (S : Int)) = (m0 : Int) := by rw [show (a0 : Int) + (S : Int) = (m0 : Int) by omega]; exact IntWalk.i64_in _ (by omega)
            have HM0 := Lib.hid hm0
            clear hm0
            have hl1 : Hid (S ≤ n - a0 → (ssort (fun x : Crest => x.pos) (D.take S)).length = S) := by
              show _ → _
              intro hh
              rw [ssort_len, List.length_take, HDL.out]; omega
            have hl2 : Hid ((ssort (fun x : Crest => x.pos) ((D.drop S).take S)).length = min S (n - a0 - S)) := by show _ = _; rw [ssort_len, List.length_take, List.length_drop, HDL.out]
            by_cases hlt3 : b0 ≤ n
            · obtain ⟨b1, hb1⟩ : ∃ b1, b1 = b0 + S2 := ⟨_, rfl⟩
              have hwb : IntKind.i64.wrap ((b0 : Int) + (S2 : Int)) = (b1 : Int) := by rw [show (b0 : Int) + (S2 : Int) = (b1 : Int) by omega]; exact IntWalk.i64_in _ (by have := HSS.out; omega)
              have HB1 := Lib.hid hb1
              clear hb1
              rw [hm2.out] at hO
              go_wp2_with fail
              refine (SymC (b0 - a0) base b n c a0 m0 b0 A _ _ _ _ (Nat.le_refl _) hO HAL.out (by have h1 := hl1.out (by have := HB0.out; have := HSS.out; omega); have := HM0.out; omega) (by have h1 := hl2.out; have := HB0.out; have := HSS.out; have := HM0.out; omega) (by have h1 := hl1.out (by have := HB0.out; have := HSS.out; omega); omega) (by have h1 := hl2.out; have := HB0.out; have := HSS.out; omega) (ssort_srt _ _) (ssort_srt _ _) hn).mono ?_
              rintro ev w3 ⟨⟨v3, rfl⟩, hO3, hg3⟩
              rw [hm1.out, ← HA3.out] at hO3
              go_wp2_with fail
              go_roundw
              case rel => exact ⟨j + 1, b0, b1, rfl, rfl, Lib.hid (by have h1 := HA0.out; have h2 := HB0.out; have h3 := HSS.out; rw [Nat.succ_mul]; omega), HB1, hlt3, hO3, only_trans hg hg3⟩
              case measure => have := HB0.out; have := HSS.out; simp [intOf]; omega
            · by_cases hlt4 : m0 < n
              · rw [hm2.out] at hO
                go_wp2_with fail
                refine (SymC (n - a0) base b n c a0 m0 n A _ _ _ _ (Nat.le_refl _) hO HAL.out (by have h1 := hl1.out (by have := HM0.out; omega); have := HM0.out; omega) (by have h1 := hl2.out; have := HB0.out; have := HSS.out; have := HM0.out; omega) (by have h1 := hl1.out (by have := HM0.out; omega); omega) (by have h1 := hl2.out; have := HM0.out; omega) (ssort_srt _ _) (ssort_srt _ _) hn).mono ?_
                rintro ev w3 ⟨⟨v3, rfl⟩, hO3, hg3⟩
                have hall : mx (fun x : Crest => x.pos) S (j + 1) xs = bs (fun x : Crest => x.pos) (2 * S) xs := mx_all (fun x : Crest => x.pos) hS1 xs (by have h1 := HA0.out; have h2 := HB0.out; have h3 := HSS.out; have h4 := HN.out; rw [Nat.succ_mul]; omega)
                rw [hm1.out, ← HA3.out, hall, ← HSS.out] at hO3
                clear hall
                go_wp2_with fail
                go_roundw
                case rel => exact ⟨S2, rfl, by have := HSS.out; omega, by have := HSS.out; omega, hO3, only_trans hg hg3⟩
                case measure => have := HSS.out; simp [intOf]; omega
              · have hall : mx (fun x : Crest => x.pos) S j xs = bs (fun x : Crest => x.pos) (2 * S) xs := mx_done (fun x : Crest => x.pos) hS1 xs (by have h1 := HA0.out; have h4 := HN.out; omega) (by have h1 := HA0.out; have h3 := HM0.out; have h4 := HN.out; omega)
                rw [hall, ← HSS.out] at hO
                clear hall
                go_wp2_with fail
                go_roundw
                case rel => exact ⟨S2, rfl, by have := HSS.out; omega, by have := HSS.out; omega, hO, hg⟩
                case measure => have := HSS.out; simp [intOf]; omega
        · have hfin : bs (fun x : Crest => x.pos) S xs = ssort (fun x : Crest => x.pos) xs := bs_one (fun x : Crest => x.pos) hS1 (by rw [← HN.out]; omega)
          rw [hfin] at hOS
          clear hfin
          go_wp2_with fail
          go_end0
          exact ⟨⟨_, rfl⟩, hOS, hgS⟩
set_option maxRecDepth 100000 in
theorem InsNC (c : Nat) (w : World) : Calls Tryz.prog 108 #[.slice none 0 c, .int .i64 0, .int .i64 0, .func (.func 31) #[] #[]] w fun ev w' => (∃ v, ev = .returned v) ∧ w' = w := by
  go_enter Tryz.func108, Tryz.ntmps108
  go_wp2_with fail
  go_loopw [8] (fun iv wr => iv = .int .i64 1 ∧ wr = w) (fun _ _ => 0)
  case atStart => exact ⟨rfl, rfl⟩
  case round =>
    obtain ⟨rfl, rfl⟩ := hrel
    go_wp2_with fail
    go_end0
    exact ⟨⟨_, rfl⟩, rfl⟩
set_option maxRecDepth 100000 in
theorem StabNC (c : Nat) (w : World) : Calls Tryz.prog 92 #[.slice none 0 c, .int .i64 0, .func (.func 31) #[] #[]] w fun ev w' => (∃ v, ev = .returned v) ∧ w' = w := by
  go_enter Tryz.func92, Tryz.ntmps92
  go_wp2_with fail
  go_loopw [7, 8] (fun av bv wr => av = .int .i64 0 ∧ bv = .int .i64 20 ∧ wr = w) (fun _ _ _ => 0)
  case atStart => exact ⟨rfl, rfl, rfl⟩
  case round =>
    obtain ⟨rfl, rfl, rfl⟩ := hrel
    go_wp2_with fail
    refine (InsNC c _).mono ?_
    rintro ev w2 ⟨⟨v, rfl⟩, rfl⟩
    go_wp2_with fail
    go_loopw [6] (fun sv wq => sv = .int .i64 20 ∧ wq = w2) (fun _ _ => 0)
    case atStart => exact ⟨rfl, rfl⟩
    case round =>
      obtain ⟨rfl, rfl⟩ := hrel
      go_wp2_with fail
      go_end0
      exact ⟨⟨_, rfl⟩, rfl⟩
set_option maxRecDepth 100000 in
theorem SortC_ow (base : Nat) (A : Option Addr) (n c : Nat) (xs : List Crest) (w : World) (h : OW cC 2 76 base w A n c xs) (hn : n ≤ 100000) :
    Calls Tryz.prog 71 #[.slice A n c, .func (.func 31) #[] #[]] w fun ev w' => (∃ v, ev = .returned v) ∧ OW cC 2 76 base w' A n c (ssort (fun x : Crest => x.pos) xs) ∧ w.grownBy w' (A.map (·.block)) := by
  rcases A with _ | a
  · obtain ⟨rfl, rfl, rfl⟩ := h.none_
    go_enter Tryz.func71, Tryz.ntmps71
    go_wp2_with fail
    refine (StabNC 0 _).mono ?_
    rintro ev w2 ⟨⟨v, rfl⟩, rfl⟩
    go_wp2_with fail
    go_end0
    exact ⟨⟨_, rfl⟩, OW.nil_, World.grownBy.refl _ _⟩
  · rcases h.1.2 with ⟨h3, _⟩ | ⟨g', cap, cur, h3, _⟩
    · cases h3
    · have HH := Lib.hid h
      clear h
      injection h3 with h3 h4 h5
      injection h3 with h3
      subst h3
      clear h4 h5
      go_enter Tryz.func71, Tryz.ntmps71
      go_wp2_with fail
      refine (StabC base g' n c xs _ HH.out hn).mono ?_
      rintro ev w2 ⟨⟨v, rfl⟩, hO, hg⟩
      go_wp2_with fail
      go_end0
      exact ⟨⟨_, rfl⟩, hO, hg⟩
theorem SymJ : ∀ N, SymOKJ N
  | 0 => fun base b n c a m e P L R Q w hN h hP hm he hL hR => by omega
  | N + 1 => fun base b n c a m e P L R Q w hN h hP hm he hL hR hLs hRs hn => by
    by_cases h1 : L.length = 1
    · exact SymAJ base b n c a m e P L R Q w h hP hm he h1 hRs hn
    · by_cases h2 : R.length = 1
      · exact SymBJ base b n c a m e P L R Q w h hP hm he (by omega) h2 hLs hn
      · exact SymMJ N (SymJ N) base b n c a m e P L R Q w hN h hP hm he (by omega) (by omega) hLs hRs hn
set_option maxRecDepth 100000 in
set_option maxHeartbeats 8000000 in
theorem StabJ (base b n c : Nat) (xs : List Junc) (w : World) (h : OW jC 3 78 base w (some ⟨b, 0, none⟩) n c xs) (hn : n ≤ 100000) :
    Calls Tryz.prog 94 #[.slice (some ⟨b, 0, none⟩) n c, .int .i64 n, .func (.func 35) #[] #[]] w fun ev w' => (∃ v, ev = .returned v) ∧ OW jC 3 78 base w' (some ⟨b, 0, none⟩) n c (ssort (fun x : Junc => x.pos) xs) ∧ w.grownBy w' (some b) := by
  have HH := Lib.hid h
  have HN := Lib.hid h.2
  clear h
  go_enter Tryz.func94, Tryz.ntmps94
  go_wp2_with fail
  go_loopw [7, 8] (fun av bv wr => ∃ k a0 b0 : Nat, av = .int .i64 a0 ∧ bv = .int .i64 b0 ∧ Hid (a0 = k * 20) ∧ Hid (b0 = a0 + 20) ∧ a0 ≤ n ∧ OW jC 3 78 base wr (some ⟨b, 0, none⟩) n c (bl (fun x : Junc => x.pos) 20 k xs) ∧ w.grownBy wr (some b))
    (fun av _ _ => n - (intOf av).toNat)
  case atStart => exact ⟨0, 0, 20, rfl, rfl, Lib.hid (by omega), Lib.hid rfl, Nat.zero_le _, HH.out, World.grownBy.refl w _⟩
  case round =>
    obtain ⟨k, a0, b0, rfl, rfl, HA0, HB0, hann, hO, hg⟩ := hrel
    have han : a0 ≤ n := hann
    obtain ⟨A, hA1, hA2, hA3⟩ := bl_step (fun x : Junc => x.pos) 20 k xs (by have h1 := HA0.out; have h2 := HN.out; omega)
    rw [hA2] at hO
    have hA1' : A.length = a0 := by rw [hA1]; exact HA0.out.symm
    obtain ⟨C, hC⟩ : ∃ C, C = (xs.drop (k * 20)).take 20 := ⟨_, rfl⟩
    obtain ⟨B, hB⟩ : ∃ B, B = (xs.drop (k * 20)).drop 20 := ⟨_, rfl⟩
    have hCl : C.length = min 20 (n - a0) := by rw [hC, List.length_take, List.length_drop, ← HN.out, ← HA0.out]
    rw [← hC, ← hB] at hO hA3
    have HA3 := Lib.hid hA3
    have HAL := Lib.hid hA1'
    have HCL := Lib.hid hCl
    clear hA1 hA2 hA3 hC hB hA1' hCl
    by_cases hlt : b0 ≤ n
    · obtain ⟨b1, hb1⟩ : ∃ b1, b1 = b0 + 20 := ⟨_, rfl⟩
      have hwb : IntKind.i64.wrap ((b0 : Int) + 20) = (b1 : Int) := by rw [show (b0 : Int) + 20 = (b1 : Int) by omega]; exact IntWalk.i64_in _ (by omega)
      have HB1 := Lib.hid hb1
      clear hb1
      go_wp2_with fail
      refine (InsJ base b n c a0 b0 A C B _ hO HAL.out (by have h1 := HCL.out; have h2 := HB0.out; omega) hn).mono ?_
      rintro ev w2 ⟨⟨v, rfl⟩, hO2, hg2⟩
      rw [← HA3.out] at hO2
      go_wp2_with fail
      go_roundw
      case rel => exact ⟨k + 1, b0, b1, rfl, rfl, Lib.hid (by have h1 := HA0.out; have h2 := HB0.out; omega), HB1, hlt, hO2, only_trans hg hg2⟩
      case measure => have := HB0.out; simp [intOf]; omega
    · go_wp2_with fail
      refine (InsJ base b n c a0 n A C B _ hO HAL.out (by have h1 := HCL.out; have h2 := HB0.out; omega) hn).mono ?_
      rintro ev w2 ⟨⟨v, rfl⟩, hO2, hg2⟩
      have hbs : bl (fun x : Junc => x.pos) 20 (k + 1) xs = bs (fun x : Junc => x.pos) 20 xs := bs_eq (fun x : Junc => x.pos) (by omega) (by have h1 := HA0.out; have h2 := HB0.out; have h3 := HN.out; omega)
      rw [← HA3.out, hbs] at hO2
      have HG := Lib.hid (only_trans hg hg2)
      have HO := Lib.hid hO2
      clear hO2 hg hg2 hO hbs HA3 HAL HCL HA0 HB0
      go_wp2_with fail
      go_loopw [6] (fun sv wq => ∃ S : Nat, sv = .int .i64 S ∧ 1 ≤ S ∧ S ≤ 400000 ∧ OW jC 3 78 base wq (some ⟨b, 0, none⟩) n c (bs (fun x : Junc => x.pos) S xs) ∧ w.grownBy wq (some b))
        (fun sv _ => n - (intOf sv).toNat)
      case atStart => exact ⟨20, rfl, by omega, by omega, HO.out, HG.out⟩
      case round =>
        obtain ⟨S, rfl, hS1, hS2, hOS, hgS⟩ := hrel
        by_cases hlt2 : S < n
        · obtain ⟨S2, hSS⟩ : ∃ S2, S2 = 2 * S := ⟨_, rfl⟩
          have hw1 : IntKind.i64.wrap (2 * (S : Int)) = (S2 : Int) := by rw [show 2 * (S : Int) = (S2 : Int) by omega]; exact IntWalk.i64_in _ (by omega)
          have hw2 : IntKind.i64.wrap ((S : Int) * 2) = (S2 : Int) := by rw [show (S : Int) * 2 = (S2 : Int) by omega]; exact IntWalk.i64_in _ (by omega)
          have HSS := Lib.hid hSS
          have HOS := Lib.hid hOS
          have HGS := Lib.hid hgS
          clear hSS hOS hgS
          go_wp2_with fail
          go_loopw [7, 8] (fun av bv wr => ∃ k a0 b0 : Nat, av = .int .i64 a0 ∧ bv = .int .i64 b0 ∧ Hid (a0 = k * (2 * S)) ∧ Hid (b0 = a0 + S2) ∧ a0 ≤ n ∧ OW jC 3 78 base wr (some ⟨b, 0, none⟩) n c (mx (fun x : Junc => x.pos) S k xs) ∧ w.grownBy wr (some b))
            (fun av _ _ => n - (intOf av).toNat)
          case atStart => exact ⟨0, 0, S2, rfl, rfl, Lib.hid (by omega), Lib.hid (by omega), Nat.zero_le _, HOS.out, HGS.out⟩
          case round =>
            obtain ⟨j, a0, b0, rfl, rfl, HA0, HB0, han2, hO, hg⟩ := hrel
            have han3 : a0 ≤ n := han2
            obtain ⟨A, hA1, hA2, hA3⟩ := mx_step (fun x : Junc => x.pos) S hS1 j xs (by have h1 := HA0.out; have h2 := HN.out; omega)
            have hA1' : A.length = a0 := by rw [hA1]; exact HA0.out.symm
            obtain ⟨D, hD⟩ : ∃ D, D = xs.drop (j * (2 * S)) := ⟨_, rfl⟩
            rw [← hD] at hA2 hA3
            have hDl : D.length = n - a0 := by rw [hD, List.length_drop, ← HN.out, ← HA0.out]
            have HAL := Lib.hid hA1'
            have HDL := Lib.hid hDl
            have HA2 := Lib.hid hA2
            have HA3 := Lib.hid hA3
            have hm1 : Hid (mrg (fun x : Junc => x.pos) (ssort (fun x : Junc => x.pos) (D.take S)) (ssort (fun x : Junc => x.pos) ((D.drop S).take S)) = ssort (fun x : Junc => x.pos) (D.take (2 * S))) := by show _ = _; rw [mrg_ssort, take_two]
            have hm2 : Hid (mx (fun x : Junc => x.pos) S j xs = A ++ (ssort (fun x : Junc => x.pos) (D.take S) ++ (ssort (fun x : Junc => x.pos) ((D.drop S).take S) ++ bs (fun x : Junc => x.pos) S (D.drop (2 * S))))) := by show _ = _; rw [HA2.out, bs_two (fun x : Junc => x.pos) D hS1]
            clear hA1 hA2 hA3 hD hA1' hDl
            obtain ⟨m0, hm0⟩ : ∃ m0, m0 = a0 + S := ⟨_, rfl⟩
            have hwm : IntKind.i64.wrap ((a0 : Int) + (S : Int)) = (m0 : Int) := by rw [show (a0 : Int) + (S : Int) = (m0 : Int) by omega]; exact IntWalk.i64_in _ (by omega)
            have HM0 := Lib.hid hm0
            clear hm0
            have hl1 : Hid (S ≤ n - a0 → (ssort (fun x : Junc => x.pos) (D.take S)).length = S) := by
              show _ → _
              intro hh
              rw [ssort_len, List.length_take, HDL.out]; omega
            have hl2 : Hid ((ssort (fun x : Junc => x.pos) ((D.drop S).take S)).length = min S (n - a0 - S)) := by show _ = _; rw [ssort_len, List.length_take, List.length_drop, HDL.out]
            by_cases hlt3 : b0 ≤ n
            · obtain ⟨b1, hb1⟩ : ∃ b1, b1 = b0 + S2 := ⟨_, rfl⟩
              have hwb : IntKind.i64.wrap ((b0 : Int) + (S2 : Int)) = (b1 : Int) := by rw [show (b0 : Int) + (S2 : Int) = (b1 : Int) by omega]; exact IntWalk.i64_in _ (by have := HSS.out; omega)
              have HB1 := Lib.hid hb1
              clear hb1
              rw [hm2.out] at hO
              go_wp2_with fail
              refine (SymJ (b0 - a0) base b n c a0 m0 b0 A _ _ _ _ (Nat.le_refl _) hO HAL.out (by have h1 := hl1.out (by have := HB0.out; have := HSS.out; omega); have := HM0.out; omega) (by have h1 := hl2.out; have := HB0.out; have := HSS.out; have := HM0.out; omega) (by have h1 := hl1.out (by have := HB0.out; have := HSS.out; omega); omega) (by have h1 := hl2.out; have := HB0.out; have := HSS.out; omega) (ssort_srt _ _) (ssort_srt _ _) hn).mono ?_
              rintro ev w3 ⟨⟨v3, rfl⟩, hO3, hg3⟩
              rw [hm1.out, ← HA3.out] at hO3
              go_wp2_with fail
              go_roundw
              case rel => exact ⟨j + 1, b0, b1, rfl, rfl, Lib.hid (by have h1 := HA0.out; have h2 := HB0.out; have h3 := HSS.out; rw [Nat.succ_mul]; omega), HB1, hlt3, hO3, only_trans hg hg3⟩
              case measure => have := HB0.out; have := HSS.out; simp [intOf]; omega
            · by_cases hlt4 : m0 < n
              · rw [hm2.out] at hO
                go_wp2_with fail
                refine (SymJ (n - a0) base b n c a0 m0 n A _ _ _ _ (Nat.le_refl _) hO HAL.out (by have h1 := hl1.out (by have := HM0.out; omega); have := HM0.out; omega) (by have h1 := hl2.out; have := HB0.out; have := HSS.out; have := HM0.out; omega) (by have h1 := hl1.out (by have := HM0.out; omega); omega) (by have h1 := hl2.out; have := HM0.out; omega) (ssort_srt _ _) (ssort_srt _ _) hn).mono ?_
                rintro ev w3 ⟨⟨v3, rfl⟩, hO3, hg3⟩
                have hall : mx (fun x : Junc => x.pos) S (j + 1) xs = bs (fun x : Junc => x.pos) (2 * S) xs := mx_all (fun x : Junc => x.pos) hS1 xs (by have h1 := HA0.out; have h2 := HB0.out; have h3 := HSS.out; have h4 := HN.out; rw [Nat.succ_mul]; omega)
                rw [hm1.out, ← HA3.out, hall, ← HSS.out] at hO3
                clear hall
                go_wp2_with fail
                go_roundw
                case rel => exact ⟨S2, rfl, by have := HSS.out; omega, by have := HSS.out; omega, hO3, only_trans hg hg3⟩
                case measure => have := HSS.out; simp [intOf]; omega
              · have hall : mx (fun x : Junc => x.pos) S j xs = bs (fun x : Junc => x.pos) (2 * S) xs := mx_done (fun x : Junc => x.pos) hS1 xs (by have h1 := HA0.out; have h4 := HN.out; omega) (by have h1 := HA0.out; have h3 := HM0.out; have h4 := HN.out; omega)
                rw [hall, ← HSS.out] at hO
                clear hall
                go_wp2_with fail
                go_roundw
                case rel => exact ⟨S2, rfl, by have := HSS.out; omega, by have := HSS.out; omega, hO, hg⟩
                case measure => have := HSS.out; simp [intOf]; omega
        · have hfin : bs (fun x : Junc => x.pos) S xs = ssort (fun x : Junc => x.pos) xs := bs_one (fun x : Junc => x.pos) hS1 (by rw [← HN.out]; omega)
          rw [hfin] at hOS
          clear hfin
          go_wp2_with fail
          go_end0
          exact ⟨⟨_, rfl⟩, hOS, hgS⟩
set_option maxRecDepth 100000 in
theorem InsNJ (c : Nat) (w : World) : Calls Tryz.prog 110 #[.slice none 0 c, .int .i64 0, .int .i64 0, .func (.func 35) #[] #[]] w fun ev w' => (∃ v, ev = .returned v) ∧ w' = w := by
  go_enter Tryz.func110, Tryz.ntmps110
  go_wp2_with fail
  go_loopw [8] (fun iv wr => iv = .int .i64 1 ∧ wr = w) (fun _ _ => 0)
  case atStart => exact ⟨rfl, rfl⟩
  case round =>
    obtain ⟨rfl, rfl⟩ := hrel
    go_wp2_with fail
    go_end0
    exact ⟨⟨_, rfl⟩, rfl⟩
set_option maxRecDepth 100000 in
theorem StabNJ (c : Nat) (w : World) : Calls Tryz.prog 94 #[.slice none 0 c, .int .i64 0, .func (.func 35) #[] #[]] w fun ev w' => (∃ v, ev = .returned v) ∧ w' = w := by
  go_enter Tryz.func94, Tryz.ntmps94
  go_wp2_with fail
  go_loopw [7, 8] (fun av bv wr => av = .int .i64 0 ∧ bv = .int .i64 20 ∧ wr = w) (fun _ _ _ => 0)
  case atStart => exact ⟨rfl, rfl, rfl⟩
  case round =>
    obtain ⟨rfl, rfl, rfl⟩ := hrel
    go_wp2_with fail
    refine (InsNJ c _).mono ?_
    rintro ev w2 ⟨⟨v, rfl⟩, rfl⟩
    go_wp2_with fail
    go_loopw [6] (fun sv wq => sv = .int .i64 20 ∧ wq = w2) (fun _ _ => 0)
    case atStart => exact ⟨rfl, rfl⟩
    case round =>
      obtain ⟨rfl, rfl⟩ := hrel
      go_wp2_with fail
      go_end0
      exact ⟨⟨_, rfl⟩, rfl⟩
set_option maxRecDepth 100000 in
theorem SortJ_ow (base : Nat) (A : Option Addr) (n c : Nat) (xs : List Junc) (w : World) (h : OW jC 3 78 base w A n c xs) (hn : n ≤ 100000) :
    Calls Tryz.prog 75 #[.slice A n c, .func (.func 35) #[] #[]] w fun ev w' => (∃ v, ev = .returned v) ∧ OW jC 3 78 base w' A n c (ssort (fun x : Junc => x.pos) xs) ∧ w.grownBy w' (A.map (·.block)) := by
  rcases A with _ | a
  · obtain ⟨rfl, rfl, rfl⟩ := h.none_
    go_enter Tryz.func75, Tryz.ntmps75
    go_wp2_with fail
    refine (StabNJ 0 _).mono ?_
    rintro ev w2 ⟨⟨v, rfl⟩, rfl⟩
    go_wp2_with fail
    go_end0
    exact ⟨⟨_, rfl⟩, OW.nil_, World.grownBy.refl _ _⟩
  · rcases h.1.2 with ⟨h3, _⟩ | ⟨g', cap, cur, h3, _⟩
    · cases h3
    · have HH := Lib.hid h
      clear h
      injection h3 with h3 h4 h5
      injection h3 with h3
      subst h3
      clear h4 h5
      go_enter Tryz.func75, Tryz.ntmps75
      go_wp2_with fail
      refine (StabJ base g' n c xs _ HH.out hn).mono ?_
      rintro ev w2 ⟨⟨v, rfl⟩, hO, hg⟩
      go_wp2_with fail
      go_end0
      exact ⟨⟨_, rfl⟩, hO, hg⟩
end Go.Proofs.YtijcbfhlhgjedaaGreatDoor

/- slices.Delete of one element of a row of the caller's own, at crests and junctions. -/
namespace Go.Proofs.YtijcbfhlhgjedaaGreatDoor
open Go.RowKit Go.Shelf Go.Sort Go.Proofs
def sets : Array Value → Nat → List Value → Array Value
  | cs, _, [] => cs
  | cs, o, v :: r => sets (cs.setIfInBounds o v) (o + 1) r
theorem sets_size : ∀ (vs : List Value) (cs : Array Value) (o : Nat), (sets cs o vs).size = cs.size
  | [], _, _ => rfl
  | v :: r, cs, o => by rw [sets, sets_size r]; simp
theorem sets_list : ∀ (vs : List Value) (cs : Array Value) (o : Nat), o + vs.length ≤ cs.size → (sets cs o vs).toList = cs.toList.take o ++ (vs ++ cs.toList.drop (o + vs.length))
  | [], cs, o, _ => by simp [sets]
  | v :: r, cs, o, h => by
    rw [List.length_cons] at h
    rw [sets, sets_list r _ (o + 1) (by simp; omega), Array.toList_setIfInBounds, List.take_set, List.drop_set]
    have ho : o < cs.toList.length := by simp; omega
    rw [if_pos (by omega), List.take_succ_eq_append_getElem ho, List.set_append_right _ _ (by simp; omega)]
    rw [show o - (cs.toList.take o).length = 0 by simp; omega]
    simp only [List.set_cons_zero, List.append_assoc, List.cons_append, List.nil_append]
    rw [List.length_cons, show o + 1 + r.length = o + (r.length + 1) by omega]
theorem BK.sets {g : Nat} {t : TypeId} : ∀ (vs : List Value) {w : World} {cs : Array Value} (_ : BK w g t cs) (o : Nat), BK (w.setCells g o vs) g t (Go.Proofs.YtijcbfhlhgjedaaGreatDoor.sets cs o vs)
  | [], _, _, h, _ => h
  | v :: r, _, _, h, o => BK.sets r (h.set_ o v) (o + 1)
theorem run_clear_one {P : Program} (w : World) (t e ty : TypeId) (z : Value) (ht : P.underlying t = some (.slice e)) (hv : ∀ w, (zeroValue e).run P w = .ok z w) (zs : List Value) (hz : z.cells.toList = zs) (h1 : ∀ u ∈ zs, u.oneCell' = true) (b o c : Nat)
    (hc : ∀ j, j < zs.length → (w.cell? ⟨b, o + j, none⟩).isSome = true) (hf : ∀ j, j < zs.length → w.frozen? ⟨b, o + j, none⟩ = false) :
    (Builtin.clear_ #[t] ty #[.slice (some ⟨b, o, none⟩) 1 c]).run P w = .ok (.tuple #[]) (w.setCells b o zs) := by
  have hzs : z.cells.size = zs.length := by rw [← hz]; simp
  have hzc : (Builtin.zeroCells z.cells 1).toList = zs := by
    apply List.ext_getElem?
    intro i
    rw [← hz]
    simp only [Builtin.zeroCells, Array.getElem?_toList, Nat.one_mul]
    rcases Nat.lt_or_ge i z.cells.size with hlt | hge
    · simp [hlt, Nat.mod_eq_of_lt hlt]
    · simp [Nat.not_lt.2 hge]
  have hst := run_storeCells_cells (P := P) b o zs 0 w (by simpa using hc) (by simpa using hf) h1
  simp only [Nat.add_zero] at hst
  simp [Builtin.clear_, run_underlying ht, hv, hzc, hst]
/-- A row without one of its elements: those behind it moved up, the last place cleared. -/
theorem OW.dele {α : Type} {f : α → List Value} {sz : Nat} {e : TypeId} {base : Nat} {w : World} {b n c i : Nat} {A B : List α} {x : α} (h : OW f sz e base w (some ⟨b, 0, none⟩) n c (A ++ x :: B)) (hf : ∀ x, (f x).length = sz) (hi : A.length = i) (zs : List Value) (hz : zs.length = sz) :
    OW f sz e base ((w.setCells b (i * sz) (B.flatMap f)).setCells b ((n - 1) * sz) zs) (some ⟨b, 0, none⟩) (n - 1) c (A ++ B) := by
  have hn : n = i + 1 + B.length := by rw [h.2]; simp; omega
  have hlb := flat_len hf B
  have hla : (A.flatMap f).length = i * sz := by rw [flat_len hf A, hi]
  rcases h.1.2 with ⟨h3, _⟩ | ⟨g, cap, cur, h3, hb, hg, hn', hc, hs, ht⟩
  · cases h3
  · injection h3 with h3 h4 h5
    injection h3 with h3
    injection h3 with h3
    subst h3 h5
    have hn1 : n * sz = i * sz + sz + B.length * sz := by rw [hn, Nat.add_mul, Nat.add_mul, Nat.one_mul]
    have hcs : n * sz ≤ cur.size := by rw [hs]; exact Nat.mul_le_mul_right _ hn'
    have hn2 : (n - 1) * sz = i * sz + B.length * sz := by rw [hn, show i + 1 + B.length - 1 = i + B.length by omega, Nat.add_mul]
    have k1 : BK w b e cur := hg
    have k2 := BK.sets zs (BK.sets (B.flatMap f) k1 (i * sz)) ((n - 1) * sz)
    have hsz2 : (sets cur (i * sz) (B.flatMap f)).size = cur.size := sets_size _ _ _
    have hta : cur.toList.take (i * sz) = A.flatMap f := by
      have := congrArg (List.take (i * sz)) ht
      rw [List.take_take, Nat.min_eq_left (by omega), List.flatMap_append, List.take_left' hla] at this
      exact this
    refine ⟨⟨by rw [List.flatMap_append, List.length_append, hla, hlb, hn2], .inr ⟨b, c, _, rfl, hb, k2, by omega, hc, by rw [sets_size, sets_size, hs], ?_⟩⟩, by rw [hn]; simp; omega⟩
    rw [sets_list _ _ _ (by rw [hsz2, hz]; omega), List.take_left' (by rw [List.length_take, Array.length_toList, hsz2]; omega), sets_list _ _ _ (by rw [hlb]; omega), hta, hn2, List.flatMap_append, ← List.append_assoc]
    exact List.take_left' (by rw [List.length_append, hla, hlb])
theorem only_sets {a : World} {g : Nat} : ∀ (vs : List Value) {w : World} (o : Nat), a.grownBy w (some g) → a.grownBy (w.setCells g o vs) (some g)
  | [], _, _, h => h
  | v :: r, _, o, h => only_sets r (o + 1) (only_set h v)
set_option maxRecDepth 100000 in
set_option maxHeartbeats 4000000 in
theorem DelC_any (base b n c i : Nat) (A B : List Crest) (x : Crest) (w : World) (h : OW cC 2 76 base w (some ⟨b, 0, none⟩) n c (A ++ x :: B)) (hi : A.length = i) (hn : n ≤ 100000) :
    Calls Tryz.prog 72 #[.slice (some ⟨b, 0, none⟩) n c, .int .i64 i, .int .i64 ((i + 1 : Nat) : Int)] w fun ev w' => ev = .returned (.slice (some ⟨b, 0, none⟩) (n - 1) c) ∧ OW cC 2 76 base w' (some ⟨b, 0, none⟩) (n - 1) c (A ++ B) ∧ w.grownBy w' (some b) := by
  have HH := Lib.hid h
  have hnl : n = i + 1 + B.length := by rw [h.2]; simp; omega
  obtain ⟨hnc, hcm⟩ : n ≤ c ∧ c ≤ maxLen := by
    rcases h.1.2 with ⟨h3, _⟩ | ⟨g, cap, cur, h3, hb, hg, hn', hc, hs, ht⟩
    · cases h3
    · injection h3 with h3 h4 h5
      subst h5
      exact ⟨hn', hc⟩
  obtain ⟨j, hj⟩ : ∃ j, j = i + 1 := ⟨_, rfl⟩
  obtain ⟨m, hm⟩ : ∃ m, m = B.length := ⟨_, rfl⟩
  rw [← hj]
  have hij : i < j := by omega
  have hjn : j ≤ n := by omega
  have hjc : j ≤ c := by omega
  have hic : i ≤ c := by omega
  have hmn : n - j = m := by omega
  have hcm2 : c ≤ 9223372036854775807 := by unfold maxLen at hcm; omega
  have HJ := Lib.hid hj
  have HM := Lib.hid hm
  have HI := Lib.hid hi
  have HNL := Lib.hid hnl
  clear h hnl hj hm hi hcm
  have hne : ((i : Int) == (j : Int)) = false := by simp; omega
  obtain ⟨i0, hi0, hzz, hz1, _⟩ := info_parts infoC
  obtain ⟨news, hnews⟩ : ∃ news, news = B.flatMap cC := ⟨_, rfl⟩
  have hnl2 : Hid (news.length = m * 2) := by show _ = _; rw [hnews, flat_len cC_len B, HM.out]
  have hone : Hid (∀ u ∈ news, u.oneCell' = true) := by
    intro u hu
    rw [hnews] at hu
    obtain ⟨y, _, hy⟩ := List.mem_flatMap.1 hu
    exact oneC y u hy
  obtain ⟨b', hb', hbl, _, hfz, hrow⟩ := HH.out.at_ cC_len _ rfl
  cases hb'
  have hcell : Hid (∀ q u, ((A ++ x :: B).flatMap cC)[q]? = some u → w.cell? ⟨b, q, none⟩ = some u) := by
    intro q u hq
    have hfl := flat_len cC_len (A ++ x :: B)
    have hql : q < ((A ++ x :: B).flatMap cC).length := (List.getElem?_eq_some_iff.1 hq).1
    rw [hfl] at hql
    have hdl : q / 2 < (A ++ x :: B).length := by omega
    have e0 : q = q / 2 * 2 + q % 2 := by omega
    obtain ⟨y, hy⟩ : ∃ y, (A ++ x :: B)[q / 2]? = some y := ⟨_, List.getElem?_eq_getElem hdl⟩
    have hm2 : q % 2 < (cC y).length := by rw [cC_len y]; omega
    have h2 := flat_at cC_len (A ++ x :: B) (q / 2) y hy (q % 2) _ (List.getElem?_eq_getElem hm2)
    rw [← e0, hq] at h2
    have h3 := hrow (q / 2) y hy (q % 2) _ (List.getElem?_eq_getElem hm2)
    rw [show 0 + q / 2 * 2 + q % 2 = q by omega] at h3
    rw [h3, h2]
  obtain ⟨AD, hA, hsrc⟩ : ∃ AD : Addr, (if c = j then (some ⟨b, 0, none⟩ : Option Addr) else some ⟨b, j * 2, none⟩) = some AD ∧ Hid (∀ t u, news[t]? = some u → w.drew.cell? (AD.add t) = some u) := by
    by_cases hcj : c = j
    · refine ⟨⟨b, 0, none⟩, by simp [hcj], fun t u hu => ?_⟩
      have h0 : news.length = 0 := by rw [hnl2.out]; have : m = 0 := by omega
                                      rw [this, Nat.zero_mul]
      rw [List.length_eq_zero_iff.1 h0] at hu
      simp at hu
    · refine ⟨⟨b, j * 2, none⟩, by simp [hcj], fun t u hu => ?_⟩
      have e0 : ((⟨b, j * 2, none⟩ : Addr).add t) = ⟨b, j * 2 + t, none⟩ := by unfold Addr.add; split <;> simp_all
      rw [e0]
      refine hcell.out _ _ ?_
      have e1 : (A ++ x :: B).flatMap cC = (A ++ [x]).flatMap cC ++ news := by rw [hnews, ← List.flatMap_append]; simp
      rw [e1, List.getElem?_append_right (by rw [flat_len cC_len, List.length_append, HI.out]; have := HJ.out; simp; omega), flat_len cC_len, List.length_append, HI.out]
      rw [show j * 2 + t - (i + [x].length) * 2 = t by have := HJ.out; simp; omega]
      exact hu
  have hfits : Hid (∀ t, t < news.length → (w.drew.cell? ⟨b, 0 + i * 2 + t, none⟩).isSome = true ∧ w.drew.frozen? ⟨b, 0 + i * 2 + t, none⟩ = false) := by
    intro t ht
    rw [hnl2.out] at ht
    have hq : 0 + i * 2 + t < ((A ++ x :: B).flatMap cC).length := by rw [flat_len cC_len]; have := HNL.out; simp; have := HI.out; have := HM.out; omega
    refine ⟨?_, hfz _⟩
    show (w.cell? _).isSome = true
    rw [hcell.out _ _ (List.getElem?_eq_getElem hq)]
    rfl
  clear hrow
  have HNEWS := Lib.hid hnews
  clear hnews
  obtain ⟨W1, hW1⟩ : ∃ W1, W1 = w.drew.setCells b (0 + i * 2) news := ⟨_, rfl⟩
  have hW := Lib.hid hW1
  have hclear : ∀ ty, (Builtin.clear_ #[23] ty #[.slice (some ⟨b, (i + m) * 2, none⟩) 1 (c - (i + m))]).run Tryz.prog W1 = .ok (.tuple #[]) (W1.setCells b ((i + m) * 2) [.int .i64 0, .int .i64 0]) := fun ty =>
    run_clear_one W1 _ _ ty (.agg #[.int .i64 0, .int .i64 0]) Tryz.underlying23 (fun w => by simp [zeroValue, typeInfo, hi0, hzz]) [.int .i64 0, .int .i64 0] rfl (by intro u hu; simp at hu; subst hu; rfl) b ((i + m) * 2) (c - (i + m))
      (fun q hq => by
        rw [hW1]
        refine World.isSome_setCells b news _ _ _ ?_
        have hql : (i + m) * 2 + q < ((A ++ x :: B).flatMap cC).length := by rw [flat_len cC_len]; have := HM.out; have := HI.out; simp at hq ⊢; omega
        show (w.cell? _).isSome = true
        rw [hcell.out _ _ (List.getElem?_eq_getElem hql)]
        rfl)
      (fun q _ => by rw [hW1, World.frozen?_setCells]; exact hfz _)
  have hqn : n - (i + m) = 1 := by have := HNL.out; have := HM.out; omega
  have hcne : ¬ c = i + m := by omega
  have hcle : i + m ≤ n := by omega
  have hcle2 : i + m < c := by omega
  clear hfz hW1 hcell
  go_enter Tryz.func72, Tryz.ntmps72
  go_wp2_with fail
  go_region_law (refine step_append_room rfl (.tmp 22) (.tmp 25) 23 rfl 76 i0 2 Tryz.underlying23 hi0 hz1 b 0 i c (by simp [Act.eval, Act.put]) AD m (c - j) news (by simp [Act.eval, Act.put]) hnl2.out hsrc.out hone.out (by omega) hfits.out ?_; rw [← hW.out])
  go_wp2_with fail
  go_ret
  have e2 : i + m = n - 1 := by omega

  have hdd : OW cC 2 76 base ((w.drew.setCells b (0 + i * 2) news).setCells b ((n - 1) * 2) [.int .i64 0, .int .i64 0]) (some ⟨b, 0, none⟩) (n - 1) c (A ++ B) := by
    have h2 := OW.dele (HH.out.drew) cC_len HI.out [.int .i64 0, .int .i64 0] rfl
    rw [HNEWS.out, Nat.zero_add]
    exact h2
  refine ⟨by rw [e2]; rfl, ?_, ?_⟩
  · rw [hW.out, e2]; exact hdd
  · rw [hW.out]; exact only_sets _ _ (only_sets _ _ (only_drew (World.grownBy.refl w _)))
set_option maxRecDepth 100000 in
set_option maxHeartbeats 4000000 in
theorem DelJ_any (base b n c i : Nat) (A B : List Junc) (x : Junc) (w : World) (h : OW jC 3 78 base w (some ⟨b, 0, none⟩) n c (A ++ x :: B)) (hi : A.length = i) (hn : n ≤ 100000) :
    Calls Tryz.prog 76 #[.slice (some ⟨b, 0, none⟩) n c, .int .i64 i, .int .i64 ((i + 1 : Nat) : Int)] w fun ev w' => ev = .returned (.slice (some ⟨b, 0, none⟩) (n - 1) c) ∧ OW jC 3 78 base w' (some ⟨b, 0, none⟩) (n - 1) c (A ++ B) ∧ w.grownBy w' (some b) := by
  have HH := Lib.hid h
  have hnl : n = i + 1 + B.length := by rw [h.2]; simp; omega
  obtain ⟨hnc, hcm⟩ : n ≤ c ∧ c ≤ maxLen := by
    rcases h.1.2 with ⟨h3, _⟩ | ⟨g, cap, cur, h3, hb, hg, hn', hc, hs, ht⟩
    · cases h3
    · injection h3 with h3 h4 h5
      subst h5
      exact ⟨hn', hc⟩
  obtain ⟨j, hj⟩ : ∃ j, j = i + 1 := ⟨_, rfl⟩
  obtain ⟨m, hm⟩ : ∃ m, m = B.length := ⟨_, rfl⟩
  rw [← hj]
  have hij : i < j := by omega
  have hjn : j ≤ n := by omega
  have hjc : j ≤ c := by omega
  have hic : i ≤ c := by omega
  have hmn : n - j = m := by omega
  have hcm2 : c ≤ 9223372036854775807 := by unfold maxLen at hcm; omega
  have HJ := Lib.hid hj
  have HM := Lib.hid hm
  have HI := Lib.hid hi
  have HNL := Lib.hid hnl
  clear h hnl hj hm hi hcm
  have hne : ((i : Int) == (j : Int)) = false := by simp; omega
  obtain ⟨i0, hi0, hzz, hz1, _⟩ := info_parts infoJ
  obtain ⟨news, hnews⟩ : ∃ news, news = B.flatMap jC := ⟨_, rfl⟩
  have hnl2 : Hid (news.length = m * 3) := by show _ = _; rw [hnews, flat_len jC_len B, HM.out]
  have hone : Hid (∀ u ∈ news, u.oneCell' = true) := by
    intro u hu
    rw [hnews] at hu
    obtain ⟨y, _, hy⟩ := List.mem_flatMap.1 hu
    exact oneJ y u hy
  obtain ⟨b', hb', hbl, _, hfz, hrow⟩ := HH.out.at_ jC_len _ rfl
  cases hb'
  have hcell : Hid (∀ q u, ((A ++ x :: B).flatMap jC)[q]? = some u → w.cell? ⟨b, q, none⟩ = some u) := by
    intro q u hq
    have hfl := flat_len jC_len (A ++ x :: B)
    have hql : q < ((A ++ x :: B).flatMap jC).length := (List.getElem?_eq_some_iff.1 hq).1
    rw [hfl] at hql
    have hdl : q / 3 < (A ++ x :: B).length := by omega
    have e0 : q = q / 3 * 3 + q % 3 := by omega
    obtain ⟨y, hy⟩ : ∃ y, (A ++ x :: B)[q / 3]? = some y := ⟨_, List.getElem?_eq_getElem hdl⟩
    have hm2 : q % 3 < (jC y).length := by rw [jC_len y]; omega
    have h2 := flat_at jC_len (A ++ x :: B) (q / 3) y hy (q % 3) _ (List.getElem?_eq_getElem hm2)
    rw [← e0, hq] at h2
    have h3 := hrow (q / 3) y hy (q % 3) _ (List.getElem?_eq_getElem hm2)
    rw [show 0 + q / 3 * 3 + q % 3 = q by omega] at h3
    rw [h3, h2]
  obtain ⟨AD, hA, hsrc⟩ : ∃ AD : Addr, (if c = j then (some ⟨b, 0, none⟩ : Option Addr) else some ⟨b, j * 3, none⟩) = some AD ∧ Hid (∀ t u, news[t]? = some u → w.drew.cell? (AD.add t) = some u) := by
    by_cases hcj : c = j
    · refine ⟨⟨b, 0, none⟩, by simp [hcj], fun t u hu => ?_⟩
      have h0 : news.length = 0 := by rw [hnl2.out]; have : m = 0 := by omega
                                      rw [this, Nat.zero_mul]
      rw [List.length_eq_zero_iff.1 h0] at hu
      simp at hu
    · refine ⟨⟨b, j * 3, none⟩, by simp [hcj], fun t u hu => ?_⟩
      have e0 : ((⟨b, j * 3, none⟩ : Addr).add t) = ⟨b, j * 3 + t, none⟩ := by unfold Addr.add; split <;> simp_all
      rw [e0]
      refine hcell.out _ _ ?_
      have e1 : (A ++ x :: B).flatMap jC = (A ++ [x]).flatMap jC ++ news := by rw [hnews, ← List.flatMap_append]; simp
      rw [e1, List.getElem?_append_right (by rw [flat_len jC_len, List.length_append, HI.out]; have := HJ.out; simp; omega), flat_len jC_len, List.length_append, HI.out]
      rw [show j * 3 + t - (i + [x].length) * 3 = t by have := HJ.out; simp; omega]
      exact hu
  have hfits : Hid (∀ t, t < news.length → (w.drew.cell? ⟨b, 0 + i * 3 + t, none⟩).isSome = true ∧ w.drew.frozen? ⟨b, 0 + i * 3 + t, none⟩ = false) := by
    intro t ht
    rw [hnl2.out] at ht
    have hq : 0 + i * 3 + t < ((A ++ x :: B).flatMap jC).length := by rw [flat_len jC_len]; have := HNL.out; simp; have := HI.out; have := HM.out; omega
    refine ⟨?_, hfz _⟩
    show (w.cell? _).isSome = true
    rw [hcell.out _ _ (List.getElem?_eq_getElem hq)]
    rfl
  clear hrow
  have HNEWS := Lib.hid hnews
  clear hnews
  obtain ⟨W1, hW1⟩ : ∃ W1, W1 = w.drew.setCells b (0 + i * 3) news := ⟨_, rfl⟩
  have hW := Lib.hid hW1
  have hclear : ∀ ty, (Builtin.clear_ #[24] ty #[.slice (some ⟨b, (i + m) * 3, none⟩) 1 (c - (i + m))]).run Tryz.prog W1 = .ok (.tuple #[]) (W1.setCells b ((i + m) * 3) [.int .i64 0, .int .i64 0, .int .i64 0]) := fun ty =>
    run_clear_one W1 _ _ ty (.agg #[.int .i64 0, .int .i64 0, .int .i64 0]) Tryz.underlying24 (fun w => by simp [zeroValue, typeInfo, hi0, hzz]) [.int .i64 0, .int .i64 0, .int .i64 0] rfl (by intro u hu; simp at hu; subst hu; rfl) b ((i + m) * 3) (c - (i + m))
      (fun q hq => by
        rw [hW1]
        refine World.isSome_setCells b news _ _ _ ?_
        have hql : (i + m) * 3 + q < ((A ++ x :: B).flatMap jC).length := by rw [flat_len jC_len]; have := HM.out; have := HI.out; simp at hq ⊢; omega
        show (w.cell? _).isSome = true
        rw [hcell.out _ _ (List.getElem?_eq_getElem hql)]
        rfl)
      (fun q _ => by rw [hW1, World.frozen?_setCells]; exact hfz _)
  have hqn : n - (i + m) = 1 := by have := HNL.out; have := HM.out; omega
  have hcne : ¬ c = i + m := by omega
  have hcle : i + m ≤ n := by omega
  have hcle2 : i + m < c := by omega
  clear hfz hW1 hcell
  go_enter Tryz.func76, Tryz.ntmps76
  go_wp2_with fail
  go_region_law (refine step_append_room rfl (.tmp 22) (.tmp 25) 24 rfl 78 i0 3 Tryz.underlying24 hi0 hz1 b 0 i c (by simp [Act.eval, Act.put]) AD m (c - j) news (by simp [Act.eval, Act.put]) hnl2.out hsrc.out hone.out (by omega) hfits.out ?_; rw [← hW.out])
  go_wp2_with fail
  go_ret
  have e2 : i + m = n - 1 := by omega

  have hdd : OW jC 3 78 base ((w.drew.setCells b (0 + i * 3) news).setCells b ((n - 1) * 3) [.int .i64 0, .int .i64 0, .int .i64 0]) (some ⟨b, 0, none⟩) (n - 1) c (A ++ B) := by
    have h2 := OW.dele (HH.out.drew) jC_len HI.out [.int .i64 0, .int .i64 0, .int .i64 0] rfl
    rw [HNEWS.out, Nat.zero_add]
    exact h2
  refine ⟨by rw [e2]; rfl, ?_, ?_⟩
  · rw [hW.out, e2]; exact hdd
  · rw [hW.out]; exact only_sets _ _ (only_sets _ _ (only_drew (World.grownBy.refl w _)))
end Go.Proofs.YtijcbfhlhgjedaaGreatDoor

/- The closures of road.Safer that make one element of two, and what merging makes of a sorted list. -/
namespace Go.Proofs.YtijcbfhlhgjedaaGreatDoor
open Go.RowKit Go.Shelf Go.Sort Go.Proofs

def bothC (x y : Crest) : Crest := ⟨x.pos, if x.siz < y.siz then y.siz else x.siz⟩
def bothJ (x _ : Junc) : Junc := x
def okC (_ _ : Crest) : Bool := true
def okJ (x y : Junc) : Bool := decide (x.pos = y.pos) && (decide (x.arms = y.arms) && decide (x.way = y.way))
section
variable {α : Type} (key : α → Int) (both : α → α → α) (ok : α → α → Bool)
/-- Neighbours with equal keys become one; the list x :: R. -/
def ded : α → List α → List α
  | x, [] => [x]
  | x, y :: r => if key x = key y then ded (both x y) r else x :: ded y r
/-- No two neighbours that cannot be one. -/
def good : α → List α → Bool
  | _, [] => true
  | x, y :: r => if key x = key y then (ok x y && good (both x y) r) else good y r
def mgd (l : List α) : List α := match l with | [] => [] | x :: r => ded key both x r
def mgood (l : List α) : Bool := match l with | [] => true | x :: r => good key both ok x r
end
set_option maxRecDepth 100000 in
theorem bothC_any (x y : Crest) (w : World) : Calls Tryz.prog 33 #[.agg #[.int .i64 x.pos, .int .i64 x.siz], .agg #[.int .i64 y.pos, .int .i64 y.siz]] w fun e w' =>
    e = .returned (.tuple #[.agg #[.int .i64 (bothC x y).pos, .int .i64 (bothC x y).siz], .bool (okC x y)]) ∧ Below w.heap.size w w' := by
  obtain ⟨M, hM⟩ : ∃ M, M = (bothC x y).siz := ⟨_, rfl⟩
  have hite : (if x.siz < y.siz then y.siz else x.siz) = M := hM.symm
  rw [← hM]
  have hz : BK (((w.alloc (.cells #[.int .i64 x.pos, .int .i64 x.siz] 76)).alloc (.cells #[.int .i64 y.pos, .int .i64 y.siz] 76)).alloc (.cells #[.int .i64 x.pos, .int .i64 M] 76)) (w.heap.size + 1 + 1) 76 #[.int .i64 x.pos, .int .i64 M] := by
    have := BK.new ((w.alloc (.cells #[.int .i64 x.pos, .int .i64 x.siz] 76)).alloc (.cells #[.int .i64 y.pos, .int .i64 y.siz] 76)) 76 #[.int .i64 x.pos, .int .i64 M]
    rw [World.size_alloc, World.size_alloc] at this
    exact this
  have hb : Below w.heap.size w (((w.alloc (.cells #[.int .i64 x.pos, .int .i64 x.siz] 76)).alloc (.cells #[.int .i64 y.pos, .int .i64 y.siz] 76)).alloc (.cells #[.int .i64 x.pos, .int .i64 M] 76)) := (((Below.refl _ _).alloc (Nat.le_refl _) _).alloc (by simp) _).alloc (by simp <;> omega) _
  have HZ := Lib.hid hz
  have HB := Lib.hid hb
  clear hM hz hb
  go_enter Tryz.func33, Tryz.ntmps33
  go_wp2_with fail
  refine bodyPost_ret (v := .tuple #[.agg #[.int .i64 x.pos, .int .i64 M], .bool true]) (by simp [results, Tryz.results33, go_sem]) rfl ⟨rfl, HB.out⟩
set_option maxRecDepth 100000 in
theorem bothJ_any (x y : Junc) (w : World) : Calls Tryz.prog 36 #[.agg #[.int .i64 x.pos, .int .i64 x.arms, .int .i64 x.way], .agg #[.int .i64 y.pos, .int .i64 y.arms, .int .i64 y.way]] w fun e w' =>
    e = .returned (.tuple #[.agg #[.int .i64 (bothJ x y).pos, .int .i64 (bothJ x y).arms, .int .i64 (bothJ x y).way], .bool (okJ x y)]) ∧ Below w.heap.size w w' := by
  simp only [bothJ]
  go_enter Tryz.func36, Tryz.ntmps36
  by_cases h1 : x.pos = y.pos
  · by_cases h2 : x.arms = y.arms
    · by_cases h3 : x.way = y.way
      · have e : x = y := by cases x; cases y; simp at h1 h2 h3; simp [h1, h2, h3]
        subst e
        clear h1 h2 h3
        go_wp2_with fail
        go_region
        go_wp2_with fail
        refine bodyPost_ret (v := .tuple #[.agg #[.int .i64 x.pos, .int .i64 x.arms, .int .i64 x.way], .bool true]) (by simp [results, Tryz.results36, go_sem]) rfl ⟨by simp [okJ], below_drewN ((((Below.refl _ _).alloc (Nat.le_refl _) _).alloc (by simp) _).alloc (by simp <;> omega) _) 1⟩
      · have h3' : (x.way == y.way) = false := by simpa using h3
        go_wp2_with fail
        go_region
        go_wp2_with fail
        refine bodyPost_ret (v := .tuple #[.agg #[.int .i64 x.pos, .int .i64 x.arms, .int .i64 x.way], .bool false]) (by simp [results, Tryz.results36, go_sem, h1, h2]) rfl ⟨by simp [okJ, h3], below_drewN ((((Below.refl _ _).alloc (Nat.le_refl _) _).alloc (by simp) _).alloc (by simp <;> omega) _) 1⟩
    · have h2' : (x.arms == y.arms) = false := by simpa using h2
      go_wp2_with fail
      go_region
      go_wp2_with fail
      refine bodyPost_ret (v := .tuple #[.agg #[.int .i64 x.pos, .int .i64 x.arms, .int .i64 x.way], .bool false]) (by simp [results, Tryz.results36, go_sem, h1]) rfl ⟨by simp [okJ, h2], below_drewN ((((Below.refl _ _).alloc (Nat.le_refl _) _).alloc (by simp) _).alloc (by simp <;> omega) _) 1⟩
  · have h1' : (x.pos == y.pos) = false := by simpa using h1
    go_wp2_with fail
    go_region
    go_wp2_with fail
    refine bodyPost_ret (v := .tuple #[.agg #[.int .i64 x.pos, .int .i64 x.arms, .int .i64 x.way], .bool false]) (by simp [results, Tryz.results36, go_sem]) rfl ⟨by simp [okJ, h1], below_drewN ((((Below.refl _ _).alloc (Nat.le_refl _) _).alloc (by simp) _).alloc (by simp <;> omega) _) 1⟩
end Go.Proofs.YtijcbfhlhgjedaaGreatDoor
