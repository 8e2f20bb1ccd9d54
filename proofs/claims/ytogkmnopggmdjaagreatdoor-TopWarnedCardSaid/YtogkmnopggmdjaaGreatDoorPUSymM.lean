/- slices.symMergeCmpFunc, stableCmpFunc, SortStableFunc at the things that pace notes. -/
import Derived.Test.YtogkmnopggmdjaaGreatDoorPUSymA
namespace Go.Proofs.YtogkmnopggmdjaaGreatDoor
open Go.RowKit Go.Shelf Go.Sort Go.Proofs
/-- What symMerge does, where the stretch has at most N elements. -/
def SymOKU (N : Nat) : Prop := ∀ (base b n c a m e : Nat) (P L R Q : List PtR) (w : World), e - a ≤ N → OW ptC 2 140 base w (some ⟨b, 0, none⟩) n c (P ++ (L ++ (R ++ Q))) → P.length = a → a + L.length = m → m + R.length = e → 1 ≤ L.length → 1 ≤ R.length → Srt (fun x : PtR => x.pos) L → Srt (fun x : PtR => x.pos) R → n ≤ 100000 →
    Calls Tryz.prog 92 #[.slice (some ⟨b, 0, none⟩) n c, .int .i64 a, .int .i64 m, .int .i64 e, .func (.func 63) #[] #[]] w fun ev w' => (∃ v, ev = .returned v) ∧ OW ptC 2 140 base w' (some ⟨b, 0, none⟩) n c (P ++ (mrg (fun x : PtR => x.pos) L R ++ Q)) ∧ w.grownBy w' (some b)
set_option maxRecDepth 100000 in
set_option maxHeartbeats 8000000 in
theorem SymMU (N : Nat) (ih : SymOKU N) (base b n c a m e : Nat) (P L R Q : List PtR) (w : World) (hN : e - a ≤ N + 1) (h : OW ptC 2 140 base w (some ⟨b, 0, none⟩) n c (P ++ (L ++ (R ++ Q)))) (hP : P.length = a) (hm : a + L.length = m) (he : m + R.length = e) (hL2 : 2 ≤ L.length) (hR2 : 2 ≤ R.length) (hLs : Srt (fun x : PtR => x.pos) L) (hRs : Srt (fun x : PtR => x.pos) R) (hn : n ≤ 100000) :
    Calls Tryz.prog 92 #[.slice (some ⟨b, 0, none⟩) n c, .int .i64 a, .int .i64 m, .int .i64 e, .func (.func 63) #[] #[]] w fun ev w' => (∃ v, ev = .returned v) ∧ OW ptC 2 140 base w' (some ⟨b, 0, none⟩) n c (P ++ (mrg (fun x : PtR => x.pos) L R ++ Q)) ∧ w.grownBy w' (some b) := by
  have hmo : Tryz.prog.follows .mixedOrders = true := by kernel_rfl
  have IH := Lib.hid ih
  have HH := Lib.hid h
  have HNN := Lib.hid hN
  have HLS := Lib.hid hLs
  have HRS := Lib.hid hRs
  have HL2 := Lib.hid hL2
  have HR2 := Lib.hid hR2
  have hnl : n = P.length + L.length + R.length + Q.length := by rw [h.2]; simp; omega
  have hen : e ≤ n := by omega
  have hm1 : m < e := by omega
  have hm0 : a < m := by omega
  obtain ⟨D0, hD0⟩ : ∃ D0 : Nat, D0 = m - a := ⟨_, rfl⟩
  have hma : IntKind.i64.wrap ((m : Int) - (a : Int)) = (D0 : Int) := by rw [show (m : Int) - (a : Int) = (D0 : Int) by omega]; exact IntWalk.i64_in _ (by omega)
  have hD02 : ((D0 : Int) == 1) = false := by simp; omega
  obtain ⟨E0, hE0⟩ : ∃ E0 : Nat, E0 = e - m := ⟨_, rfl⟩
  have hem : IntKind.i64.wrap ((e : Int) - (m : Int)) = (E0 : Int) := by rw [show (e : Int) - (m : Int) = (E0 : Int) by omega]; exact IntWalk.i64_in _ (by omega)
  have hE02 : ((E0 : Int) == 1) = false := by simp; omega
  obtain ⟨mid, hmid⟩ : ∃ mid : Nat, mid = (a + e) / 2 := ⟨_, rfl⟩
  have hw1 : IntKind.i64.wrap ((a : Int) + (e : Int)) = (a : Int) + (e : Int) := IntWalk.i64_in _ (by omega)
  have hw2 : IntKind.u64.wrap ((a : Int) + (e : Int)) = (a : Int) + (e : Int) := u64_wrap (by omega) (by omega)
  have hw3 : IntKind.i64.wrap (((a : Int) + (e : Int)) / 2) = (mid : Int) := by rw [show ((a : Int) + (e : Int)) / 2 = (mid : Int) by omega]; exact IntWalk.i64_in _ (by omega)
  obtain ⟨nn, hnn⟩ : ∃ nn : Nat, nn = mid + m := ⟨_, rfl⟩
  have hw4 : IntKind.i64.wrap ((mid : Int) + (m : Int)) = (nn : Int) := by rw [show (mid : Int) + (m : Int) = (nn : Int) by omega]; exact IntWalk.i64_in _ (by omega)
  obtain ⟨pn, hpn⟩ : ∃ pn : Nat, pn = nn - 1 := ⟨_, rfl⟩
  have hw5 : IntKind.i64.wrap ((nn : Int) - 1) = (pn : Int) := by rw [show (nn : Int) - 1 = (pn : Int) by omega]; exact IntWalk.i64_in _ (by omega)
  obtain ⟨lo, hi, hlh⟩ : ∃ lo hi : Nat, (mid < m ∧ lo + e = mid + m ∧ hi = mid) ∨ (m ≤ mid ∧ lo = a ∧ hi = m) := by
    rcases Nat.lt_or_ge mid m with hlt | hge
    · exact ⟨mid + m - e, mid, .inl ⟨hlt, by omega, rfl⟩⟩
    · exact ⟨a, m, .inr ⟨hge, rfl, rfl⟩⟩
  have hlo1 : a ≤ lo := by omega
  have hlo2 : lo ≤ hi := by omega
  have hhi1 : hi ≤ m := by omega
  have hhi2 : hi ≤ mid := by omega
  have hmd1 : mid ≤ n := by omega
  have hmde : mid < e := by omega
  have hamd : a < mid := by omega
  have HP := Lib.hid hP
  have HM := Lib.hid hm
  have HE := Lib.hid he
  have HMID := Lib.hid hmid
  have HNV := Lib.hid hnn
  have HPN := Lib.hid hpn
  have HLH := Lib.hid hlh
  clear ih h hN hLs hRs hL2 hR2 hnl hD0 hE0 hP hm he hmid hnn hpn hlh
  go_enter Tryz.func92, Tryz.ntmps92
  go_upto_if 140 with fail
  go_cut [20, 21] from 138 (fun s20 s21 wx => s20 = .int .i64 lo ∧ s21 = .int .i64 hi ∧ wx = w)
  case first =>
    rcases HLH.out with ⟨q1, q2, q3⟩ | ⟨q1, q2, q3⟩
    · have hw6 : IntKind.i64.wrap ((nn : Int) - (e : Int)) = (lo : Int) := by have := HNV.out; rw [show (nn : Int) - (e : Int) = (lo : Int) by omega]; exact IntWalk.i64_in _ (by omega)
      have Q3 := Lib.hid q3
      clear q2 q3
      go_wp2_with fail
      go_meet
      case rel => exact ⟨rfl, by rw [Q3.out], rfl⟩
    · have q4 : ¬ mid < m := by omega
      have Q2 := Lib.hid q2
      have Q3 := Lib.hid q3
      clear q2 q3
      go_wp2_with fail
      go_meet
      case rel => exact ⟨by rw [Q2.out], by rw [Q3.out], rfl⟩
  case rest =>
  obtain ⟨rfl, rfl, hwc⟩ := hcut
  have hwc' := hwc.symm
  subst hwc'
  clear hwc
  go_wp2_with fail
  go_loopw [20, 21] (fun iv jv wr => ∃ s t : Nat, iv = .int .i64 s ∧ jv = .int .i64 t ∧ lo ≤ s ∧ s ≤ t ∧ t ≤ hi ∧ Hid (∀ x y, lo < s → L[s - 1 - a]? = some x → R[mid - s]? = some y → x.pos ≤ y.pos) ∧ Hid (∀ x y, t < hi → L[t - a]? = some x → R[mid - 1 - t]? = some y → y.pos < x.pos) ∧ OW ptC 2 140 base wr (some ⟨b, 0, none⟩) n c (P ++ (L ++ (R ++ Q))) ∧ w.grownBy wr (some b))
    (fun iv jv _ => (intOf jv).toNat - (intOf iv).toNat)
  case atStart => exact ⟨lo, hi, rfl, rfl, Nat.le_refl _, hlo2, Nat.le_refl _, Lib.hid (fun x y hlt => absurd hlt (Nat.lt_irrefl _)), Lib.hid (fun x y hlt => absurd hlt (Nat.lt_irrefl _)), HH.out, World.grownBy.refl w _⟩
  case round =>
    obtain ⟨s, t, rfl, rfl, hs1, hst, ht1, H1, H2, hO, hg⟩ := hrel
    by_cases hlt : s < t
    · obtain ⟨h, hh⟩ : ∃ h : Nat, h = (s + t) / 2 := ⟨_, rfl⟩
      have hv1 : IntKind.i64.wrap ((s : Int) + (t : Int)) = (s : Int) + (t : Int) := IntWalk.i64_in _ (by omega)
      have hv2 : IntKind.u64.wrap ((s : Int) + (t : Int)) = (s : Int) + (t : Int) := u64_wrap (by omega) (by omega)
      have hv3 : IntKind.i64.wrap (((s : Int) + (t : Int)) / 2) = (h : Int) := by rw [show ((s : Int) + (t : Int)) / 2 = (h : Int) by omega]; exact IntWalk.i64_in _ (by omega)
      have hsh : s ≤ h := by omega
      have hht : h < t := by omega
      obtain ⟨z, hz⟩ : ∃ z : Nat, z = m + (mid - 1 - h) := ⟨_, rfl⟩
      have hzp : IntKind.i64.wrap ((pn : Int) - (h : Int)) = (z : Int) := by
        have h1 := HPN.out; have h2 := HNV.out
        rw [show (pn : Int) - (h : Int) = (z : Int) by omega]; exact IntWalk.i64_in _ (by omega)
      have hLh : h - a < L.length := by have := HM.out; omega
      have hRh : mid - 1 - h < R.length := by have h1 := HE.out; have h2 := HM.out; have h3 := HLH.out; have h4 := HMID.out; omega
      obtain ⟨A1, x, B1, hA1, hB1⟩ := cutAt_ L hLh
      obtain ⟨A2, y, B2, hA2, hB2⟩ := cutAt_ R hRh
      have gx := get_at hA1 hB1
      have gy := get_at hA2 hB2
      have HGX := Lib.hid gx
      have HGY := Lib.hid gy
      have HHH := Lib.hid hh
      obtain ⟨b', hb', hbl, _, hfz, hrow⟩ := hO.at_ ptC_len _ rfl
      cases hb'
      have gj := get_at (l := P ++ (L ++ (R ++ Q))) (A := P ++ A1) (x := x) (B := B1 ++ (R ++ Q)) (i := h) (by rw [hA1]; simp) (by have h1 := HP.out; simp; omega)
      have gi := get_at (l := P ++ (L ++ (R ++ Q))) (A := P ++ (L ++ A2)) (x := y) (B := B2 ++ Q) (i := z) (by rw [hA2]; simp) (by have h1 := HP.out; have h2 := HM.out; simp; omega)
      have hzn : z < n := by
        have := (List.getElem?_eq_some_iff.1 gi).1
        rw [hO.2]; exact this
      have x0' := hrow (h) x gj 0 _ rfl
      have x1' := hrow (h) x gj 1 _ rfl
      have hax : ∀ q, 0 + (h) * 2 + q = (h) * 2 + q := fun q => by omega
      rw [hax] at x0' x1'
      rw [Nat.add_zero] at x0'
      have x0 := fun d os => cell_regrown x0' d os
      have x1 := fun d os => cell_regrown x1' d os
      clear hax
      have y0' := hrow (z) y gi 0 _ rfl
      have y1' := hrow (z) y gi 1 _ rfl
      have hay : ∀ q, 0 + (z) * 2 + q = (z) * 2 + q := fun q => by omega
      rw [hay] at y0' y1'
      rw [Nat.add_zero] at y0'
      have y0 := fun d os => cell_regrown y0' d os
      have y1 := fun d os => cell_regrown y1' d os
      clear hay
      have hi1 : (0 : Int) ≤ (h : Int) := by omega
      have hi2 : (h : Int) < (n : Int) := by omega
      have hi3 : (0 : Int) ≤ (z : Int) := by omega
      have hi4 : (z : Int) < (n : Int) := by omega
      obtain ⟨h1, hh1⟩ : ∃ h1, h1 = h + 1 := ⟨_, rfl⟩
      have hwh : IntKind.i64.wrap ((h : Int) + 1) = (h1 : Int) := by rw [show (h : Int) + 1 = (h1 : Int) by omega]; exact IntWalk.i64_in _ (by omega)
      have HH1 := Lib.hid hh1
      clear hrow gi gj hh hA1 hB1 hA2 hB2 hh1 gx gy hz hLh hRh
      go_wp2_with fail
      refine wp_region_ch 13 [11] hmo (by kernel_rfl) ?_
      simp only [List.take_succ_cons, List.take_zero, List.drop_succ_cons, List.drop_zero]
      repeat (refine wpC_q (by decide) (by decide) (fun K hK => ?_); go_simp; refine hK _ ?_; clear hK K)
      refine wpC_cg (ι := Unit) 63 #[.agg #[.int .i64 ((y.at_ : Nat) : Int), .int .i64 ((y.od : Nat) : Int)], .agg #[.int .i64 ((x.at_ : Nat) : Int), .int .i64 ((x.od : Nat) : Int)]] (fun _ => .int .i64 (cmpU y x)) (fun _ _ => True) (by decide) (by decide) (by go_simp) (fun w => by go_simp) stable_true (fun _ => stable_true) (fun W hW _ => ?_) (fun ix1 hs1 => ?_)
      · refine (cmpU_any y x W).mono ?_
        rintro ev w' ⟨rfl, hbl⟩
        exact ⟨(), rfl, trivial, hbl⟩
      repeat (refine wpC_q (by decide) (by decide) (fun K hK => ?_); go_simp; refine hK _ ?_; clear hK K)
      refine wpC_nil ?_
      intro w3 hbc _
      clear hs1
      have hO3 := hO.call hbc
      have hg3 := only_grown hg hbc
      clear hO hg x0 x0' x1 x1' y0 y0' y1 y1'
      by_cases hxy : y.pos < x.pos
      · have d1 : decide (cmpU y x < 0) = true := by rw [cmpU_lt]; simpa using hxy
        have HXY := Lib.hid hxy
        clear hxy
        go_wp2_with fail
        go_roundw
        case rel =>
          refine ⟨s, h, rfl, rfl, hs1, hsh, by omega, H1, Lib.hid (fun x' y' _ h1 h2 => ?_), hO3, hg3⟩
          rw [HGX.out] at h1
          rw [HGY.out] at h2
          cases h1
          cases h2
          exact HXY.out
        case measure => simp [intOf]; omega
      · have d1 : decide (cmpU y x < 0) = false := by rw [cmpU_lt]; simpa using hxy
        have HXY := Lib.hid (show x.pos ≤ y.pos by omega)
        clear hxy
        go_wp2_with fail
        go_roundw
        case rel =>
          have k1 := HH1.out
          refine ⟨h1, t, rfl, rfl, by omega, by omega, ht1, Lib.hid (fun x' y' _ h1 h2 => ?_), H2, hO3, hg3⟩
          rw [k1, Nat.add_sub_cancel, HGX.out] at h1
          rw [k1, Nat.add_comm h 1, ← Nat.sub_sub, HGY.out] at h2
          cases h1
          cases h2
          exact HXY.out
        case measure => have := HH1.out; simp [intOf]; omega
    · obtain rfl : s = t := by omega
      obtain ⟨L1, L2, R1, R2, e1, e2, e3, e4, e5, e6⟩ := sym_split (fun x : PtR => x.pos) HLS.out HRS.out HM.out HE.out (by have := HL2.out; omega) HMID.out HLH.out hs1 ht1 H1.out H2.out
      obtain ⟨en, hen0⟩ : ∃ en : Nat, en = m + R1.length := ⟨_, rfl⟩
      have hwe : IntKind.i64.wrap ((nn : Int) - (s : Int)) = (en : Int) := by
        have h2 := HNV.out
        rw [show (nn : Int) - (s : Int) = (en : Int) by omega]; exact IntWalk.i64_in _ (by omega)
      have hsm : s ≤ m := by omega
      have hse : s + L2.length = m := by have h1 := HM.out; rw [e1, List.length_append] at h1; omega
      have hee : en + R2.length = e := by have h1 := HE.out; rw [e2, List.length_append] at h1; omega
      have hLs := HLS.out
      have hRs := HRS.out
      rw [e1] at hLs
      rw [e2] at hRs
      have T1 := Lib.hid (hLs.sub (fun x : PtR => x.pos) (List.sublist_append_left _ _))
      have T2 := Lib.hid (hLs.sub (fun x : PtR => x.pos) (List.sublist_append_right _ _))
      have T3 := Lib.hid (hRs.sub (fun x : PtR => x.pos) (List.sublist_append_left _ _))
      have T4 := Lib.hid (hRs.sub (fun x : PtR => x.pos) (List.sublist_append_right _ _))
      have HRES : Hid (mrg (fun x : PtR => x.pos) L R = mrg (fun x : PtR => x.pos) L1 R1 ++ mrg (fun x : PtR => x.pos) L2 R2) := by show _ = _; rw [e1, e2]; exact mrg_split (fun x : PtR => x.pos) e5 e6
      have hO2 : OW ptC 2 140 base wr (some ⟨b, 0, none⟩) n c ((P ++ L1) ++ (L2 ++ (R1 ++ (R2 ++ Q)))) := by
        have := hO
        rw [e1, e2] at this
        simpa only [List.append_assoc] using this
      have E3 := Lib.hid e3
      have E4 := Lib.hid e4
      have HEN := Lib.hid hen0
      have HSE := Lib.hid hse
      have HEE := Lib.hid hee
      have hmen : m ≤ en := by omega
      have hene : en ≤ e := by omega
      have hsa : a ≤ s := by omega
      have hsmd : s ≤ mid := by omega
      have hmden : mid ≤ en := by omega
      clear e1 e2 e3 e4 e5 e6 hLs hRs hO H1 H2 hen0 hse hee
      go_upto_region 39 with fail
      go_cut [185] from 178 (fun sb wx => sb = .bool (decide (s < m) && decide (m < en)) ∧ wx = wr)
      case first =>
        by_cases h1 : s < m
        · by_cases h2 : m < en
          · go_wp2_with fail
            go_meet
            case rel => exact ⟨by simp [h1, h2], rfl⟩
          · go_wp2_with fail
            go_meet
            case rel => exact ⟨by simp [h2], rfl⟩
        · go_wp2_with fail
          go_meet
          case rel => exact ⟨by simp [h1], rfl⟩
      case rest =>
      obtain ⟨rfl, hwc⟩ := hcut
      have hwc' := hwc.symm
      subst hwc'
      clear hwc
      go_upto_if 185 with fail
      go_cut [] from 178 (fun wx => OW ptC 2 140 base wx (some ⟨b, 0, none⟩) n c ((P ++ L1) ++ (R1 ++ (L2 ++ (R2 ++ Q)))) ∧ w.grownBy wx (some b))
      case first =>
        cases hb : (decide (s < m) && decide (m < en))
        case true =>
          have hbb := hb
          simp only [Bool.and_eq_true, decide_eq_true_eq] at hbb
          obtain ⟨h1, h2⟩ := hbb
          clear hb
          go_wp2_with fail
          refine (RotU base b n c s m en (P ++ L1) L2 R1 (R2 ++ Q) _ hO2 (by have k1 := HP.out; have k2 := E3.out; simp; omega) HSE.out HEN.out.symm (by have := HSE.out; omega) (by have := HEN.out; omega) hn).mono ?_
          rintro ev w2 ⟨⟨v, rfl⟩, hO3, hg3⟩
          go_wp2_with fail
          go_meet
          case rel => exact ⟨hO3, only_trans hg hg3⟩
        case false =>
          have hbb := hb
          simp only [Bool.and_eq_false_iff, decide_eq_false_iff_not] at hbb
          have HBB := Lib.hid hbb
          clear hb hbb
          have hq : Hid ((P ++ L1) ++ (L2 ++ (R1 ++ (R2 ++ Q))) = (P ++ L1) ++ (R1 ++ (L2 ++ (R2 ++ Q)))) := by
            show _ = _
            rcases HBB.out with h1 | h1
            · have h0 : L2 = [] := List.eq_nil_of_length_eq_zero (by have := HSE.out; omega)
              rw [h0]; simp
            · have h0 : R1 = [] := List.eq_nil_of_length_eq_zero (by have := HEN.out; omega)
              rw [h0]; simp
          rw [hq.out] at hO2
          go_wp2_with fail
          go_meet
          case rel => exact ⟨hO2, hg⟩
      case rest =>
      obtain ⟨hO3, hg3⟩ := hcut
      obtain ⟨wr3, hw3⟩ : ∃ wr3, wr3 = wc := ⟨_, rfl⟩
      rw [← hw3] at hO3 hg3 ⊢
      clear hw3 hO2 hg
      have hO4 : OW ptC 2 140 base wr3 (some ⟨b, 0, none⟩) n c (P ++ (L1 ++ (R1 ++ (L2 ++ (R2 ++ Q))))) := by simpa only [List.append_assoc] using hO3
      clear hO3
      go_upto_region 41 with fail
      go_cut [199] from 192 (fun sb wx => sb = .bool (decide (a < s) && decide (s < mid)) ∧ wx = wr3)
      case first =>
        by_cases h1 : a < s
        · by_cases h2 : s < mid
          · go_wp2_with fail
            go_meet
            case rel => exact ⟨by simp [h1, h2], rfl⟩
          · go_wp2_with fail
            go_meet
            case rel => exact ⟨by simp [h2], rfl⟩
        · go_wp2_with fail
          go_meet
          case rel => exact ⟨by simp [h1], rfl⟩
      case rest =>
      obtain ⟨rfl, hwc⟩ := hcut
      have hwc' := hwc.symm
      subst hwc'
      clear hwc
      go_upto_if 199 with fail
      go_cut [] from 192 (fun wx => OW ptC 2 140 base wx (some ⟨b, 0, none⟩) n c (P ++ (mrg (fun x : PtR => x.pos) L1 R1 ++ (L2 ++ (R2 ++ Q)))) ∧ w.grownBy wx (some b))
      case first =>
        cases hb : (decide (a < s) && decide (s < mid))
        case true =>
          have hbb := hb
          simp only [Bool.and_eq_true, decide_eq_true_eq] at hbb
          obtain ⟨h1, h2⟩ := hbb
          clear hb
          go_wp2_with fail
          refine (IH.out base b n c a s mid P L1 R1 (L2 ++ (R2 ++ Q)) _ (by have := HNN.out; omega) hO4 HP.out E3.out E4.out (by have := E3.out; omega) (by have := E4.out; omega) T1.out T3.out hn).mono ?_
          rintro ev w2 ⟨⟨v, rfl⟩, hO5, hg5⟩
          go_wp2_with fail
          go_meet
          case rel => exact ⟨hO5, only_trans hg3 hg5⟩
        case false =>
          have hbb := hb
          simp only [Bool.and_eq_false_iff, decide_eq_false_iff_not] at hbb
          have HBB := Lib.hid hbb
          clear hb hbb
          have hq : Hid (L1 ++ (R1 ++ (L2 ++ (R2 ++ Q))) = mrg (fun x : PtR => x.pos) L1 R1 ++ (L2 ++ (R2 ++ Q))) := by
            show _ = _
            rcases HBB.out with h1 | h1
            · have h0 : L1 = [] := List.eq_nil_of_length_eq_zero (by have := E3.out; omega)
              rw [h0, nil_mrg]; simp
            · have h0 : R1 = [] := List.eq_nil_of_length_eq_zero (by have := E4.out; omega)
              rw [h0, mrg_nil]; simp
          rw [hq.out] at hO4
          go_wp2_with fail
          go_meet
          case rel => exact ⟨hO4, hg3⟩
      case rest =>
      obtain ⟨hO5, hg5⟩ := hcut
      obtain ⟨wr5, hw5'⟩ : ∃ wr5, wr5 = wc := ⟨_, rfl⟩
      rw [← hw5'] at hO5 hg5 ⊢
      clear hw5' hO4 hg3
      have hO6 : OW ptC 2 140 base wr5 (some ⟨b, 0, none⟩) n c ((P ++ mrg (fun x : PtR => x.pos) L1 R1) ++ (L2 ++ (R2 ++ Q))) := by simpa only [List.append_assoc] using hO5
      have hPM : Hid ((P ++ mrg (fun x : PtR => x.pos) L1 R1).length = mid) := by have k1 := HP.out; have k2 := E3.out; have k3 := E4.out; show _ = _; rw [List.length_append, mrgL_len]; omega
      have hME : Hid (mid + L2.length = en) := by have k1 := E4.out; have k2 := HSE.out; have k3 := HEN.out; show _ = _; omega
      have hFIN : Hid ((P ++ mrg (fun x : PtR => x.pos) L1 R1) ++ (mrg (fun x : PtR => x.pos) L2 R2 ++ Q) = P ++ (mrg (fun x : PtR => x.pos) L R ++ Q)) := by show _ = _; rw [HRES.out]; simp
      clear hO5
      by_cases h1 : mid < en
      · by_cases h2 : en < e
        · go_wp2_with fail
          refine (IH.out base b n c mid en e (P ++ mrg (fun x : PtR => x.pos) L1 R1) L2 R2 Q _ (by have := HNN.out; omega) hO6 hPM.out hME.out HEE.out (by have := hME.out; omega) (by have := HEE.out; omega) T2.out T4.out hn).mono ?_
          rintro ev w2 ⟨⟨v, rfl⟩, hO7, hg7⟩
          rw [hFIN.out] at hO7
          go_wp2_with fail
          go_end0
          exact ⟨⟨_, rfl⟩, hO7, only_trans hg5 hg7⟩
        · have h0 : R2 = [] := List.eq_nil_of_length_eq_zero (by have := HEE.out; omega)
          have hq : Hid ((P ++ mrg (fun x : PtR => x.pos) L1 R1) ++ (L2 ++ (R2 ++ Q)) = P ++ (mrg (fun x : PtR => x.pos) L R ++ Q)) := by show _ = _; rw [← hFIN.out, h0, mrg_nil]; simp
          rw [hq.out] at hO6
          clear h0
          go_wp2_with fail
          go_end0
          exact ⟨⟨_, rfl⟩, hO6, hg5⟩
      · have h0 : L2 = [] := List.eq_nil_of_length_eq_zero (by have := hME.out; omega)
        have hq : Hid ((P ++ mrg (fun x : PtR => x.pos) L1 R1) ++ (L2 ++ (R2 ++ Q)) = P ++ (mrg (fun x : PtR => x.pos) L R ++ Q)) := by show _ = _; rw [← hFIN.out, h0, nil_mrg]; simp
        rw [hq.out] at hO6
        clear h0
        go_wp2_with fail
        go_end0
        exact ⟨⟨_, rfl⟩, hO6, hg5⟩
end Go.Proofs.YtogkmnopggmdjaaGreatDoor

/- slices.stableCmpFunc and SortStableFunc at the things that pace notes. -/
namespace Go.Proofs.YtogkmnopggmdjaaGreatDoor
open Go.RowKit Go.Shelf Go.Sort Go.Proofs

theorem SymU : ∀ N, SymOKU N
  | 0 => fun base b n c a m e P L R Q w hN h hP hm he hL hR => by omega
  | N + 1 => fun base b n c a m e P L R Q w hN h hP hm he hL hR hLs hRs hn => by
    by_cases h1 : L.length = 1
    · exact SymAU base b n c a m e P L R Q w h hP hm he h1 hRs hn
    · by_cases h2 : R.length = 1
      · exact SymBU base b n c a m e P L R Q w h hP hm he (by omega) h2 hLs hn
      · exact SymMU N (SymU N) base b n c a m e P L R Q w hN h hP hm he (by omega) (by omega) hLs hRs hn
set_option maxRecDepth 100000 in
set_option maxHeartbeats 8000000 in
theorem StabU (base b n c : Nat) (xs : List PtR) (w : World) (h : OW ptC 2 140 base w (some ⟨b, 0, none⟩) n c xs) (hn : n ≤ 100000) :
    Calls Tryz.prog 78 #[.slice (some ⟨b, 0, none⟩) n c, .int .i64 n, .func (.func 63) #[] #[]] w fun ev w' => (∃ v, ev = .returned v) ∧ OW ptC 2 140 base w' (some ⟨b, 0, none⟩) n c (ssort (fun x : PtR => x.pos) xs) ∧ w.grownBy w' (some b) := by
  have HH := Lib.hid h
  have HN := Lib.hid h.2
  clear h
  go_enter Tryz.func78, Tryz.ntmps78
  go_wp2_with fail
  go_loopw [7, 8] (fun av bv wr => ∃ k a0 b0 : Nat, av = .int .i64 a0 ∧ bv = .int .i64 b0 ∧ Hid (a0 = k * 20) ∧ Hid (b0 = a0 + 20) ∧ a0 ≤ n ∧ OW ptC 2 140 base wr (some ⟨b, 0, none⟩) n c (bl (fun x : PtR => x.pos) 20 k xs) ∧ w.grownBy wr (some b))
    (fun av _ _ => n - (intOf av).toNat)
  case atStart => exact ⟨0, 0, 20, rfl, rfl, Lib.hid (by omega), Lib.hid rfl, Nat.zero_le _, HH.out, World.grownBy.refl w _⟩
  case round =>
    obtain ⟨k, a0, b0, rfl, rfl, HA0, HB0, hann, hO, hg⟩ := hrel
    have han : a0 ≤ n := hann
    obtain ⟨A, hA1, hA2, hA3⟩ := bl_step (fun x : PtR => x.pos) 20 k xs (by have h1 := HA0.out; have h2 := HN.out; omega)
    rw [hA2] at hO
    have hA1' : A.length = a0 := by rw [hA1]; exact HA0.out.symm
    obtain ⟨C, hC⟩ : ∃ C, C = (xs.drop (k * 20)).take 20 := ⟨_, rfl⟩
    obtain ⟨B, hB⟩ : ∃ B, B = (xs.drop (k * 20)).drop 20 := ⟨_, rfl⟩
    have hCl : C.length = min 20 (n - a0) := by rw [hC, List.length_take, List.length_drop, ← HN.out, ← HA0.out]
    rw [← hC, ← hB] at hO hA3
    have HA3 := Lib.hid hA3
    have HAL := Lib.hid hA1'
    have HCL := Lib.hid hCl
    clear hA1 hA2 hA3 hC hB hA1' hCl
    by_cases hlt : b0 ≤ n
    · obtain ⟨b1, hb1⟩ : ∃ b1, b1 = b0 + 20 := ⟨_, rfl⟩
      have hwb : IntKind.i64.wrap ((b0 : Int) + 20) = (b1 : Int) := by rw [show (b0 : Int) + 20 = (b1 : Int) by omega]; exact IntWalk.i64_in _ (by omega)
      have HB1 := Lib.hid hb1
      clear hb1
      go_wp2_with fail
      refine (InsU base b n c a0 b0 A C B _ hO HAL.out (by have h1 := HCL.out; have h2 := HB0.out; omega) hn).mono ?_
      rintro ev w2 ⟨⟨v, rfl⟩, hO2, hg2⟩
      rw [← HA3.out] at hO2
      go_wp2_with fail
      go_roundw
      case rel => exact ⟨k + 1, b0, b1, rfl, rfl, Lib.hid (by have h1 := HA0.out; have h2 := HB0.out; omega), HB1, hlt, hO2, only_trans hg hg2⟩
      case measure => have := HB0.out; simp [intOf]; omega
    · go_wp2_with fail
      refine (InsU base b n c a0 n A C B _ hO HAL.out (by have h1 := HCL.out; have h2 := HB0.out; omega) hn).mono ?_
      rintro ev w2 ⟨⟨v, rfl⟩, hO2, hg2⟩
      have hbs : bl (fun x : PtR => x.pos) 20 (k + 1) xs = bs (fun x : PtR => x.pos) 20 xs := bs_eq (fun x : PtR => x.pos) (by omega) (by have h1 := HA0.out; have h2 := HB0.out; have h3 := HN.out; omega)
      rw [← HA3.out, hbs] at hO2
      have HG := Lib.hid (only_trans hg hg2)
      have HO := Lib.hid hO2
      clear hO2 hg hg2 hO hbs HA3 HAL HCL HA0 HB0
      go_wp2_with fail
      go_loopw [6] (fun sv wq => ∃ S : Nat, sv = .int .i64 S ∧ 1 ≤ S ∧ S ≤ 400000 ∧ OW ptC 2 140 base wq (some ⟨b, 0, none⟩) n c (bs (fun x : PtR => x.pos) S xs) ∧ w.grownBy wq (some b))
        (fun sv _ => n - (intOf sv).toNat)
      case atStart => exact ⟨20, rfl, by omega, by omega, HO.out, HG.out⟩
      case round =>
        obtain ⟨S, rfl, hS1, hS2, hOS, hgS⟩ := hrel
        by_cases hlt2 : S < n
        · obtain ⟨S2, hSS⟩ : ∃ S2, S2 = 2 * S := ⟨_, rfl⟩
          have hw1 : IntKind.i64.wrap (2 * (S : Int)) = (S2 : Int) := by rw [show 2 * (S : Int) = (S2 : Int) by omega]; exact IntWalk.i64_in _ (by omega)
          have hw2 : IntKind.i64.wrap ((S : Int) * 2) = (S2 : Int) := by rw [show (S : Int) * 2 = (S2 : Int) by omega]; exact IntWalk.i64_in _ (by omega)
          have HSS := Lib.hid hSS
          have HOS := Lib.hid hOS
          have HGS := Lib.hid hgS
          clear hSS hOS hgS
          go_wp2_with fail
          go_loopw [7, 8] (fun av bv wr => ∃ k a0 b0 : Nat, av = .int .i64 a0 ∧ bv = .int .i64 b0 ∧ Hid (a0 = k * (2 * S)) ∧ Hid (b0 = a0 + S2) ∧ a0 ≤ n ∧ OW ptC 2 140 base wr (some ⟨b, 0, none⟩) n c (mx (fun x : PtR => x.pos) S k xs) ∧ w.grownBy wr (some b))
            (fun av _ _ => n - (intOf av).toNat)
          case atStart => exact ⟨0, 0, S2, rfl, rfl, Lib.hid (by omega), Lib.hid (by omega), Nat.zero_le _, HOS.out, HGS.out⟩
          case round =>
            obtain ⟨j, a0, b0, rfl, rfl, HA0, HB0, han2, hO, hg⟩ := hrel
            have han3 : a0 ≤ n := han2
            obtain ⟨A, hA1, hA2, hA3⟩ := mx_step (fun x : PtR => x.pos) S hS1 j xs (by have h1 := HA0.out; have h2 := HN.out; omega)
            have hA1' : A.length = a0 := by rw [hA1]; exact HA0.out.symm
            obtain ⟨D, hD⟩ : ∃ D, D = xs.drop (j * (2 * S)) := ⟨_, rfl⟩
            rw [← hD] at hA2 hA3
            have hDl : D.length = n - a0 := by rw [hD, List.length_drop, ← HN.out, ← HA0.out]
            have HAL := Lib.hid hA1'
            have HDL := Lib.hid hDl
            have HA2 := Lib.hid hA2
            have HA3 := Lib.hid hA3
            have hm1 : Hid (mrg (fun x : PtR => x.pos) (ssort (fun x : PtR => x.pos) (D.take S)) (ssort (fun x : PtR => x.pos) ((D.drop S).take S)) = ssort (fun x : PtR => x.pos) (D.take (2 * S))) := by show _ = _; rw [mrg_ssort, take_two]
            have hm2 : Hid (mx (fun x : PtR => x.pos) S j xs = A ++ (ssort (fun x : PtR => x.pos) (D.take S) ++ (ssort (fun x : PtR => x.pos) ((D.drop S).take S) ++ bs (fun x : PtR => x.pos) S (D.drop (2 * S))))) := by show _ = _; rw [HA2.out, bs_two (fun x : PtR => x.pos) D hS1]
            clear hA1 hA2 hA3 hD hA1' hDl
            obtain ⟨m0, hm0⟩ : ∃ m0, m0 = a0 + S := ⟨_, rfl⟩
            have hwm : IntKind.i64.wrap ((a0 : Int) + (S : Int)) = (m0 : Int) := by rw [show (a0 : Int) + (S : Int) = (m0 : Int) by omega]; exact IntWalk.i64_in _ (by omega)
            have HM0 := Lib.hid hm0
            clear hm0
            have hl1 : Hid (S ≤ n - a0 → (ssort (fun x : PtR => x.pos) (D.take S)).length = S) := by
              show _ → _
              intro hh
              rw [ssort_len, List.length_take, HDL.out]; omega
            have hl2 : Hid ((ssort (fun x : PtR => x.pos) ((D.drop S).take S)).length = min S (n - a0 - S)) := by show _ = _; rw [ssort_len, List.length_take, List.length_drop, HDL.out]
            by_cases hlt3 : b0 ≤ n
            · obtain ⟨b1, hb1⟩ : ∃ b1, b1 = b0 + S2 := ⟨_, rfl⟩
              have hwb : IntKind.i64.wrap ((b0 : Int) + (S2 : Int)) = (b1 : Int) := by rw [show (b0 : Int) + (S2 : Int) = (b1 : Int) by omega]; exact IntWalk.i64_in _ (by have := HSS.out; omega)
              have HB1 := Lib.hid hb1
              clear hb1
              rw [hm2.out] at hO
              go_wp2_with fail
              refine (SymU (b0 - a0) base b n c a0 m0 b0 A _ _ _ _ (Nat.le_refl _) hO HAL.out (by have h1 := hl1.out (by have := HB0.out; have := HSS.out; omega); have := HM0.out; omega) (by have h1 := hl2.out; have := HB0.out; have := HSS.out; have := HM0.out; omega) (by have h1 := hl1.out (by have := HB0.out; have := HSS.out; omega); omega) (by have h1 := hl2.out; have := HB0.out; have := HSS.out; omega) (ssort_srt _ _) (ssort_srt _ _) hn).mono ?_
              rintro ev w3 ⟨⟨v3, rfl⟩, hO3, hg3⟩
              rw [hm1.out, ← HA3.out] at hO3
              go_wp2_with fail
              go_roundw
              case rel => exact ⟨j + 1, b0, b1, rfl, rfl, Lib.hid (by have h1 := HA0.out; have h2 := HB0.out; have h3 := HSS.out; rw [Nat.succ_mul]; omega), HB1, hlt3, hO3, only_trans hg hg3⟩
              case measure => have := HB0.out; have := HSS.out; simp [intOf]; omega
            · by_cases hlt4 : m0 < n
              · rw [hm2.out] at hO
                go_wp2_with fail
                refine (SymU (n - a0) base b n c a0 m0 n A _ _ _ _ (Nat.le_refl _) hO HAL.out (by have h1 := hl1.out (by have := HM0.out; omega); have := HM0.out; omega) (by have h1 := hl2.out; have := HB0.out; have := HSS.out; have := HM0.out; omega) (by have h1 := hl1.out (by have := HM0.out; omega); omega) (by have h1 := hl2.out; have := HM0.out; omega) (ssort_srt _ _) (ssort_srt _ _) hn).mono ?_
                rintro ev w3 ⟨⟨v3, rfl⟩, hO3, hg3⟩
                have hall : mx (fun x : PtR => x.pos) S (j + 1) xs = bs (fun x : PtR => x.pos) (2 * S) xs := mx_all (fun x : PtR => x.pos) hS1 xs (by have h1 := HA0.out; have h2 := HB0.out; have h3 := HSS.out; have h4 := HN.out; rw [Nat.succ_mul]; omega)
                rw [hm1.out, ← HA3.out, hall, ← HSS.out] at hO3
                clear hall
                go_wp2_with fail
                go_roundw
                case rel => exact ⟨S2, rfl, by have := HSS.out; omega, by have := HSS.out; omega, hO3, only_trans hg hg3⟩
                case measure => have := HSS.out; simp [intOf]; omega
              · have hall : mx (fun x : PtR => x.pos) S j xs = bs (fun x : PtR => x.pos) (2 * S) xs := mx_done (fun x : PtR => x.pos) hS1 xs (by have h1 := HA0.out; have h4 := HN.out; omega) (by have h1 := HA0.out; have h3 := HM0.out; have h4 := HN.out; omega)
                rw [hall, ← HSS.out] at hO
                clear hall
                go_wp2_with fail
                go_roundw
                case rel => exact ⟨S2, rfl, by have := HSS.out; omega, by have := HSS.out; omega, hO, hg⟩
                case measure => have := HSS.out; simp [intOf]; omega
        · have hfin : bs (fun x : PtR => x.pos) S xs = ssort (fun x : PtR => x.pos) xs := bs_one (fun x : PtR => x.pos) hS1 (by rw [← HN.out]; omega)
          rw [hfin] at hOS
          clear hfin
          go_wp2_with fail
          go_end0
          exact ⟨⟨_, rfl⟩, hOS, hgS⟩
set_option maxRecDepth 100000 in
theorem InsNU (c : Nat) (w : World) : Calls Tryz.prog 91 #[.slice none 0 c, .int .i64 0, .int .i64 0, .func (.func 63) #[] #[]] w fun ev w' => (∃ v, ev = .returned v) ∧ w' = w := by
  go_enter Tryz.func91, Tryz.ntmps91
  go_wp2_with fail
  go_loopw [8] (fun iv wr => iv = .int .i64 1 ∧ wr = w) (fun _ _ => 0)
  case atStart => exact ⟨rfl, rfl⟩
  case round =>
    obtain ⟨rfl, rfl⟩ := hrel
    go_wp2_with fail
    go_end0
    exact ⟨⟨_, rfl⟩, rfl⟩
set_option maxRecDepth 100000 in
theorem StabNU (c : Nat) (w : World) : Calls Tryz.prog 78 #[.slice none 0 c, .int .i64 0, .func (.func 63) #[] #[]] w fun ev w' => (∃ v, ev = .returned v) ∧ w' = w := by
  go_enter Tryz.func78, Tryz.ntmps78
  go_wp2_with fail
  go_loopw [7, 8] (fun av bv wr => av = .int .i64 0 ∧ bv = .int .i64 20 ∧ wr = w) (fun _ _ _ => 0)
  case atStart => exact ⟨rfl, rfl, rfl⟩
  case round =>
    obtain ⟨rfl, rfl, rfl⟩ := hrel
    go_wp2_with fail
    refine (InsNU c _).mono ?_
    rintro ev w2 ⟨⟨v, rfl⟩, rfl⟩
    go_wp2_with fail
    go_loopw [6] (fun sv wq => sv = .int .i64 20 ∧ wq = w2) (fun _ _ => 0)
    case atStart => exact ⟨rfl, rfl⟩
    case round =>
      obtain ⟨rfl, rfl⟩ := hrel
      go_wp2_with fail
      go_end0
      exact ⟨⟨_, rfl⟩, rfl⟩
set_option maxRecDepth 100000 in
theorem SortU_ow (base : Nat) (A : Option Addr) (n c : Nat) (xs : List PtR) (w : World) (h : OW ptC 2 140 base w A n c xs) (hn : n ≤ 100000) :
    Calls Tryz.prog 62 #[.slice A n c, .func (.func 63) #[] #[]] w fun ev w' => (∃ v, ev = .returned v) ∧ OW ptC 2 140 base w' A n c (ssort (fun x : PtR => x.pos) xs) ∧ w.grownBy w' (A.map (·.block)) := by
  rcases A with _ | a
  · obtain ⟨rfl, rfl, rfl⟩ := h.none_
    go_enter Tryz.func62, Tryz.ntmps62
    go_wp2_with fail
    refine (StabNU 0 _).mono ?_
    rintro ev w2 ⟨⟨v, rfl⟩, rfl⟩
    go_wp2_with fail
    go_end0
    exact ⟨⟨_, rfl⟩, OW.nil_, World.grownBy.refl _ _⟩
  · rcases h.1.2 with ⟨h3, _⟩ | ⟨g', cap, cur, h3, _⟩
    · cases h3
    · have HH := Lib.hid h
      clear h
      injection h3 with h3 h4 h5
      injection h3 with h3
      subst h3
      clear h4 h5
      go_enter Tryz.func62, Tryz.ntmps62
      go_wp2_with fail
      refine (StabU base g' n c xs _ HH.out hn).mono ?_
      rintro ev w2 ⟨⟨v, rfl⟩, hO, hg⟩
      go_wp2_with fail
      go_end0
      exact ⟨⟨_, rfl⟩, hO, hg⟩
end Go.Proofs.YtogkmnopggmdjaaGreatDoor
