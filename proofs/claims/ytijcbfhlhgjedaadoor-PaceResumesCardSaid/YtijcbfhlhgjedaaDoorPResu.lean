/- pace.Resume, walked: the first best choice, for all arguments. -/
import Derived.Test.YtijcbfhlhgjedaaDoorPInT
namespace Go.Proofs.YtijcbfhlhgjedaaDoor
open Go.RowKit Go.Shelf Go.Sort Go.Proofs

/-- What Resume answers. -/
def resP (S : Spd) (R : Road) (cs : List CallR) (q : Int) (G : List Int) (er : Int) : Prop := if (val R && spB S && remB (sumL R.ps) cs q) = true then er = 0 ∧ Gr (qS S R) q cs (bv (qS S R) q cs 0) 0 0 0 G else er = 2 ∧ G = []
theorem resP_bad {S : Spd} {R : Road} {cs : List CallR} {q : Int} (h : (val R && spB S && remB (sumL R.ps) cs q) = false) : resP S R cs q [] 2 := by
  unfold resP
  rw [h, if_neg (by decide)]
  exact ⟨rfl, rfl⟩
/-- The choice that is being made. -/
structure RP (Q : Int → Int) (a : Int) (cs : List CallR) (B : Int) (L : List Int) (y t : Int) (f : Nat) : Prop where
  e : y + bv Q a (cs.drop f) t = B
  s : 0 ≤ t ∧ t ≤ 1125899906842624 * f
  v : 0 ≤ y ∧ y ≤ 100 * f
  g : ∀ G, Gr Q a cs B y t f G → Gr Q a cs B 0 0 0 (L ++ G)
theorem bv_bd {Q : Int → Int} {a : Int} : ∀ (xs : List CallR) (s : Int), (∀ x ∈ xs, x.value ≤ 100) → bv Q a xs s ≤ 100 * xs.length
  | [], _, _ => by simp [bv]
  | x :: xs, s, h => by
    have h1 := bv_bd (Q := Q) (a := a) xs s (fun y hy => h y (List.mem_cons_of_mem _ hy))
    have h2 := bv_bd (Q := Q) (a := a) xs (s + x.lasts) (fun y hy => h y (List.mem_cons_of_mem _ hy))
    have h3 := h x (List.mem_cons_self ..)
    rw [bv, List.length_cons]
    split <;> omega
set_option maxRecDepth 100000 in
set_option maxHeartbeats 8000000 in
theorem Resume_all (q : Int) (pa : Option Addr) (pn pc : Nat) (ca : Option Addr) (cn cc : Nat) (ja : Option Addr) (jn jc : Nat) (R : Road) (ra : Option Addr) (rn rc : Nat) (sa : Option Addr) (sn sc : Nat) (S : Spd) (ka : Option Addr) (kn kc : Nat) (cs : List CallR) (w : World)
    (h : RD w w.heap.size pa pn ca cn ja jn R) (hD : SD w w.heap.size ra rn sa sn S) (hK : SL caC 5 w w.heap.size ka kn cs) (hkn : kn ≤ 1000) (hcap : kn ≤ kc) :
    Calls Tryd.prog 47 #[.agg #[.slice pa pn pc, .slice ca cn cc, .slice ja jn jc], .agg #[.int .i64 S.least, .int .i64 S.most, .slice ra rn rc, .slice sa sn sc], .slice ka kn kc, .int .i64 q] w fun e w' =>
      ∃ A n c G er, e = .returned (.tuple #[.slice A n c, .int .i64 er]) ∧ SL iC 1 w' w'.heap.size A n G ∧ resP S R cs q G er ∧ Below w.heap.size w w' := by
  have hmo : Tryd.prog.follows .mixedOrders = true := by kernel_rfl
  have HLK := Lib.hid hK.1
  have HR := Lib.hid h
  have HD := Lib.hid hD
  have HK := Lib.hid hK
  clear h hD hK
  obtain ⟨w0, hw0⟩ : ∃ w0, w0 = (w.alloc (.cells #[.slice pa pn pc, .slice ca cn cc, .slice ja jn jc] 26)).alloc (.cells #[.int .i64 S.least, .int .i64 S.most, .slice ra rn rc, .slice sa sn sc] 30) := ⟨_, rfl⟩
  have hB0 : Below w.heap.size w w0 := by rw [hw0]; exact ((Below.refl w.heap.size w).alloc (Nat.le_refl _) _).alloc (by simp) _
  have hX0 : BK w0 (w.heap.size) 26 #[.slice pa pn pc, .slice ca cn cc, .slice ja jn jc] := by rw [hw0]; exact ((BK.new w 26 #[.slice pa pn pc, .slice ca cn cc, .slice ja jn jc])).alloc _
  have hY0 : BK w0 (w.heap.size + 1) 30 #[.int .i64 S.least, .int .i64 S.most, .slice ra rn rc, .slice sa sn sc] := by rw [hw0]; have := BK.new (w.alloc (.cells #[.slice pa pn pc, .slice ca cn cc, .slice ja jn jc] 26)) 30 #[.int .i64 S.least, .int .i64 S.most, .slice ra rn rc, .slice sa sn sc]; rw [World.size_alloc] at this; exact this
  go_enter Tryd.func47, Tryd.ntmps47
  go_wp2_with fail
  rw [← hw0]
  clear hw0
  have x0 := hX0.cell 0
  have x1 := hX0.cell 1
  have x2 := hX0.cell 2
  have y0 := hY0.cell 0
  have y1 := hY0.cell 1
  have y2 := hY0.cell 2
  have y3 := hY0.cell 3
  simp only [List.getElem?_toArray, List.getElem?_cons_zero, List.getElem?_cons_succ] at x0 x1 x2 y0 y1 y2 y3
  go_wp2_with fail
  clear x0 x1 x2 y0 y1 y2 y3
  by_cases hb : OK R ∧ SOK S
  case neg =>
    have HE := Lib.hid (resP_bad (S := S) (R := R) (cs := cs) (q := q) (by
      rw [Bool.eq_false_iff]
      intro q
      rw [Bool.and_eq_true, Bool.and_eq_true] at q
      exact hb ⟨(val_iff R).1 q.1.1, (spB_iff S).1 q.1.2⟩))
    refine (begin_bad pa pn pc ca cn cc ja jn jc R ra rn rc sa sn sc S w0 (HR.out.grow hB0 hB0.size) (HD.out.grow hB0 hB0.size) hb).mono ?_
    rintro e w1 ⟨rfl, hk⟩
    have hB1 := hB0.trans (hk.mono hB0.size)
    clear hX0 hY0 hk hB0
    go_wp2_with fail
    refine bodyPost_ret (v := .tuple #[.slice none 0 0, .int .i64 2]) (by simp [results, Tryd.results47, go_sem]) rfl ⟨none, 0, 0, [], 2, rfl, SL.nil_, HE.out, hB1⟩
  have HV := Lib.hid hb.1
  have HS := Lib.hid hb.2
  clear hb
  refine (begin_any pa pn pc ca cn cc ja jn jc R ra rn rc sa sn sc S w0 (HR.out.grow hB0 hB0.size) (HD.out.grow hB0 hB0.size) HV.out HS.out).mono ?_
  rintro e w1 ⟨g, ta, tc, N, rfl, hTS, hk⟩
  have HT1 := Lib.hid hTS
  have hN1 : N ≤ 100000 := by have := hTS.n; have := HV.out.n1; omega
  have HN : Hid (sumL R.ps = N) := hTS.n
  have hB1 := hB0.trans (hk.mono hB0.size)
  clear hX0 hY0 hTS hB0 hk
  go_wp2_with fail
  refine (remain_any q ka kn kc cs g ta tc N S R w1 HT1.out (HK.out.grow hB1 hB1.size) (by omega) (by omega)).mono ?_
  rintro e w2 ⟨rfl, hk⟩
  have HOB : Hid ((val R && spB S && remB (sumL R.ps) cs q) = remB N cs q) := by
    show _ = _
    rw [(val_iff R).2 HV.out, (spB_iff S).2 HS.out, HN.out, Bool.true_and, Bool.true_and]
  have HT2 := Lib.hid (HT1.out.grow hk hk.size)
  have hB2 := hB1.trans (hk.mono hB1.size)
  clear HT1 hB1 hk
  cases hrb : remB N cs q
  case false =>
    have HE := Lib.hid (resP_bad (S := S) (R := R) (cs := cs) (q := q) (HOB.out.trans hrb))
    go_wp2_with fail
    refine bodyPost_ret (v := .tuple #[.slice none 0 0, .int .i64 2]) (by simp [results, Tryd.results47, go_sem]) rfl ⟨none, 0, 0, [], 2, rfl, SL.nil_, HE.out, hB2⟩
  have HRO := Lib.hid ((remB_iff _ _ _).1 hrb)
  have HOK := Lib.hid (HOB.out.trans hrb)
  clear hrb HOB
  obtain ⟨a, rfl⟩ : ∃ a : Nat, q = (a : Int) := ⟨q.toNat, by have := HRO.out.a; omega⟩
  have haN : a ≤ N := by have := HRO.out.a; omega
  have HC : Hid (COK N cs) := HRO.out.c
  have hk60 : kn ≤ 60 := by have := HRO.out.l; have := HLK.out; omega
  have hz2 := hB2.size
  go_wp2_with fail
  have HCM : Hid (∀ y ∈ cs, 0 ≤ y.value ∧ y.value ≤ 100) := by
    intro y hy
    obtain ⟨i, hi, rfl⟩ := List.getElem_of_mem hy
    have := (HC.out.k i hi _ (List.getElem?_eq_getElem hi)).2.2.2.2.1
    simpa only [inR, Bool.and_eq_true, decide_eq_true_eq] using this
  have hbvb := bv_bd (Q := qS S R) (a := a) cs 0 (fun y hy => (HCM.out y hy).2)
  have hbvn := bv_nn (qS S R) a cs 0
  obtain ⟨B, hB⟩ : ∃ B, B = bv (qS S R) a cs 0 := ⟨_, rfl⟩
  have HB : Hid (B = bv (qS S R) a cs 0) := hB
  rw [← hB] at hbvb hbvn
  have hB60 : B ≤ 6000 := by have := HRO.out.l; omega
  clear hbvb hB
  refine (valuable_any a 0 0 ka kn kc cs g ta tc N S R w2 HT2.out (HK.out.grow hB2 hB2.size) HS.out HV.out haN HC.out HRO.out.l (Nat.zero_le _) ⟨Int.le_refl _, by decide⟩ hcap).mono ?_
  rintro e w3 ⟨rfl, hk⟩
  rw [List.drop_zero, ← HB.out]
  have HT3 := Lib.hid (HT2.out.grow hk hk.size)
  have hB3 := hB2.trans (hk.mono hB2.size)
  clear hB2 hk hz2
  have hz3 := hB3.size
  have hgl := HT3.out.lt
  go_wp2_with fail
  go_loopw [13, 14, 15, 16] (fun oo vv ss ff wr => ∃ (A : Option Addr) (n c : Nat) (L : List Int) (v s : Int) (f : Nat), oo = .slice A n c ∧ vv = .int .i64 v ∧ ss = .int .i64 s ∧ ff = .int .i64 f ∧ f ≤ kn ∧ n ≤ f ∧ OW iC 1 3 w3.heap.size wr A n c L ∧ Hid (RP (qS S R) a cs B L v s f) ∧ Below w3.heap.size w3 wr)
    (fun _ _ _ ff _ => kn - (intOf ff).toNat)
  case atStart => exact ⟨none, 0, 0, [], 0, 0, 0, rfl, rfl, rfl, rfl, Nat.zero_le _, Nat.le_refl _, OW.nil_, ⟨by rw [List.drop_zero, HB.out, Int.zero_add], by omega, by omega, fun G h => h⟩, Below.refl _ _⟩
  case round =>
    obtain ⟨A, n, c, L, v, s, f, rfl, rfl, rfl, rfl, hfk, hnf, hO, HP, hbr⟩ := hrel
    have hBr := hB3.trans (hbr.mono hz3)
    have hps := HP.out.s
    have hpv := HP.out.v
    by_cases hlt : v < B
    case neg =>
      have hvB : v = B := by have := HP.out.e; have := bv_nn (qS S R) a (cs.drop f) s; omega
      have HRS : Hid (resP S R cs a L 0) := by
        show resP _ _ _ _ _ _
        unfold resP
        rw [HOK.out, if_pos rfl]
        refine ⟨rfl, ?_⟩
        have := HP.out.g [] (.stop hvB)
        rw [List.append_nil, HB.out] at this
        exact this
      have HSO := Lib.hid (hO.sl (fun _ => rfl))
      clear hO hvB
      go_wp2_with fail
      refine bodyPost_ret (v := .tuple #[.slice A n c, .int .i64 0]) (by simp [results, Tryd.results47, go_sem]) rfl ⟨A, n, c, L, 0, rfl, HSO.out, HRS.out, hBr⟩
    obtain ⟨k, k1, k2, k3, k4⟩ := pick (Q := qS S R) (a := a) (cs := cs) (B := B - v) (s := s) (by omega) _ f rfl (by have := HP.out.e; omega)
    have hk2 : k < kn := by have := HLK.out; omega
    have HK3 := Lib.hid k3
    have HK4 := Lib.hid k4
    have HK1 := Lib.hid k1
    obtain ⟨wO, hwO⟩ : ∃ wO, wO = wr := ⟨_, rfl⟩
    rw [← hwO] at hO hbr hBr ⊢
    have hzO := hbr.size
    clear hwO k3 k4
    go_wp2_with fail
    go_loopw [13, 14, 15, 17] (fun oo vv ss ii wx => ∃ i : Nat, oo = .slice A n c ∧ vv = .int .i64 v ∧ ss = .int .i64 s ∧ f ≤ i ∧ i ≤ k ∧ ii = .int .i64 i ∧ Below wO.heap.size wO wx)
      (fun _ _ _ ii _ => k + 1 - (intOf ii).toNat)
    case atStart => exact ⟨f, rfl, rfl, rfl, Nat.le_refl _, k1, rfl, Below.refl _ _⟩
    case round =>
      obtain ⟨i, rfl, rfl, rfl, hfi, hik, rfl, hbi⟩ := hrel
      have hbw := hbr.trans (hbi.mono hzO)
      have hBi := hBr.trans (hbi.mono hBr.size)
      have hil : i < cs.length := by have := HLK.out; omega
      have hx := List.getElem?_eq_getElem hil
      obtain ⟨kb, ko, hKA, hkbB, c0, c1, c2, c3, c4⟩ := KS5.at_ (HK.out.grow hBi hBi.size) (k := i) hil
      have hbd := kAt_bd HC.out hil
      have hvb := HCM.out _ (List.getElem_mem hil)
      rw [show maxM = 1125899906842624 from rfl] at hbd
      have HXI : Hid (cs[i]? = some (cs[i]'hil)) := hx
      generalize cs[i]'hil = x at c0 c1 c2 c3 c4 hbd hvb HXI
      obtain ⟨⟨p1, p2⟩, ⟨p3, p4⟩, ⟨p5, p6⟩, -⟩ := hbd
      obtain ⟨m, hm⟩ : ∃ m, m = i + 1 := ⟨_, rfl⟩
      have hmi : (i : Int) + 1 = (m : Int) := by omega
      have hmk : m ≤ kn := by omega
      have HM := Lib.hid hm
      have HIK := Lib.hid hik
      obtain ⟨sl, hsl⟩ : ∃ sl, sl = s + x.lasts := ⟨_, rfl⟩
      obtain ⟨VV, hVV⟩ : ∃ VV, VV = bv (qS S R) a (cs.drop m) sl := ⟨_, rfl⟩
      have HVV : Hid (bv (qS S R) a (cs.drop m) sl = VV) := hVV.symm
      have hvv1 : 0 ≤ VV := by rw [hVV]; exact bv_nn _ _ _ _
      have hvv2 : VV ≤ 6000 := by
        have h1 := bv_bd (Q := qS S R) (a := a) (cs.drop m) sl (fun y hy => (HCM.out y (List.mem_of_mem_drop hy)).2)
        rw [List.length_drop] at h1
        have := HRO.out.l
        omega
      have HSL := Lib.hid hsl
      have hwv : IntKind.i64.wrap (v + x.value) = v + x.value := IntWalk.i64_in _ (by omega)
      have hws : IntKind.i64.wrap (s + x.lasts) = sl := (IntWalk.i64_in _ (by omega)).trans hsl.symm
      obtain ⟨TT, hTT⟩ : ∃ TT, TT = v + x.value + VV := ⟨_, rfl⟩
      have hwt : IntKind.i64.wrap (v + x.value + VV) = TT := (IntWalk.i64_in _ (by omega)).trans hTT.symm
      have HTT := Lib.hid hTT
      have hwk : IntKind.i64.wrap ((i : Int) + 1) = (m : Int) := (IntWalk.i64_in _ (by omega)).trans hmi
      have hwm : IntKind.i64.wrap (m : Int) = (m : Int) := IntWalk.i64_in _ (by omega)
      have hi1 : (0 : Int) ≤ (i : Int) := by omega
      have hi2 : (i : Int) < (kn : Int) := by omega
      have gi : decide ((i : Int) < (kn : Int)) = true := decide_eq_true hi2
      have giN : decide (i < kn) = true := decide_eq_true (by omega)
      obtain ⟨w5, hw5⟩ : ∃ w5, w5 = wr.alloc (.cells #[.int .i64 x.place, .int .i64 x.lasts, .int .i64 x.lead, .int .i64 x.ahead, .int .i64 x.value] 75) := ⟨_, rfl⟩
      have hk5 : Below wr.heap.size wr w5 := by rw [hw5]; exact (Below.refl _ _).alloc (Nat.le_refl _) _
      have hZ5 : BK w5 wr.heap.size 75 #[.int .i64 x.place, .int .i64 x.lasts, .int .i64 x.lead, .int .i64 x.ahead, .int .i64 x.value] := by rw [hw5]; exact BK.new _ _ _
      have hBi5 := hBi.trans (hk5.mono hBi.size)
      have hbw5 := hbw.trans (hk5.mono hbw.size)
      have HK5 := Lib.hid (HK.out.grow hBi5 hBi5.size)
      have HT5 := Lib.hid (HT3.out.grow hbw5 hbw5.size)
      have hgl5 := HT5.out.lt
      have hlZ := hZ5.lt
      have hslb : 0 ≤ sl ∧ sl ≤ 100000000000000000 := by omega
      cases hKA
      clear hx hil hmi hm hsl hVV hTT
      go_wp2_with fail
      rw [← hw5]
      clear c0 c1 c2 c3 c4 hw5
      have z0 := fun d os => cell_regrown (hZ5.cell 0) d os
      have z1 := fun d os => cell_regrown (hZ5.cell 1) d os
      have z2 := fun d os => cell_regrown (hZ5.cell 2) d os
      have z3 := fun d os => cell_regrown (hZ5.cell 3) d os
      have z4 := fun d os => cell_regrown (hZ5.cell 4) d os
      have HGT := Lib.hid (fun d os => HT5.out.grow (below_regrown w5 d os) (below_regrown w5 d os).size)
      have HGK := Lib.hid (fun d os => HK5.out.grow (below_regrown w5 d os) (below_regrown w5 d os).size)
      cases he : endsB (qS S R) a x sl
      case false =>
        have HEN := Lib.hid he
        have HNK : Hid (i ≠ k) := by
          intro e
          obtain ⟨y, hy, hey, -⟩ := HK3.out
          rw [← e, HXI.out] at hy
          cases hy
          rw [← HSL.out, he] at hey
          cases hey
        clear he
        refine wp_region_ch 26 [7, 8, 22] hmo (by kernel_rfl) ?_
        simp only [List.take_succ_cons, List.take_zero, List.drop_succ_cons, List.drop_zero]
        repeat (with_reducible refine wpC_q (by decide) (by decide) (fun K hK => ?_); go_simp; (try rw [if_neg (by simp [undef])]); refine hK _ ?_; clear hK K)
        with_reducible refine wpC_cg (ι := Unit) 89 #[.pointer (some ⟨g, 0, none⟩), .agg #[.int .i64 x.place, .int .i64 x.lasts, .int .i64 x.lead, .int .i64 x.ahead, .int .i64 x.value], .int .i64 a, .int .i64 sl] (fun _ => .bool false) (fun _ _ => True) (by decide) (by decide) (by go_simp) (fun w => by go_simp) stable_true (fun _ => stable_true) (fun W hW _ => ?_) (fun i0 hs0 => ?_)
        · obtain ⟨pp, rfl⟩ := hW
          refine (ends_any x a sl g ta tc N S R _ (HGT.out _ _) HS.out HV.out haN ⟨p1, p2⟩ ⟨by omega, by omega⟩ ⟨p5, by rw [show maxM = 1125899906842624 from rfl]; exact p6⟩).mono ?_
          rintro e w' ⟨rfl, hbl⟩
          exact ⟨(), by rw [HEN.out], trivial, hbl⟩
        repeat (with_reducible refine wpC_q (by decide) (by decide) (fun K hK => ?_); go_simp; (try rw [if_neg (by simp [undef])]); refine hK _ ?_; clear hK K)
        with_reducible refine wpC_vg (ι := Unit) (fun _ => .bool false) (fun _ _ => True) (by decide) (by decide) (by go_simp) hs0 (fun _ => stable_true) (fun W _ _ => ⟨(), W, by go_simp, trivial, Below.refl _ _⟩) (fun i1 hs1 => ?_)
        repeat (with_reducible refine wpC_q (by decide) (by decide) (fun K hK => ?_); go_simp; (try rw [if_neg (by simp [undef])]); refine hK _ ?_; clear hK K)
        with_reducible refine wpC_off (by decide) (by go_simp) ?_
        repeat (with_reducible refine wpC_q (by decide) (by decide) (fun K hK => ?_); go_simp; (try rw [if_neg (by simp [undef])]); refine hK _ ?_; clear hK K)
        refine wpC_nil ?_
        intro w6 hb6 _
        clear z0 z1 z2 z3 z4 HGT HGK hs0 hs1
        have hbn := hbi.trans ((hk5.trans (hb6.mono hk5.size)).mono hbi.size)
        clear hbi hk5 hb6 hZ5
        go_wp2_with fail
        go_roundw
        case rel => exact ⟨m, rfl, rfl, rfl, by have := HM.out; omega, by have := HNK.out; have := HM.out; omega, by go_num, hbn⟩
        case measure => have := HM.out; have := HIK.out; simp [intOf]; omega
      have HEN := Lib.hid he
      clear he
      by_cases ht : TT = B
      case neg =>
        have gt : (TT == B) = false := by simpa using ht
        have HNK : Hid (i ≠ k) := by
          intro e
          obtain ⟨y, hy, -, hvy⟩ := HK3.out
          rw [← e, HXI.out] at hy
          cases hy
          rw [← HSL.out, ← e, ← HM.out, HVV.out] at hvy
          exact ht (HTT.out.trans (by omega))
        clear ht
        refine wp_region_ch 26 [7, 8, 22] hmo (by kernel_rfl) ?_
        simp only [List.take_succ_cons, List.take_zero, List.drop_succ_cons, List.drop_zero]
        repeat (with_reducible refine wpC_q (by decide) (by decide) (fun K hK => ?_); go_simp; (try rw [if_neg (by simp [undef])]); refine hK _ ?_; clear hK K)
        with_reducible refine wpC_cg (ι := Unit) 89 #[.pointer (some ⟨g, 0, none⟩), .agg #[.int .i64 x.place, .int .i64 x.lasts, .int .i64 x.lead, .int .i64 x.ahead, .int .i64 x.value], .int .i64 a, .int .i64 sl] (fun _ => .bool true) (fun _ _ => True) (by decide) (by decide) (by go_simp) (fun w => by go_simp) stable_true (fun _ => stable_true) (fun W hW _ => ?_) (fun i0 hs0 => ?_)
        · obtain ⟨pp, rfl⟩ := hW
          refine (ends_any x a sl g ta tc N S R _ (HGT.out _ _) HS.out HV.out haN ⟨p1, p2⟩ ⟨by omega, by omega⟩ ⟨p5, by rw [show maxM = 1125899906842624 from rfl]; exact p6⟩).mono ?_
          rintro e w' ⟨rfl, hbl⟩
          exact ⟨(), by rw [HEN.out], trivial, hbl⟩
        repeat (with_reducible refine wpC_q (by decide) (by decide) (fun K hK => ?_); go_simp; (try rw [if_neg (by simp [undef])]); refine hK _ ?_; clear hK K)
        with_reducible refine wpC_vg (ι := Unit) (fun _ => .bool true) (fun _ _ => True) (by decide) (by decide) (by go_simp) hs0 (fun _ => stable_true) (fun W _ _ => ⟨(), W, by go_simp, trivial, Below.refl _ _⟩) (fun i1 hs1 => ?_)
        repeat (with_reducible refine wpC_q (by decide) (by decide) (fun K hK => ?_); go_simp; (try rw [if_neg (by simp [undef])]); refine hK _ ?_; clear hK K)
        with_reducible refine wpC_cg (ι := Unit) 88 #[.pointer (some ⟨g, 0, none⟩), .slice (some ⟨kb, ko, none⟩) kn kc, .int .i64 a, .int .i64 m, .int .i64 sl] (fun _ => .int .i64 VV) (fun _ _ => True) (by decide) (by decide) (by go_simp) (fun w => by go_simp) hs1 (fun _ => stable_true) (fun W hW _ => ?_) (fun i2 hs2 => ?_)
        · obtain ⟨pp, rfl⟩ := hW
          refine (valuable_any a m sl (some ⟨kb, ko, none⟩) kn kc cs g ta tc N S R _ (HGT.out _ _) (HGK.out _ _) HS.out HV.out haN HC.out HRO.out.l hmk ⟨by omega, by rw [show maxM = 1125899906842624 from rfl]; omega⟩ hcap).mono ?_
          rintro e w' ⟨rfl, hbl⟩
          exact ⟨(), by rw [HVV.out], trivial, hbl⟩
        repeat (with_reducible refine wpC_q (by decide) (by decide) (fun K hK => ?_); go_simp; (try rw [if_neg (by simp [undef])]); refine hK _ ?_; clear hK K)
        refine wpC_nil ?_
        intro w6 hb6 _
        clear z0 z1 z2 z3 z4 HGT HGK hs0 hs1 hs2
        have hbn := hbi.trans ((hk5.trans (hb6.mono hk5.size)).mono hbi.size)
        clear hbi hk5 hb6 hZ5
        go_wp2_with fail
        go_roundw
        case rel => exact ⟨m, rfl, rfl, rfl, by have := HM.out; omega, by have := HNK.out; have := HM.out; omega, by go_num, hbn⟩
        case measure => have := HM.out; have := HIK.out; simp [intOf]; omega
      have gt : (TT == B) = true := by simpa using ht
      have ht2 : v + x.value + VV = B := HTT.out.symm.trans ht
      have HGR : Hid (∀ G, Gr (qS S R) a cs B (v + x.value) sl m G → Gr (qS S R) a cs B v s f ((i : Int) :: G)) := by
        intro G hG
        have hik' : i = k := by
          rcases Nat.lt_or_ge i k with h | h
          · exact absurd ⟨x, HXI.out, by rw [← HSL.out]; exact HEN.out, by rw [← HSL.out, ← HM.out, HVV.out]; omega⟩ (HK4.out i hfi h)
          · omega
        subst hik'
        rw [HSL.out, HM.out] at hG
        exact .pick hlt hfi HXI.out (by rw [← HSL.out]; exact HEN.out) (by rw [← HSL.out, ← HM.out, HVV.out]; exact ht2) HK4.out hG
      have HRP : Hid (RP (qS S R) a cs B (L ++ [(i : Int)]) (v + x.value) sl m) := by
        refine ⟨by rw [HVV.out]; exact ht2, by have := HSL.out; have := HM.out; omega, by have := HM.out; omega, fun G hG => ?_⟩
        rw [List.append_assoc]
        exact HP.out.g _ (HGR.out G hG)
      clear ht ht2
      refine wp_region_ch 26 [7, 8, 22] hmo (by kernel_rfl) ?_
      simp only [List.take_succ_cons, List.take_zero, List.drop_succ_cons, List.drop_zero]
      repeat (with_reducible refine wpC_q (by decide) (by decide) (fun K hK => ?_); go_simp; (try rw [if_neg (by simp [undef])]); refine hK _ ?_; clear hK K)
      with_reducible refine wpC_cg (ι := Unit) 89 #[.pointer (some ⟨g, 0, none⟩), .agg #[.int .i64 x.place, .int .i64 x.lasts, .int .i64 x.lead, .int .i64 x.ahead, .int .i64 x.value], .int .i64 a, .int .i64 sl] (fun _ => .bool true) (fun _ _ => True) (by decide) (by decide) (by go_simp) (fun w => by go_simp) stable_true (fun _ => stable_true) (fun W hW _ => ?_) (fun i0 hs0 => ?_)
      · obtain ⟨pp, rfl⟩ := hW
        refine (ends_any x a sl g ta tc N S R _ (HGT.out _ _) HS.out HV.out haN ⟨p1, p2⟩ ⟨by omega, by omega⟩ ⟨p5, by rw [show maxM = 1125899906842624 from rfl]; exact p6⟩).mono ?_
        rintro e w' ⟨rfl, hbl⟩
        exact ⟨(), by rw [HEN.out], trivial, hbl⟩
      repeat (with_reducible refine wpC_q (by decide) (by decide) (fun K hK => ?_); go_simp; (try rw [if_neg (by simp [undef])]); refine hK _ ?_; clear hK K)
      with_reducible refine wpC_vg (ι := Unit) (fun _ => .bool true) (fun _ _ => True) (by decide) (by decide) (by go_simp) hs0 (fun _ => stable_true) (fun W _ _ => ⟨(), W, by go_simp, trivial, Below.refl _ _⟩) (fun i1 hs1 => ?_)
      repeat (with_reducible refine wpC_q (by decide) (by decide) (fun K hK => ?_); go_simp; (try rw [if_neg (by simp [undef])]); refine hK _ ?_; clear hK K)
      with_reducible refine wpC_cg (ι := Unit) 88 #[.pointer (some ⟨g, 0, none⟩), .slice (some ⟨kb, ko, none⟩) kn kc, .int .i64 a, .int .i64 m, .int .i64 sl] (fun _ => .int .i64 VV) (fun _ _ => True) (by decide) (by decide) (by go_simp) (fun w => by go_simp) hs1 (fun _ => stable_true) (fun W hW _ => ?_) (fun i2 hs2 => ?_)
      · obtain ⟨pp, rfl⟩ := hW
        refine (valuable_any a m sl (some ⟨kb, ko, none⟩) kn kc cs g ta tc N S R _ (HGT.out _ _) (HGK.out _ _) HS.out HV.out haN HC.out HRO.out.l hmk ⟨by omega, by rw [show maxM = 1125899906842624 from rfl]; omega⟩ hcap).mono ?_
        rintro e w' ⟨rfl, hbl⟩
        exact ⟨(), by rw [HVV.out], trivial, hbl⟩
      repeat (with_reducible refine wpC_q (by decide) (by decide) (fun K hK => ?_); go_simp; (try rw [if_neg (by simp [undef])]); refine hK _ ?_; clear hK K)
      refine wpC_nil ?_
      intro w6 hb6 _
      clear z0 z1 z2 z3 z4 HGT HGK hs0 hs1 hs2
      have hZ6 := hZ5.below hb6 hlZ
      have hk6 := hk5.trans (hb6.mono hk5.size)
      have hO6 := (hO.call hbi).call hk6
      have hbw6 := hbw.trans (hk6.mono hbw.size)
      have hzi := hbi.size
      have hNe : ∀ b, A = some b → b.block ≠ wr.heap.size := fun b hb => by have := (hO.lt hb).2; omega
      have HNE := Lib.hid hNe
      have hNew : BK (w6.alloc (.cells #[.int .i64 (i : Int)] 3)) w6.heap.size 3 #[.int .i64 (i : Int)] := BK.new w6 _ _
      have hz6 := hbw6.size
      have hlZ6 := hZ6.lt
      clear hNe hZ5 hk5 hb6 hk6 hO hbi hbw hgl5 hlZ hBi hBi5 hbw5
      go_wp2_with (at_builtin; refine wpList_app rfl _ _ 28 rfl w3.heap.size 3 _ 1 8 Tryd.underlying28 infoI rfl (by decide) iC A n c L rfl (hO6.alloc _) (i : Int) #[.int .i64 (i : Int)] rfl rfl 3 w6.heap.size rfl hNew (by simp [iC, Value.oneCell']) (by omega) (by omega) (by simp; omega) ?_; intro g' c' w8 hap; have HAP := Lib.hid hap; clear hap)
      have hZ8 : BK w8 wr.heap.size 75 #[.int .i64 x.place, .int .i64 x.lasts, .int .i64 x.lead, .int .i64 x.ahead, .int .i64 x.value] := (HAP.out.far wr.heap.size (by rw [World.size_alloc]; omega) HNE.out).trans (hZ6.alloc _)
      have hb8 := (hbw6.alloc hbw6.size (.cells #[.int .i64 (i : Int)] 3)).trans HAP.out.bel
      have HO8 := Lib.hid HAP.out.own
      have z1 := hZ8.cell 1
      have z4 := hZ8.cell 4
      simp only [List.getElem?_toArray, List.getElem?_cons_zero, List.getElem?_cons_succ] at z1 z4
      clear hO6 hNew hZ6 HAP hbw6
      go_wp2_with fail
      go_quiet (fail)
      go_wp2_with fail
      go_roundw
      case rel => exact ⟨some ⟨g', 0, none⟩, n + 1, c', L ++ [(i : Int)], v + x.value, sl, m, rfl, rfl, rfl, by go_num, hmk, by have := HM.out; omega, HO8.out.drewN _, HRP, below_drewN hb8 _⟩
      case measure => have := HM.out; simp [intOf]; omega
end Go.Proofs.YtijcbfhlhgjedaaDoor
