/- The document's Resume, walked: the best of all choices. -/
import Derived.Test.YtijcbfhlhgjedaaDoorPBits
namespace Go.Proofs.YtijcbfhlhgjedaaDoor
open Go.RowKit Go.Shelf Go.Sort Go.Proofs

set_option maxRecDepth 100000 in
set_option maxHeartbeats 8000000 in
theorem R3Resume_any (a : Nat) (pa : Option Addr) (pn pc : Nat) (ca : Option Addr) (cn cc : Nat) (ja : Option Addr) (jn jc : Nat) (R : Road) (ra : Option Addr) (rn rc : Nat) (sa : Option Addr) (sn sc : Nat) (S : Spd) (ka : Option Addr) (kn kc : Nat) (cs : List CallR) (w : World) (h : RD w w.heap.size pa pn ca cn ja jn R) (hD : SD w w.heap.size ra rn sa sn S) (hK : SL caC 5 w w.heap.size ka kn cs) (hv : OK R) (hS : SOK S) (hro : ROK (sumL R.ps) cs a) (hk8 : kn ≤ 8) :
    Calls Tryd.prog 50 #[.agg #[.slice pa pn pc, .slice ca cn cc, .slice ja jn jc], .agg #[.int .i64 S.least, .int .i64 S.most, .slice ra rn rc, .slice sa sn sc], .slice ka kn kc, .int .i64 a] w fun e w' =>
      ∃ A n c L m, e = .returned (.slice A n c) ∧ SL iC 1 w' w'.heap.size A n L ∧ FB (qS S R) a cs (2 ^ cs.length) L m ∧ Below w.heap.size w w' := by
  have HLK := Lib.hid hK.1
  have HV := Lib.hid hv
  have HS := Lib.hid hS
  have HRO := Lib.hid hro
  obtain ⟨pw, hpw⟩ : ∃ pw, pw = 2 ^ kn := ⟨_, rfl⟩
  have hpb : pw ≤ 256 := by rw [hpw]; exact Nat.le_trans (Nat.pow_le_pow_right (by decide) hk8) (by decide)
  have hwp : IntKind.i64.wrap ((2 : Int) ^ kn) = (pw : Int) := by
    have e : ((2 ^ kn : Nat) : Int) = (2 : Int) ^ kn := by simp
    rw [← e, ← hpw]
    exact IntWalk.i64_in _ (by omega)
  have HPW := Lib.hid hpw
  clear hv hS hro hpw
  have HR := Lib.hid h
  have HD := Lib.hid hD
  have HK := Lib.hid hK
  clear h hD hK
  obtain ⟨w0, hw0⟩ : ∃ w0, w0 = (w.alloc (.cells #[.slice pa pn pc, .slice ca cn cc, .slice ja jn jc] 26)).alloc (.cells #[.int .i64 S.least, .int .i64 S.most, .slice ra rn rc, .slice sa sn sc] 30) := ⟨_, rfl⟩
  have hB0 : Below w.heap.size w w0 := by rw [hw0]; exact ((Below.refl w.heap.size w).alloc (Nat.le_refl _) _).alloc (by simp) _
  have hX0 : BK w0 (w.heap.size) 26 #[.slice pa pn pc, .slice ca cn cc, .slice ja jn jc] := by rw [hw0]; exact ((BK.new w 26 #[.slice pa pn pc, .slice ca cn cc, .slice ja jn jc])).alloc _
  have hY0 : BK w0 (w.heap.size + 1) 30 #[.int .i64 S.least, .int .i64 S.most, .slice ra rn rc, .slice sa sn sc] := by rw [hw0]; have := BK.new (w.alloc (.cells #[.slice pa pn pc, .slice ca cn cc, .slice ja jn jc] 26)) 30 #[.int .i64 S.least, .int .i64 S.most, .slice ra rn rc, .slice sa sn sc]; rw [World.size_alloc] at this; exact this
  go_enter Tryd.func50, Tryd.ntmps50
  go_wp2_with fail
  rw [← hw0]
  clear hw0
  have hz0 := hB0.size
  go_loopw [9, 10, 11] (fun bb mm ii wr => ∃ (b : Nat) (A : Option Addr) (n c : Nat) (L : List Int) (m : Int), b ≤ pw ∧ ii = .int .i64 b ∧ bb = .slice A n c ∧ mm = .int .i64 m ∧ SL iC 1 wr wr.heap.size A n L ∧ Hid (FB (qS S R) a cs b L m) ∧ Below w0.heap.size w0 wr)
    (fun _ _ ii _ => pw - (intOf ii).toNat)
  case atStart => exact ⟨0, none, 0, 0, [], 0, Nat.zero_le _, rfl, rfl, rfl, SL.nil_, FB.start, Below.refl _ _⟩
  case round =>
    obtain ⟨b, A, n, c, L, m, hb, rfl, rfl, rfl, hSL, HFB, hbr⟩ := hrel
    have HSL := Lib.hid hSL
    have hn8 : n ≤ 8 := by have h1 := hSL.1; have h2 := HFB.out.l; have := HLK.out; omega
    have hBr := hB0.trans (hbr.mono hz0)
    clear hSL
    by_cases hlt : b < pw
    case neg =>
      obtain rfl : pw = b := by omega
      have HFB2 : Hid (FB (qS S R) a cs (2 ^ cs.length) L m) := by show FB _ _ _ _ _ _; rw [← HLK.out, ← HPW.out]; exact HFB.out
      have gb : decide ((pw : Int) < (pw : Int)) = false := by simp
      clear HFB hlt
      go_wp2_with fail
      go_ret
      exact ⟨A, n, c, L, m, rfl, HSL.out, HFB2.out, hBr⟩
    have gb : decide ((b : Int) < (pw : Int)) = true := decide_eq_true (by omega)
    have gbN : decide (b < pw) = true := decide_eq_true hlt
    obtain ⟨wO, hwO⟩ : ∃ wO, wO = wr := ⟨_, rfl⟩
    rw [← hwO] at HSL hbr hBr ⊢
    have hzO := hbr.size
    have hzO' := hBr.size
    clear hwO
    go_wp2_with fail
    clear gb gbN
    go_loopw [12, 13] (fun oo ii wx => ∃ (j : Nat) (A' : Option Addr) (n' c' : Nat), j ≤ kn ∧ ii = .int .i64 j ∧ oo = .slice A' n' c' ∧ n' ≤ j ∧ OW iC 1 3 wO.heap.size wx A' n' c' (subB b j) ∧ Below wO.heap.size wO wx)
      (fun _ ii _ => kn - (intOf ii).toNat)
    case atStart => exact ⟨0, none, 0, 0, Nat.zero_le _, rfl, rfl, Nat.le_refl _, OW.nil_, Below.refl _ _⟩
    case round =>
      obtain ⟨j, A', n', c', hj, rfl, rfl, hnj, hO, hbx⟩ := hrel
      have hbz0 := hbr.trans (hbx.mono hzO)
      have hBx := hBr.trans (hbx.mono hzO')
      by_cases hlt2 : j < kn
      case pos =>
        have gj : decide ((j : Int) < (kn : Int)) = true := decide_eq_true (by omega)
        have gjN : decide (j < kn) = true := decide_eq_true hlt2
        have hbt := bits_and b j
        cases htb : b.testBit j
        case false =>
          rw [htb, if_neg (by decide)] at hbt
          have HSB : Hid (subB b (j + 1) = subB b j) := subB_no htb
          clear htb
          go_wp2_with fail
          go_roundw
          case rel => exact ⟨j + 1, A', n', c', by omega, by go_num, rfl, by omega, by rw [HSB.out]; exact hO, hbx⟩
          case measure => simp [intOf]; omega
        rw [htb, if_pos rfl] at hbt
        have HSB : Hid (subB b (j + 1) = subB b j ++ [(j : Int)]) := subB_yes htb
        have hNew : BK (wr.alloc (.cells #[.int .i64 (j : Int)] 3)) wr.heap.size 3 #[.int .i64 (j : Int)] := BK.new wr _ _
        have hzr := hbx.size
        clear htb
        go_wp2_with (at_builtin; refine wpList_app rfl _ _ 28 rfl wO.heap.size 3 _ 1 8 Tryd.underlying28 infoI rfl (by decide) iC A' n' c' (subB b j) rfl (hO.alloc _) (j : Int) #[.int .i64 (j : Int)] rfl rfl 3 wr.heap.size rfl hNew (by simp [iC, Value.oneCell']) (by omega) (by omega) (by simp; omega) ?_; intro g' c9 w8 hap; have HAP := Lib.hid hap; clear hap)
        have hbN := (hbx.alloc (by omega) (.cells #[.int .i64 (j : Int)] 3)).trans HAP.out.bel
        go_roundw
        case rel => exact ⟨j + 1, some ⟨g', 0, none⟩, n' + 1, c9, by omega, by go_num, rfl, by omega, by rw [HSB.out]; exact HAP.out.own, hbN⟩
        case measure => simp [intOf]; omega
      obtain rfl : kn = j := by omega
      obtain ⟨wE, hwE⟩ : ∃ wE, wE = wr := ⟨_, rfl⟩
      rw [← hwE] at hO hbx hbz0 hBx ⊢
      have HSC := Lib.hid (hO.sl (fun _ => rfl))
      have hXE := hX0.below hbz0 hX0.lt
      have hYE := hY0.below hbz0 hY0.lt
      have HSLE := Lib.hid (HSL.out.grow hbx hbx.size)
      have gj : decide ((kn : Int) < (kn : Int)) = false := by simp
      clear hO hwE hlt2
      have x0 := hXE.cell 0
      have x1 := hXE.cell 1
      have x2 := hXE.cell 2
      have y0 := hYE.cell 0
      have y1 := hYE.cell 1
      have y2 := hYE.cell 2
      have y3 := hYE.cell 3
      simp only [List.getElem?_toArray, List.getElem?_cons_zero, List.getElem?_cons_succ] at x0 x1 x2 y0 y1 y2 y3
      go_wp2_with fail
      clear x0 x1 x2 y0 y1 y2 y3
      refine (R3InTime_any a pa pn pc ca cn cc ja jn jc R ra rn rc sa sn sc S ka kn kc cs A' n' c' (subB b kn) wE (HR.out.grow hBx hBx.size) (HD.out.grow hBx hBx.size) (HK.out.grow hBx hBx.size) HSC.out HV.out HS.out HRO.out (by rw [HLK.out]; exact subB_ok b cs.length) (by omega)).mono ?_
      rintro e w7 ⟨rfl, hk7⟩
      have hbz := hbz0.trans (hk7.mono hbz0.size)
      have HSL9 := Lib.hid (HSLE.out.grow hk7 hk7.size)
      have HSC9 := Lib.hid (HSC.out.grow hk7 hk7.size)
      clear hXE hYE hbz0 hBx hk7
      cases hit : itC (qS S R) a cs (subB b kn) 0 0 0 with
      | none =>
        have HIT := Lib.hid hit
        clear hit
        dsimp only [itRes]
        have HF2 : Hid (FB (qS S R) a cs (b + 1) L m) := by show FB _ _ _ _ _ _; exact HFB.out.keep (fun w hw => by rw [← HLK.out, HIT.out] at hw; cases hw)
        clear hbx
        go_wp2_with fail
        go_roundw
        case rel => exact ⟨b + 1, A, n, c, L, m, by omega, by go_num, rfl, rfl, HSL9.out, HF2, hbz⟩
        case measure => simp [intOf]; omega
      | some w1 =>
        have HIT := Lib.hid hit
        clear hit
        dsimp only [itRes]
        by_cases hgt : m < w1
        case pos =>
          have g1 : decide (m < w1) = true := decide_eq_true hgt
          have HGT := Lib.hid hgt
          clear hgt
          have HF2 : Hid (FB (qS S R) a cs (b + 1) (subB b kn) w1) := by
            show FB _ _ _ _ _ _
            have := HFB.out.more (w := w1) (by rw [← HLK.out]; exact HIT.out) (by rw [← HLK.out]; exact .inl HGT.out)
            rw [← HLK.out] at this
            exact this
          clear hbx
          go_wp2_with fail
          go_roundw
          case rel => exact ⟨b + 1, A', n', c', subB b kn, w1, by omega, by go_num, rfl, rfl, HSC9.out, HF2, hbz⟩
          case measure => simp [intOf]; omega
        have g1 : decide (m < w1) = false := decide_eq_false hgt
        by_cases heq : w1 = m
        case neg =>
          have g2 : (w1 == m) = false := by simpa using heq
          have HLT : Hid (w1 < m) := by show _ < _; omega
          clear hgt heq
          have HF2 : Hid (FB (qS S R) a cs (b + 1) L m) := by show FB _ _ _ _ _ _; exact HFB.out.keep (fun w hw => by rw [← HLK.out, HIT.out] at hw; cases hw; exact .inl HLT.out)
          clear hbx
          go_wp2_with fail
          go_roundw
          case rel => exact ⟨b + 1, A, n, c, L, m, by omega, by go_num, rfl, rfl, HSL9.out, HF2, hbz⟩
          case measure => simp [intOf]; omega
        have g2 : (w1 == m) = true := by simpa using heq
        have HEQ := Lib.hid heq
        clear hgt heq
        go_wp2_with fail
        refine (RBefore_any A' n' c' (subB b kn) A n c L w7 HSC9.out HSL9.out (by omega)).mono ?_
        rintro e w8 ⟨rfl, hk8'⟩
        have hbz := hbz.trans (hk8'.mono hbz.size)
        have HSL9 := Lib.hid (HSL9.out.grow hk8' hk8'.size)
        have HSC9 := Lib.hid (HSC9.out.grow hk8' hk8'.size)
        clear hk8'
        cases hbf : bfL (subB b kn) L
        case false =>
          have HBF := Lib.hid hbf
          clear hbf
          have HF2 : Hid (FB (qS S R) a cs (b + 1) L m) := by show FB _ _ _ _ _ _; exact HFB.out.keep (fun w hw => by rw [← HLK.out, HIT.out] at hw; cases hw; exact .inr ⟨HEQ.out, by rw [← HLK.out]; exact HBF.out⟩)
          clear hbx
          go_wp2_with fail
          go_roundw
          case rel => exact ⟨b + 1, A, n, c, L, m, by omega, by go_num, rfl, rfl, HSL9.out, HF2, hbz⟩
          case measure => simp [intOf]; omega
        have HBF := Lib.hid hbf
        clear hbf
        have HF2 : Hid (FB (qS S R) a cs (b + 1) (subB b kn) w1) := by
          show FB _ _ _ _ _ _
          have := HFB.out.more (w := w1) (by rw [← HLK.out]; exact HIT.out) (by rw [← HLK.out]; exact .inr ⟨HEQ.out, HBF.out⟩)
          rw [← HLK.out] at this
          exact this
        clear hbx
        go_wp2_with fail
        go_roundw
        case rel => exact ⟨b + 1, A', n', c', subB b kn, w1, by omega, by go_num, rfl, rfl, HSC9.out, HF2, hbz⟩
        case measure => simp [intOf]; omega
end Go.Proofs.YtijcbfhlhgjedaaDoor
