/- pace.Said: when each call ends. -/
import Derived.Test.YtogkmnopggmdjaaGreatDoorPLen
namespace Go.Proofs.YtogkmnopggmdjaaGreatDoor
open Go.RowKit Go.Shelf Go.Sort Go.Proofs

attribute [local go_sem] Oper.semAt_some

theorem infoTi0 : (Tryz.prog.info? 122).map (fun i => (i.zero, i.size, i.bytes)) = some (some (.agg #[.int .i64 0, .int .i64 0]), 2, 16) := by kernel_rfl
theorem make_times0 (N : Nat) (hN : N ≤ 100000) (w : World) : (Instr.makeSlice 123 (.int .i64 ((N : Int) + 1)) (.int .i64 ((N : Int) + 1))).run Tryz.prog w =
    .ok (.slice (some ⟨w.heap.size, 0, none⟩) (N + 1) (N + 1)) (w.alloc (.cells (madeCells #[.int .i64 0, .int .i64 0] (2 * N + 2)) 122)) := by
  obtain ⟨ie, hie, hiz, his, hib⟩ := info_parts infoTi0
  have hr := run_makeSlice (P := Tryz.prog) w 123 122 ie (.agg #[.int .i64 0, .int .i64 0]) Tryz.underlying123 hie hiz .i64 .i64 ((N : Int) + 1) ((N : Int) + 1) (by omega) (by omega) (by rw [his]; omega) (by rw [hib]; omega) (by omega)
  rw [hr, his]
  have e1 : ((N : Int) + 1).toNat = N + 1 := by omega
  have e2 : (N + 1) * 2 = 2 * N + 2 := by omega
  rw [e1, e2]
  rfl
def maxR : Int := 1125899906842624
/-- The time at a place. -/
def runAt (run : List Int) (p : Int) : Int := run.getD p.toNat 0
/-- When the first k calls have been read. -/
def endAt (cs : List CallR) (ls run : List Int) : Nat → Int
  | 0 => 0
  | k + 1 => match cs[k]?, ls[k]? with
    | some c, some p => max (endAt cs ls run k) (runAt run p) + c.lasts
    | _, _ => endAt cs ls run k
def saidL (cs : List CallR) (ls run : List Int) (n : Nat) : List Int := (List.range' 0 n).map fun k => endAt cs ls run (k + 1)
theorem saidL_succ (cs : List CallR) (ls run : List Int) (n : Nat) : saidL cs ls run (n + 1) = saidL cs ls run n ++ [endAt cs ls run (n + 1)] := by
  unfold saidL
  rw [List.range'_concat, List.map_append]
  simp
theorem endAt_succ {cs : List CallR} {ls run : List Int} {k : Nat} (h : k < cs.length) {q : Nat} (hq : ls[k]? = some (q : Int)) {v : Int} (hv : run[q]? = some v) : endAt cs ls run (k + 1) = max (endAt cs ls run k) v + (cs[k]'h).lasts := by
  rw [endAt, List.getElem?_eq_getElem h, hq]
  simp only
  unfold runAt
  rw [Int.toNat_natCast, List.getD, hv]
  rfl
theorem runAt_bd {n : Int} {m : Nat} {run : List Int} (h : TOK n m run) (hn : 0 ≤ n) (p : Int) : 0 ≤ runAt run p ∧ runAt run p ≤ n := by
  unfold runAt
  rw [List.getD]
  rcases Nat.lt_or_ge p.toNat run.length with hp | hp
  · rw [List.getElem?_eq_getElem hp]
    have := (h.t p.toNat hp _ (List.getElem?_eq_getElem hp)).1
    simpa [inR] using this
  · rw [List.getElem?_eq_none hp]
    exact ⟨Int.le_refl _, hn⟩
theorem endAt_bd {N : Int} {m : Nat} {cs : List CallR} {ls run : List Int} (hc : COK N cs) (hr : TOK maxR m run) : ∀ k, 0 ≤ endAt cs ls run k ∧ endAt cs ls run k ≤ maxR * (k + 1)
  | 0 => by simp [endAt, maxR]
  | k + 1 => by
    have ih := endAt_bd (ls := ls) hc hr k
    rw [endAt]
    split
    · rename_i c p h1 h2
      have hk : k < cs.length := (List.getElem?_eq_some_iff.1 h1).1
      have hl := (hc.k k hk c h1).2.1
      simp only [inR, Bool.and_eq_true, decide_eq_true_eq] at hl
      have hb := runAt_bd hr (by decide) p
      have e : maxM = maxR := rfl
      rw [e] at hl
      have e2 : maxR * ((k + 1 : Nat) + 1) = maxR * (k + 1) + maxR := by rw [Int.mul_add, Int.mul_one]; rfl
      rw [e2]
      have h3 : maxR ≤ maxR * (k + 1) := by
        have : maxR * 1 ≤ maxR * (k + 1) := Int.mul_le_mul_of_nonneg_left (by omega) (by decide)
        rwa [Int.mul_one] at this
      omega
    · have e2 : maxR * ((k + 1 : Nat) + 1) = maxR * (k + 1) + maxR := by rw [Int.mul_add, Int.mul_one]; rfl
      rw [e2]
      have : (0 : Int) ≤ maxR := by decide
      omega
theorem end_in {N : Int} {m : Nat} {cs : List CallR} {ls run : List Int} (hc : COK N cs) (hr : TOK maxR m run) {k : Nat} (hk : k ≤ 300) : 0 ≤ endAt cs ls run k ∧ endAt cs ls run k ≤ 340000000000000000 := by
  have h := endAt_bd (ls := ls) hc hr k
  have : maxR * ((k : Int) + 1) ≤ maxR * 301 := Int.mul_le_mul_of_nonneg_left (by omega) (by decide)
  have e : maxR * 301 = 338895871959629824 := by decide
  omega
/-- When the calls end, of whatever arguments. -/
def saidOkB (R : Road) (cs : List CallR) (ls us : List Int) : Bool := val R && cB (sumL R.ps) cs && trB (sumL R.ps) cs.length ls && trB maxR ((sumL R.ps).toNat + 1) us
def saidAll (R : Road) (cs : List CallR) (ls us : List Int) : List Int × Int := if saidOkB R cs ls us = true then (saidL cs ls us cs.length, 0) else ([], 2)
theorem saidAll_bad {R : Road} {cs : List CallR} {ls us : List Int} (h : saidOkB R cs ls us = false) : saidAll R cs ls us = ([], 2) := by unfold saidAll; rw [h]; rfl
theorem saidAll_ok {R : Road} {cs : List CallR} {ls us : List Int} (h : saidOkB R cs ls us = true) : saidAll R cs ls us = (saidL cs ls us cs.length, 0) := by unfold saidAll; rw [h]; rfl
theorem infoI3 : (Tryz.prog.info? 3).map (fun i => (i.zero, i.size, i.bytes)) = some (some (.int .i64 0), 1, 8) := by kernel_rfl
set_option maxRecDepth 100000 in
set_option maxHeartbeats 8000000 in
theorem Said_all (pa : Option Addr) (pn pc : Nat) (ca : Option Addr) (cn cc : Nat) (ja : Option Addr) (jn jc : Nat) (R : Road) (ka : Option Addr) (kn kc : Nat) (cs : List CallR) (la : Option Addr) (ln lc : Nat) (ls : List Int) (ua : Option Addr) (un uc : Nat) (us : List Int) (w : World)
    (h : RD w w.heap.size pa pn ca cn ja jn R) (hK : SL caC 5 w w.heap.size ka kn cs) (hL : SL iC 1 w w.heap.size la ln ls) (hU : SL iC 1 w w.heap.size ua un us) (hkn : kn ≤ 100000) (hln : ln ≤ 100000) (hun : un ≤ 200000) :
    Calls Tryz.prog 21 #[.agg #[.slice pa pn pc, .slice ca cn cc, .slice ja jn jc], .slice ka kn kc, .slice la ln lc, .slice ua un uc] w fun e w' =>
      ∃ A n c, e = .returned (.tuple #[.slice A n c, .int .i64 (saidAll R cs ls us).2]) ∧ SL iC 1 w' w'.heap.size A n (saidAll R cs ls us).1 ∧ Below w.heap.size w w' := by
  have hmo : Tryz.prog.follows .mixedOrders = true := by kernel_rfl
  have HLK := Lib.hid hK.1
  have HLU := Lib.hid hU.1
  have HR := Lib.hid h
  have HK := Lib.hid hK
  have HL := Lib.hid hL
  have HU := Lib.hid hU
  clear h hK hL hU
  obtain ⟨w0, hw0⟩ : ∃ w0, w0 = w.alloc (.cells #[.slice pa pn pc, .slice ca cn cc, .slice ja jn jc] 26) := ⟨_, rfl⟩
  have hB0 : Below w.heap.size w w0 := by rw [hw0]; exact (Below.refl w.heap.size w).alloc (Nat.le_refl _) _
  have hX0 : BK w0 (w.heap.size) 26 #[.slice pa pn pc, .slice ca cn cc, .slice ja jn jc] := by rw [hw0]; exact (BK.new w 26 #[.slice pa pn pc, .slice ca cn cc, .slice ja jn jc])
  go_enter Tryz.func21, Tryz.ntmps21
  go_wp2_with fail
  rw [← hw0]
  clear hw0
  have x0 := hX0.cell 0
  have x1 := hX0.cell 1
  have x2 := hX0.cell 2
  simp only [List.getElem?_toArray, List.getElem?_cons_zero, List.getElem?_cons_succ] at x0 x1 x2
  go_wp2_with fail
  clear x0 x1 x2
  by_cases hv : OK R
  case neg =>
    have HE : Hid (saidAll R cs ls us = ([], 2)) := saidAll_bad (by unfold saidOkB; rw [show val R = false from Bool.eq_false_iff.2 fun q => hv ((val_iff R).1 q)]; rfl)
    refine (Length_bad pa pn pc ca cn cc ja jn jc R w0 (HR.out.grow hB0 hB0.size) hv).mono ?_
    rintro e w1 ⟨rfl, hk⟩
    have hB1 := hB0.trans (hk.mono hB0.size)
    go_wp2_with fail
    refine bodyPost_ret (v := .tuple #[.slice none 0 0, .int .i64 2]) (by simp [results, Tryz.results21, go_sem]) rfl ⟨none, 0, 0, by rw [HE.out], by rw [HE.out]; exact SL.nil_, hB1⟩
  have HV := Lib.hid hv
  obtain ⟨N, hN⟩ : ∃ N : Nat, sumL R.ps = (N : Int) := ⟨(sumL R.ps).toNat, by have := (sumL_bd R.ps hv.pk).1; omega⟩
  have hN1 : N ≤ 100000 := by have := hv.n1; omega
  have HOB : Hid (saidOkB R cs ls us = (cB N cs && trB N kn ls && trB maxR (N + 1) us)) := by
    show _ = _
    unfold saidOkB
    rw [(val_iff R).2 hv, hN, Int.toNat_natCast, HLK.out, Bool.true_and]
  have HNN := Lib.hid hN
  clear hv hN
  refine (Length_in pa pn pc ca cn cc ja jn jc R w0 (HR.out.grow hB0 hB0.size) HV.out).mono ?_
  rintro e w1 ⟨rfl, hk⟩
  rw [HNN.out]
  have hB1 := hB0.trans (hk.mono hB0.size)
  have hX1 := hX0.below hk hX0.lt
  clear hX0 hB0 hk
  go_wp2_with fail
  have x0 := fun d os => cell_regrown (hX1.cell 0) d os
  have x1 := fun d os => cell_regrown (hX1.cell 1) d os
  have x2 := fun d os => cell_regrown (hX1.cell 2) d os
  have hw1 : IntKind.i64.wrap ((N : Int) + 1) = (N : Int) + 1 := IntWalk.i64_in _ (by omega)
  have hlX := hX1.lt
  refine wp_region_ch 6 [3, 4, 5] hmo (by kernel_rfl) ?_
  simp only [List.take_succ_cons, List.take_zero, List.drop_succ_cons, List.drop_zero]
  repeat (refine wpC_q (by decide) (by decide) (fun K hK => ?_); go_simp; refine hK _ ?_; clear hK K)
  refine wpC_v (ι := Nat) (fun M => .slice (some ⟨M, 0, none⟩) (N + 1) (N + 1)) (fun _ _ => True) (by decide) (by decide) rfl stable_true (fun _ => stable_true)
    (fun W hW _ => ?_) (fun M hsM => ?_)
  · obtain ⟨p, rfl⟩ := hW
    refine ⟨(grow (redrawn w1 p.d) p.os).heap.size, (grow (redrawn w1 p.d) p.os).alloc (.cells (madeCells #[.int .i64 0, .int .i64 0] (2 * N + 2)) 122), ?_, trivial, (Below.refl _ _).alloc (Nat.le_refl _) _⟩
    have hr := make_times0 N hN1 (grow (redrawn w1 p.d) p.os)
    go_simp
  refine wpC_v (ι := Unit) (fun _ => .agg #[.slice pa pn pc, .slice ca cn cc, .slice ja jn jc, .slice (some ⟨M, 0, none⟩) (N + 1) (N + 1)]) (fun _ _ => True) (by decide) (by decide) rfl hsM (fun _ => stable_true)
    (fun W _ _ => ⟨(), W, by go_simp, trivial, Below.refl _ _⟩) (fun _ hs2 => ?_)
  refine wpC_v (ι := Nat) (fun g => .pointer (some ⟨g, 0, none⟩)) (fun g x => w1.heap.size ≤ g ∧ BK x g 125 #[.slice pa pn pc, .slice ca cn cc, .slice ja jn jc, .slice (some ⟨M, 0, none⟩) (N + 1) (N + 1)]) (by decide) (by decide) rfl hs2
    (fun g x y ⟨q1, q3⟩ hb => ⟨q1, q3.below hb q3.lt⟩) (fun W hW hΦ => ?_) (fun g hs3 => ?_)
  · obtain ⟨p, rfl⟩ := hW
    have hb := below_regrown w1 p.d p.os
    refine ⟨(grow (redrawn w1 p.d) p.os).heap.size, (grow (redrawn w1 p.d) p.os).alloc (.cells #[.slice pa pn pc, .slice ca cn cc, .slice ja jn jc, .slice (some ⟨M, 0, none⟩) (N + 1) (N + 1)] 125), by go_simp, ⟨hb.size, BK.new _ _ _⟩, (Below.refl _ _).alloc (Nat.le_refl _) _⟩
  refine wpC_nil ?_
  intro w2 hk hΦ
  obtain ⟨-, hg1, hG⟩ := hΦ
  have HT2 : Hid (TL w2 w2.heap.size g (some ⟨M, 0, none⟩) (N + 1) N) := ⟨hG.lt, by have := hG.cell 3; simpa using this⟩
  clear hsM hs2 hs3 x0 x1 x2 hG hw1
  have hB2 := hB1.trans (hk.mono hB1.size)
  clear hB1 hk
  go_wp2_with fail
  refine (calls_len ka kn kc cs g _ _ N w2 HT2.out (HK.out.grow hB2 hB2.size) (by omega) hkn).mono ?_
  rintro e w3 ⟨rfl, hk⟩
  have HT3 := Lib.hid (HT2.out.grow hk hk.size)
  clear HT2
  have hB3 := hB2.trans (hk.mono hB2.size)
  clear hB2 hk
  cases hcb : cB N cs
  case false =>
    have HE : Hid (saidAll R cs ls us = ([], 2)) := saidAll_bad (by rw [HOB.out, hcb]; rfl)
    go_wp2_with fail
    refine bodyPost_ret (v := .tuple #[.slice none 0 0, .int .i64 2]) (by simp [results, Tryz.results21, go_sem]) rfl ⟨none, 0, 0, by rw [HE.out], by rw [HE.out]; exact SL.nil_, hB3⟩
  have HCB := Lib.hid hcb
  have HC := Lib.hid ((cB_iff _ _).1 hcb)
  clear hcb
  go_wp2_with fail
  refine (trig_len ka kn kc la ln lc ls g _ _ N w3 HT3.out (HL.out.grow hB3 hB3.size) (by omega) hln).mono ?_
  rintro e w' ⟨rfl, rfl⟩
  cases htb : trB N kn ls
  case false =>
    have HE : Hid (saidAll R cs ls us = ([], 2)) := saidAll_bad (by rw [HOB.out, htb, Bool.and_false]; rfl)
    go_wp2_with fail
    refine bodyPost_ret (v := .tuple #[.slice none 0 0, .int .i64 2]) (by simp [results, Tryz.results21, go_sem]) rfl ⟨none, 0, 0, by rw [HE.out], by rw [HE.out]; exact SL.nil_, hB3⟩
  have HTB := Lib.hid htb
  have HT : Hid (TOK N cs.length ls) := by have := (trB_iff _ _ _).1 htb; rw [HLK.out] at this; exact this
  clear htb
  by_cases hnu : un = N + 1
  case neg =>
    have HE : Hid (saidAll R cs ls us = ([], 2)) := saidAll_bad (by rw [HOB.out, trB_bad (n := maxR) (m := N + 1) (ls := us) (fun q => hnu (by rw [HLU.out, q.l])), Bool.and_false])
    have g0 : ((un : Int) == (N : Int) + 1) = false := by simp; omega
    go_wp2_with fail
    refine bodyPost_ret (v := .tuple #[.slice none 0 0, .int .i64 2]) (by simp [results, Tryz.results21, go_sem]) rfl ⟨none, 0, 0, by rw [HE.out], by rw [HE.out]; exact SL.nil_, hB3⟩
  have g0 : ((un : Int) == (N : Int) + 1) = true := by simp; omega
  have g0' : ((un : Int) != (N : Int) + 1) = false := by simp; omega
  have HNU := Lib.hid hnu
  clear hnu
  go_wp2_with fail
  have hz3 := hB3.size
  go_loopw [52] (fun i wr => ∃ k : Nat, k ≤ un ∧ i = .int .i64 k ∧ w3 = wr ∧ Hid (∀ i, i < k → gAt maxR us i))
    (fun i _ => un - (intOf i).toNat)
  case atStart => exact ⟨0, Nat.zero_le _, rfl, rfl, by simp [Hid]⟩
  case round =>
    obtain ⟨m, hm, rfl, rfl, hall⟩ := hrel
    by_cases hlt : m < un
    case pos =>
      have hkl : m < us.length := by rw [← HLU.out]; exact hlt
      have hw := (HU.out.grow hB3 hB3.size)
      obtain ⟨b, off, hA, hbB, c0⟩ := IS.at_ hw (k := m) hkl
      have hstep : Hid (∀ (hh : inR us[m] 0 maxR = true ∧ ∀ d, 0 < m → us[m-1]? = some d → d ≤ us[m]), ∀ i, i < m + 1 → gAt maxR us i) := by
        intro hh i hi
        rcases Nat.lt_or_ge i m with h | h
        · exact hall.out i h
        · obtain rfl : i = m := by omega
          intro c hc
          rw [List.getElem?_eq_getElem hkl] at hc
          cases hc
          exact hh
      have hno : Hid (∀ (hh : ¬ (inR us[m] 0 maxR = true ∧ ∀ d, 0 < m → us[m-1]? = some d → d ≤ us[m])), saidAll R cs ls us = ([], 2)) := by
        intro hh
        exact saidAll_bad (by rw [HOB.out, trB_bad (fun q => hh (q.t m hkl _ (List.getElem?_eq_getElem hkl))), Bool.and_false])
      have hprev : 0 < m → ∃ d, Hid (us[m-1]? = some d) ∧ w3.cell? ⟨b, off + (m-1), none⟩ = some (.int .i64 d) := by
        intro h0
        obtain ⟨b2, off2, hA2, _, c02⟩ := IS.at_ hw (k := m - 1) (by omega)
        rw [hA] at hA2
        cases hA2
        exact ⟨us[m-1], List.getElem?_eq_getElem (by omega), c02⟩
      generalize us[m]'hkl = c at c0 hstep hno
      clear hkl hall hw
      have hm1 : (0 : Int) ≤ (m : Int) := by omega
      have hm2 : (m : Int) < (un : Int) := by omega
      subst hA
      rw [show maxR = 1125899906842624 from rfl] at hstep hno
      cases e1 : inR c 0 1125899906842624
      case false =>
        have HE := Lib.hid (hno.out (by simp [e1]))
        have HE1 := Lib.hid e1
        clear hno hstep hprev e1
        go_wp2_with (go_at_call 31; refine (pwithin_any _ _ _ _).mono ?_; rintro e w' ⟨rfl, rfl⟩; rw [HE1.out])
        refine bodyPost_ret (v := .tuple #[.slice none 0 0, .int .i64 2]) (by simp [results, Tryz.results21, go_sem]) rfl ⟨none, 0, 0, by rw [HE.out], by rw [HE.out]; exact SL.nil_, hB3⟩
      have HE1 := Lib.hid e1
      by_cases hm0 : 0 < m
      case pos =>
        obtain ⟨d, hd, cd⟩ := hprev hm0
        have hg : decide ((0 : Int) < (m : Int)) = true := by simp; omega
        by_cases hlt2 : c < d
        case pos =>
          have g3 : decide (c < d) = true := by simpa using hlt2
          have HE := Lib.hid (hno.out (by rintro ⟨-, h⟩; have := h d hm0 hd.out; omega))
          clear hno hstep hprev e1
          go_wp2_with (go_at_call 31; refine (pwithin_any _ _ _ _).mono ?_; rintro e w' ⟨rfl, rfl⟩; rw [HE1.out])
          refine bodyPost_ret (v := .tuple #[.slice none 0 0, .int .i64 2]) (by simp [results, Tryz.results21, go_sem]) rfl ⟨none, 0, 0, by rw [HE.out], by rw [HE.out]; exact SL.nil_, hB3⟩
        have g3 : decide (c < d) = false := by simpa using hlt2
        have hs' := Lib.hid (hstep.out ⟨e1, fun d' _ h' => by rw [hd.out] at h'; cases h'; omega⟩)
        clear hno hstep hprev e1
        go_wp2_with (go_at_call 31; refine (pwithin_any _ _ _ _).mono ?_; rintro e w' ⟨rfl, rfl⟩; rw [HE1.out])
        go_roundw
        case rel => exact ⟨m + 1, by omega, by go_num, by trivial, hs'⟩
        case measure => simp [intOf]; omega
      have hg : decide ((0 : Int) < (m : Int)) = false := by simp; omega
      have hs' := Lib.hid (hstep.out ⟨e1, fun d' h' => absurd h' hm0⟩)
      clear hno hstep hprev e1
      go_wp2_with (go_at_call 31; refine (pwithin_any _ _ _ _).mono ?_; rintro e w' ⟨rfl, rfl⟩; rw [HE1.out])
      go_roundw
      case rel => exact ⟨m + 1, by omega, by go_num, by trivial, hs'⟩
      case measure => simp [intOf]; omega
    obtain rfl : m = un := by omega
    have HU3 : Hid (TOK maxR (N + 1) us) := ⟨by rw [← HLU.out]; exact HNU.out, fun i hi => hall.out i (by rw [HLU.out]; exact hi)⟩
    have HE : Hid (saidAll R cs ls us = (saidL cs ls us kn, 0)) := by show _ = _; rw [saidAll_ok (by rw [HOB.out, HCB.out, HTB.out, trB_ok HU3.out]; rfl), HLK.out]
    have hkn3 : kn ≤ 300 := by rw [HLK.out]; exact HC.out.l1
    clear hall HOB
    go_wp2_with fail
    go_loopw [15, 16, 76] (fun o en i wr => ∃ (k : Nat) (A : Option Addr) (n c : Nat), k ≤ kn ∧ i = .int .i64 k ∧ o = .slice A n c ∧ en = .int .i64 (endAt cs ls us k) ∧ n ≤ k ∧ OW iC 1 3 w3.heap.size wr A n c (saidL cs ls us k) ∧ Below w3.heap.size w3 wr)
      (fun _ _ i _ => kn - (intOf i).toNat)
    case atStart => exact ⟨0, none, 0, 0, Nat.zero_le _, rfl, rfl, rfl, Nat.le_refl _, OW.nil_, Below.refl _ _⟩
    case round =>
      obtain ⟨k, A, n, c, hk, rfl, rfl, rfl, hnk, hO, hbr⟩ := hrel
      have hBr := hB3.trans (hbr.mono hz3)
      by_cases hlt : k < kn
      · have hkl : k < cs.length := by rw [← HLK.out]; exact hlt
        have hll : k < ls.length := by rw [HT.out.l]; exact hkl
        have hpb := (HT.out.t k hll _ (List.getElem?_eq_getElem hll)).1
        simp only [inR, Bool.and_eq_true, decide_eq_true_eq] at hpb
        obtain ⟨q, hq⟩ : ∃ q : Nat, ls[k]'hll = (q : Int) := ⟨(ls[k]'hll).toNat, by omega⟩
        have hqu : q < us.length := by have := HU3.out.l; omega
        have hes := endAt_succ (cs := cs) (ls := ls) (run := us) hkl (q := q) (by rw [List.getElem?_eq_getElem hll, hq]) (List.getElem?_eq_getElem hqu)
        have hsL := Lib.hid (saidL_succ cs ls us k)
        have hb0 := end_in (ls := ls) HC.out HU3.out (k := k) (by omega)
        have hb1 := end_in (ls := ls) HC.out HU3.out (k := k + 1) (by omega)
        have hub := (HU3.out.t q hqu _ (List.getElem?_eq_getElem hqu)).1
        simp only [inR, Bool.and_eq_true, decide_eq_true_eq] at hub
        rw [show maxR = 1125899906842624 from rfl] at hub
        have hlb := kAt_bd HC.out hkl
        obtain ⟨b, off, hA, hbB, c0, c1, c2, c3, c4⟩ := KS5.at_ (HK.out.grow hBr hBr.size) (k := k) hkl
        obtain ⟨b2, off2, hA2, hbB2, d0⟩ := IS.at_ (HL.out.grow hBr hBr.size) (k := k) hll
        obtain ⟨b3, off3, hA3, hbB3, e0⟩ := IS.at_ (HU.out.grow hBr hBr.size) (k := q) hqu
        rw [hq] at d0
        have hqm : (q : Int) < (m : Int) := by rw [HLU.out]; omega
        generalize us[q]'hqu = v at e0 hes hub
        generalize cs[k]'hkl = x at c0 c1 c2 c3 c4 hes hlb
        clear hkl hll hqu hq hpb
        obtain ⟨E0, hE0⟩ : ∃ E0, E0 = endAt cs ls us k := ⟨_, rfl⟩
        obtain ⟨E1, hE1⟩ : ∃ E1, E1 = endAt cs ls us (k + 1) := ⟨_, rfl⟩
        obtain ⟨M0, hM0⟩ : ∃ M0, M0 = max E0 v := ⟨_, rfl⟩
        rw [← hE0] at hb0 hes ⊢
        rw [← hE1] at hb1 hes hsL
        rw [← hM0] at hes
        have hite : (if E0 < v then v else E0) = M0 := by subst hM0; rw [Int.max_def]; split <;> split <;> omega
        have hMb : 0 ≤ M0 ∧ M0 ≤ 340000000000000000 := by subst hM0; omega
        have HE1 := Lib.hid hE1
        clear hE0 hE1 hM0
        obtain ⟨p3, p4⟩ := hlb.2.1
        rw [show maxM = 1125899906842624 from rfl] at p4
        clear hlb
        have hi1 : (0 : Int) ≤ (k : Int) := by omega
        have hi2 : (k : Int) < (kn : Int) := by omega
        have hi3 : (k : Int) < (ln : Int) := by have := HL.out.1; have := HT.out.l; have := HLK.out; omega
        have hi4 : (0 : Int) ≤ (q : Int) := by omega
        have hws : IntKind.i64.wrap (M0 + x.lasts) = E1 := by rw [hes]; exact IntWalk.i64_in _ (by omega)
        have HES := Lib.hid hes
        clear hes
        subst hA
        subst hA2
        subst hA3
        go_wp2_with fail
        go_quiet (fail)
        obtain ⟨wE, hwE⟩ : ∃ wE, wE = (wr.alloc (.cells #[.int .i64 x.place, .int .i64 x.lasts, .int .i64 x.lead, .int .i64 x.ahead, .int .i64 x.value] 49)).drewN nq := ⟨_, rfl⟩
        have hbE : Below wr.heap.size wr wE := by rw [hwE]; exact below_drewN ((Below.refl _ _).alloc (Nat.le_refl _) _) _
        rw [← hwE]
        clear hwE c0 c1 c2 c3 c4 d0 e0
        have hOE := hO.call hbE
        have hbrE := hbr.trans (hbE.mono hbr.size)
        have hzE := hbrE.size
        have hNew : BK (wE.alloc (.cells #[.int .i64 E1] 3)) wE.heap.size 3 #[.int .i64 E1] := BK.new wE _ _
        go_wp2_with (at_builtin; refine wpList_app rfl _ _ 27 rfl _ 3 _ 1 8 Tryz.underlying27 infoI3 rfl (by decide) iC A n c _ rfl (hOE.alloc _) E1 #[.int .i64 E1] rfl rfl 3 wE.heap.size rfl hNew (by simp [iC, Value.oneCell']) (by omega) (by omega) (by simp; omega) ?_; intro g' c' w8 hap; have HAP := Lib.hid hap; clear hap)
        have hap := HAP.out
        have hbN := (hbrE.alloc (by omega) _).trans hap.bel
        go_roundw
        case rel => exact ⟨k + 1, some ⟨g', 0, none⟩, n + 1, c', by omega, by go_num, rfl, by rw [← HE1.out], by omega, by rw [hsL.out]; exact hap.own, hbN⟩
        case measure => simp [intOf]; omega
      obtain rfl : k = kn := by omega
      go_wp2_with fail
      refine bodyPost_ret (v := .tuple #[.slice A n c, .int .i64 0]) (by simp [results, Tryz.results21, go_sem]) rfl ⟨A, n, c, by rw [HE.out], by rw [HE.out]; exact hO.sl iC_len, hBr⟩
end Go.Proofs.YtogkmnopggmdjaaGreatDoor
