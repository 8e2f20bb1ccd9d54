/- room: when a run must be at a trigger at the latest, and the first call that would end too late. -/
import Derived.Test.YtogkmnopggmdjaaGreatDoorPSpCk
namespace Go.Proofs.YtogkmnopggmdjaaGreatDoor
open Go.RowKit Go.Shelf Go.Sort Go.Proofs

theorem KS5.at_ {w : World} {B n : Nat} {A : Option Addr} {xs : List CallR} (h : SL caC 5 w B A n xs) {k : Nat} (hk : k < xs.length) : ∃ b off, A = some ⟨b, off, none⟩ ∧ b < B ∧
    w.cell? ⟨b, off + k * 5, none⟩ = some (.int .i64 xs[k].place) ∧ w.cell? ⟨b, off + k * 5 + 1, none⟩ = some (.int .i64 xs[k].lasts) ∧ w.cell? ⟨b, off + k * 5 + 2, none⟩ = some (.int .i64 xs[k].lead) ∧
    w.cell? ⟨b, off + k * 5 + 3, none⟩ = some (.int .i64 xs[k].ahead) ∧ w.cell? ⟨b, off + k * 5 + 4, none⟩ = some (.int .i64 xs[k].value) := by
  obtain ⟨b, off, e, hb, hc⟩ := h.at_ hk
  exact ⟨b, off, e, hb, hc 0 _ rfl, hc 1 _ rfl, hc 2 _ rfl, hc 3 _ rfl, hc 4 _ rfl⟩
def sumLs (cs : List CallR) : Int := (cs.map CallR.lasts).sum
theorem sumLs_snoc (l : List CallR) (c : CallR) : sumLs (l ++ [c]) = sumLs l + c.lasts := by simp [sumLs]
theorem rvs_snoc (Q : Int → Int) : ∀ (s : Int) (l : List CallR) (c : CallR), rvs Q s (l ++ [c]) = rvs Q s l ++ [Q c.place - (s + sumLs l + c.lasts) - c.lead]
  | s, [], c => by simp [rvs, sumLs]
  | s, d :: l, c => by
    have e : sumLs (d :: l) = d.lasts + sumLs l := by simp [sumLs]
    rw [List.cons_append, rvs, rvs_snoc Q (s + d.lasts) l c, rvs, List.cons_append, e, Int.add_assoc s]
theorem minL_snoc (l : List Int) (x : Int) : minL (l ++ [x]) = min (minL l) x := by simp [minL]
def lateI (f : Nat) (o : Option Nat) : Int := match o with | none => -1 | some i => (f : Int) + i
theorem find_snoc (l : List Int) (x : Int) : (l ++ [x]).findIdx? (fun r => decide (r < 0)) = (l.findIdx? fun r => decide (r < 0)).or (if x < 0 then some l.length else none) := by
  rw [List.findIdx?_append]
  congr 1
  by_cases h : x < 0 <;> simp [List.findIdx?_cons, h]
theorem kAt_bd {n : Int} {cs : List CallR} (h : COK n cs) {k : Nat} (hk : k < cs.length) : (0 ≤ cs[k].place ∧ cs[k].place ≤ n) ∧ (0 ≤ cs[k].lasts ∧ cs[k].lasts ≤ maxM) ∧ (0 ≤ cs[k].lead ∧ cs[k].lead ≤ maxM) ∧ (0 ≤ cs[k].ahead ∧ cs[k].ahead ≤ maxM) := by
  have := h.k k hk _ (List.getElem?_eq_getElem hk)
  simp only [inR, Bool.and_eq_true, decide_eq_true_eq] at this
  exact ⟨this.1, this.2.1, this.2.2.1, this.2.2.2.1⟩
theorem sumLs_bd {n : Int} {cs : List CallR} (h : COK n cs) (f : Nat) : ∀ d : Nat, 0 ≤ sumLs ((cs.drop f).take d) ∧ sumLs ((cs.drop f).take d) ≤ maxM * d
  | 0 => by simp [sumLs]
  | d + 1 => by
    have ih := sumLs_bd h f d
    by_cases hl : d < (cs.drop f).length
    · have hk : f + d < cs.length := by rw [List.length_drop] at hl; omega
      have h1 := (kAt_bd h hk).2.1
      have e : (cs.drop f)[d]'hl = cs[f + d]'hk := List.getElem_drop ..
      rw [List.take_succ_eq_append_getElem hl, sumLs_snoc, e]
      have h2 : maxM * ((d + 1 : Nat) : Int) = maxM * d + maxM := by rw [Int.natCast_add, Int.mul_add]; simp
      omega
    · have e : (cs.drop f).take (d + 1) = (cs.drop f).take d := by rw [List.take_of_length_le (by omega), List.take_of_length_le (by omega)]
      rw [e]
      have h2 : maxM * ((d + 1 : Nat) : Int) = maxM * d + maxM := by rw [Int.natCast_add, Int.mul_add]; simp
      have h3 : 0 ≤ maxM := by decide
      omega
/-- The least sum of times up to a place. -/
def qS (S : Spd) (R : Road) (p : Int) : Int := tQ S R.ps p.toNat
theorem minr_bd {n : Int} {cs : List CallR} (h : COK n cs) {Q : Int → Int} (hQ : ∀ p, 0 ≤ Q p) (f : Nat) (d : Nat) (hd : d ≤ 300) : -(maxM * 400) ≤ minL (rvs Q 0 ((cs.drop f).take d)) ∧ minL (rvs Q 0 ((cs.drop f).take d)) ≤ maxM := by
  refine ⟨?_, ((le_minL _ _).1 (Int.le_refl _)).1⟩
  refine (le_minL _ _).2 ⟨by decide, ?_⟩
  induction d with
  | zero => intro y hy; cases hy
  | succ d ih =>
    intro y hy
    by_cases hl : d < (cs.drop f).length
    · have hk : f + d < cs.length := by rw [List.length_drop] at hl; omega
      have h1 := kAt_bd h hk
      have e : (cs.drop f)[d]'hl = cs[f + d]'hk := List.getElem_drop ..
      rw [List.take_succ_eq_append_getElem hl, rvs_snoc, e] at hy
      rcases List.mem_append.1 hy with hy | hy
      · exact ih (by omega) y hy
      · rw [List.mem_singleton] at hy
        have h2 := sumLs_bd h f d
        have h3 := hQ cs[f + d].place
        have h4 : maxM * (d : Int) ≤ maxM * 300 := Int.mul_le_mul_of_nonneg_left (by omega) (by decide)
        have h5 : maxM = 1125899906842624 := rfl
        omega
    · rw [List.take_of_length_le (by omega)] at hy
      rw [List.take_of_length_le (by omega)] at ih
      exact ih (by omega) y hy
set_option maxRecDepth 100000 in
set_option maxHeartbeats 4000000 in
theorem room_any (f : Nat) (ka : Option Addr) (kn kc : Nat) (cs : List CallR) (g : Nat) (ta : Option Addr) (tc N : Nat) (S : Spd) (R : Road) (w : World) (h : TS w w.heap.size g ta tc N S R)
    (hk : SL caC 5 w w.heap.size ka kn cs) (hc : COK N cs) (hS : SOK S) (hv : OK R) (hf : f ≤ kn) :
    Calls Tryz.prog 52 #[.pointer (some ⟨g, 0, none⟩), .slice ka kn kc, .int .i64 f] w fun e w' => e = .returned (.tuple #[.int .i64 (roomM (qS S R) (cs.drop f)), .int .i64 (lateI f (lateM (qS S R) (cs.drop f)))]) ∧ ∃ m, w' = w.drewN m := by
  have HT := Lib.hid h
  have HK := Lib.hid hk
  have HL := Lib.hid hk.1
  have HC := Lib.hid hc
  have HS := Lib.hid hS
  have HV := Lib.hid hv
  have hN : N ≤ 100000 := by have := h.n; have := hv.n1; omega
  have hkn : kn ≤ 300 := by rw [hk.1]; exact hc.l1
  have HQ0 : Hid (∀ p, 0 ≤ qS S R p) := fun p => (tQ_bd hS hv _).1
  clear h hk hc hS hv
  go_enter Tryz.func52, Tryz.ntmps52
  go_wp2_with fail
  go_loopw [8, 9, 10, 11] (fun ro la su i wr => ∃ (d : Nat), f + d ≤ kn ∧ i = .int .i64 ((f + d : Nat) : Int) ∧ su = .int .i64 (sumLs ((cs.drop f).take d)) ∧ ro = .int .i64 (minL (rvs (qS S R) 0 ((cs.drop f).take d))) ∧
      la = .int .i64 (lateI f ((rvs (qS S R) 0 ((cs.drop f).take d)).findIdx? fun r => decide (r < 0))) ∧ ∃ m, wr = w.drewN m)
    (fun _ _ _ i _ => kn - (intOf i).toNat)
  case atStart => exact ⟨0, by omega, by simp, by simp [sumLs], by simp [rvs, minL, maxM], by simp [rvs, lateI], 0, rfl⟩
  case round =>
    obtain ⟨d, hd, rfl, rfl, rfl, rfl, m, rfl⟩ := hrel
    have hkk := below_drewN (Below.refl w.heap.size w) m
    have hsb := sumLs_bd HC.out f d
    have hmb := minr_bd HC.out HQ0.out f d (by omega)
    have hd300 : maxM * (d : Int) ≤ maxM * 300 := Int.mul_le_mul_of_nonneg_left (by omega) (by decide)
    have hmx : maxM = 1125899906842624 := rfl
    rw [hmx] at hsb hmb hd300
    obtain ⟨s1, s2⟩ := hsb
    obtain ⟨m1, m2⟩ := hmb
    have s3 : sumLs ((cs.drop f).take d) ≤ 337769972052787200 := by omega
    clear s2 hd300 hmx
    by_cases hlt : f + d < kn
    · have hkl : f + d < cs.length := by rw [← HL.out]; exact hlt
      have hl : d < (cs.drop f).length := by rw [List.length_drop]; omega
      obtain ⟨b, off, hA, hbB, c0, c1, c2, -, -⟩ := KS5.at_ HK.out (k := f + d) hkl
      have hbd := kAt_bd HC.out hkl
      have e : (cs.drop f)[d]'hl = cs[f + d]'hkl := List.getElem_drop ..
      have ht : (cs.drop f).take (d + 1) = (cs.drop f).take d ++ [cs[f + d]'hkl] := by rw [List.take_succ_eq_append_getElem hl, e]
      have HTk := Lib.hid ht
      generalize cs[f + d]'hkl = c at c0 c1 c2 hbd HTk
      obtain ⟨⟨p1, p2⟩, ⟨p3, p4⟩, ⟨p5, p6⟩, -⟩ := hbd
      have hmx : maxM = 1125899906842624 := rfl
      rw [hmx] at p4 p6
      obtain ⟨b2, o2, hA2, hb2, q0, -⟩ := TT.at_ HT.out.t (k := c.place.toNat) (by omega)
      have t3 := HT.out.c3
      have t4 := HT.out.lt
      obtain ⟨z1, z2⟩ := tQ_bd HS.out HV.out c.place.toNat
      have hqs : qS S R c.place = tQ S R.ps c.place.toNat := rfl
      have HQS := Lib.hid hqs
      generalize tQ S R.ps c.place.toNat = u at *
      have HSU : Hid (sumLs ((cs.drop f).take (d + 1)) = sumLs ((cs.drop f).take d) + c.lasts) := by show _ = _; rw [HTk.out, sumLs_snoc]
      have hrv : rvs (qS S R) 0 ((cs.drop f).take (d + 1)) = rvs (qS S R) 0 ((cs.drop f).take d) ++ [u - (sumLs ((cs.drop f).take d) + c.lasts) - c.lead] := by rw [HTk.out, rvs_snoc, HQS.out, Int.zero_add]
      have HMI : Hid (minL (rvs (qS S R) 0 ((cs.drop f).take (d + 1))) = min (minL (rvs (qS S R) 0 ((cs.drop f).take d))) (u - (sumLs ((cs.drop f).take d) + c.lasts) - c.lead)) := by show _ = _; rw [hrv, minL_snoc]
      have hln : (rvs (qS S R) 0 ((cs.drop f).take d)).length = d := by rw [rvs_len, List.length_take]; omega
      have HFI : Hid ((rvs (qS S R) 0 ((cs.drop f).take (d + 1))).findIdx? (fun r => decide (r < 0)) = ((rvs (qS S R) 0 ((cs.drop f).take d)).findIdx? fun r => decide (r < 0)).or (if u - (sumLs ((cs.drop f).take d) + c.lasts) - c.lead < 0 then some d else none)) := by show _ = _; rw [hrv, find_snoc, hln]
      clear hln hrv hqs e ht hkl hl
      generalize sumLs ((cs.drop f).take d) = su at *
      generalize minL (rvs (qS S R) 0 ((cs.drop f).take d)) = mn at *
      generalize (rvs (qS S R) 0 ((cs.drop f).take d)).findIdx? (fun r => decide (r < 0)) = fo at *
      obtain ⟨r, hr⟩ : ∃ r, r = u - (su + c.lasts) - c.lead := ⟨_, rfl⟩
      rw [← hr] at HMI HFI
      have hite : (if r < mn then r else mn) = min mn r := by rw [Int.min_def]; split <;> split <;> omega
      have hr1 : -(450359962737049600) ≤ r := by omega
      have i1 : (0 : Int) ≤ ((f + d : Nat) : Int) := by omega
      have i2 : ((f + d : Nat) : Int) < (kn : Int) := by omega
      have i3 : c.place < (N : Int) + 1 := by omega
      have hw1 : IntKind.i64.wrap (su + c.lasts) = su + c.lasts := IntWalk.i64_in _ (by omega)
      have hw2 : IntKind.i64.wrap (u - (su + c.lasts)) = u - (su + c.lasts) := IntWalk.i64_in _ (by omega)
      have hw3 : IntKind.i64.wrap (u - (su + c.lasts) - c.lead) = r := by rw [hr]; exact IntWalk.i64_in _ (by omega)
      have HR := Lib.hid hr
      clear hr
      subst hA
      subst hA2
      by_cases hr0 : r < 0
      · have g1 : decide (r < 0) = true := by simpa using hr0
        cases fo with
        | none =>
          have HN : Hid (lateI f none = -1) := rfl
          rw [HN.out]
          go_wp2_with fail
          go_quiet (fail)
          go_wp2_with fail
          go_roundw
          case rel => exact ⟨d + 1, by omega, by go_num, by rw [HSU.out], by rw [HMI.out], by rw [HFI.out, if_pos hr0]; simp [lateI], m + nq, by first | rfl | rw [World.drewN_drewN]⟩
          case measure => simp [intOf]; omega
        | some i =>
          have HN : Hid (lateI f (some i) = ((f + i : Nat) : Int)) := by show _ = _; simp [lateI]
          have g2 : decide (((f + i : Nat) : Int) < 0) = false := by simp; omega
          rw [HN.out]
          go_wp2_with fail
          go_quiet (fail)
          go_wp2_with fail
          go_roundw
          case rel => exact ⟨d + 1, by omega, by go_num, by rw [HSU.out], by rw [HMI.out], by rw [HFI.out]; simp [lateI], m + nq, by first | rfl | rw [World.drewN_drewN]⟩
          case measure => simp [intOf]; omega
      · have g1 : decide (r < 0) = false := by simpa using hr0
        go_wp2_with fail
        go_quiet (fail)
        go_wp2_with fail
        go_roundw
        case rel => exact ⟨d + 1, by omega, by go_num, by rw [HSU.out], by rw [HMI.out], by rw [HFI.out, if_neg (by omega)]; simp, m + nq, by first | rfl | rw [World.drewN_drewN]⟩
        case measure => simp [intOf]; omega
    · have hfd : f + d = kn := by omega
      have htk : Hid ((cs.drop f).take d = cs.drop f) := List.take_of_length_le (by rw [List.length_drop, ← HL.out]; omega)
      rw [htk.out]
      have i2 : decide (((f + d : Nat) : Int) < (kn : Int)) = false := by simp; omega
      clear m1 m2 s1 s3
      go_wp2_with fail
      go_ret2
      exact ⟨rfl, _, rfl⟩
end Go.Proofs.YtogkmnopggmdjaaGreatDoor

/- The track's test of calls: which calls are as defined. -/
namespace Go.Proofs.YtogkmnopggmdjaaGreatDoor
open Go.RowKit Go.Shelf Go.Sort Go.Proofs

def kAtB (n : Int) (cs : List CallR) (i : Nat) : Bool := (cs[i]?).all fun c => inR c.place 0 n && (inR c.lasts 0 maxM && (inR c.lead 0 maxM && (inR c.ahead 0 maxM && (inR c.value 0 100 && (i == 0 || (cs[i-1]?).all fun d => decide (d.place ≤ c.place))))))
theorem kAtB_iff (n : Int) (cs : List CallR) (i : Nat) : kAtB n cs i = true ↔ kAt n cs i := by
  unfold kAtB kAt
  simp only [Option.all_eq_true, Bool.and_eq_true, Bool.or_eq_true, decide_eq_true_eq, beq_iff_eq]
  constructor
  · intro h c hc
    obtain ⟨a1, a2, a3, a4, a5, d⟩ := h c hc
    exact ⟨a1, a2, a3, a4, a5, fun e hi he => (d.resolve_left (by omega)) e he⟩
  · intro h c hc
    obtain ⟨a1, a2, a3, a4, a5, d⟩ := h c hc
    exact ⟨a1, a2, a3, a4, a5, (Nat.eq_zero_or_pos i).imp id fun hi e he => d e hi he⟩
def cB (n : Int) (cs : List CallR) : Bool := (List.range cs.length).all (kAtB n cs) && decide (cs.length ≤ 300)
theorem cB_iff (n : Int) (cs : List CallR) : cB n cs = true ↔ COK n cs := by
  unfold cB
  simp only [Bool.and_eq_true, decide_eq_true_eq, List.all_eq_true, List.mem_range, kAtB_iff]
  exact ⟨fun ⟨a, b⟩ => ⟨b, a⟩, fun ⟨a, b⟩ => ⟨b, a⟩⟩
theorem cB_ok {n : Int} {cs : List CallR} (h : COK n cs) : cB n cs = true := (cB_iff n cs).2 h
theorem cB_bad {n : Int} {cs : List CallR} (h : ¬ COK n cs) : cB n cs = false := by rw [Bool.eq_false_iff]; exact fun q => h ((cB_iff n cs).1 q)
set_option maxRecDepth 100000 in
set_option maxHeartbeats 8000000 in
theorem calls_any (ka : Option Addr) (kn kc : Nat) (cs : List CallR) (g : Nat) (ta : Option Addr) (tc N : Nat) (S : Spd) (R : Road) (w : World) (h : TS w w.heap.size g ta tc N S R)
    (hk : SL caC 5 w w.heap.size ka kn cs) (hN : N ≤ 1000000) (hkn : kn ≤ 100000) :
    Calls Tryz.prog 51 #[.pointer (some ⟨g, 0, none⟩), .slice ka kn kc] w fun e w' => e = .returned (.bool (cB N cs)) ∧ Below w.heap.size w w' := by
  have HT := Lib.hid h
  have HK := Lib.hid hk
  have HL := Lib.hid hk.1
  clear h hk
  go_enter Tryz.func51, Tryz.ntmps51
  go_wp2_with fail
  go_loopw [9] (fun i wr => ∃ k : Nat, k ≤ kn ∧ i = .int .i64 k ∧ Below w.heap.size w wr ∧ Hid (∀ i, i < k → kAt N cs i))
    (fun i _ => kn - (intOf i).toNat)
  case atStart => exact ⟨0, Nat.zero_le _, rfl, Below.refl _ _, by simp [Hid]⟩
  case round =>
    obtain ⟨m, hm, rfl, hbr, hall⟩ := hrel
    have hzr := hbr.size
    by_cases hlt : m < kn
    · have hkl : m < cs.length := by rw [← HL.out]; exact hlt
      have hw := HK.out.grow hbr hzr
      obtain ⟨b, off, hA, hbB, c0, c1, c2, c3, c4⟩ := KS5.at_ hw (k := m) hkl
      have HTB : Hid (∀ {X : World} {n : Nat}, True → True) := fun _ => trivial
      clear HTB
      have hstep : Hid (∀ (hh : inR cs[m].place 0 N = true ∧ inR cs[m].lasts 0 maxM = true ∧ inR cs[m].lead 0 maxM = true ∧ inR cs[m].ahead 0 maxM = true ∧ inR cs[m].value 0 100 = true ∧ ∀ d, 0 < m → cs[m-1]? = some d → d.place ≤ cs[m].place), ∀ i, i < m + 1 → kAt N cs i) := by
        intro hh i hi
        rcases Nat.lt_or_ge i m with h | h
        · exact hall.out i h
        · obtain rfl : i = m := by omega
          intro c hc
          rw [List.getElem?_eq_getElem hkl] at hc
          cases hc
          exact hh
      have hno : Hid (∀ (hh : ¬ (inR cs[m].place 0 N = true ∧ inR cs[m].lasts 0 maxM = true ∧ inR cs[m].lead 0 maxM = true ∧ inR cs[m].ahead 0 maxM = true ∧ inR cs[m].value 0 100 = true ∧ ∀ d, 0 < m → cs[m-1]? = some d → d.place ≤ cs[m].place)), cB N cs = false) := by
        intro hh
        exact cB_bad (fun q => hh (q.k m hkl _ (List.getElem?_eq_getElem hkl)))
      have hprev : 0 < m → ∃ d, Hid (cs[m-1]? = some d) ∧ wr.cell? ⟨b, off + (m-1) * 5, none⟩ = some (.int .i64 d.place) := by
        intro h0
        obtain ⟨b2, off2, hA2, _, c02, _⟩ := KS5.at_ hw (k := m - 1) (by omega)
        rw [hA] at hA2
        cases hA2
        exact ⟨cs[m-1], List.getElem?_eq_getElem (by omega), c02⟩
      generalize cs[m]'hkl = c at c0 c1 c2 c3 c4 hstep hno
      clear hw hkl hall
      have hm1 : (0 : Int) ≤ (m : Int) := by omega
      have hm2 : (m : Int) < (kn : Int) := by omega
      have hTA : Hid (∀ (n : Nat), TS ((wr.alloc (.cells #[.int .i64 c.place, .int .i64 c.lasts, .int .i64 c.lead, .int .i64 c.ahead, .int .i64 c.value] 49)).drewN n) ((wr.alloc (.cells #[.int .i64 c.place, .int .i64 c.lasts, .int .i64 c.lead, .int .i64 c.ahead, .int .i64 c.value] 49)).drewN n).heap.size g ta tc N S R) := fun n => by
        have hx := hbr.trans ((below_drewN ((Below.refl wr.heap.size wr).alloc (Nat.le_refl _) (.cells #[.int .i64 c.place, .int .i64 c.lasts, .int .i64 c.lead, .int .i64 c.ahead, .int .i64 c.value] 49)) n).mono hzr)
        exact HT.out.grow hx hx.size
      subst hA

      cases e1 : inR c.place 0 N
      case false =>
        have hc := Lib.hid (hno.out (by simp [e1]))
        clear hno hstep hprev
        go_wp2_with fail
        go_quiet (first | (go_at_call 56; exact Calls.quiet_of_same ((place_any _ g ta tc N S R _ (hTA.out _) hN).mono fun _ _ ⟨a, b⟩ => ⟨a, b.symm⟩)) | (go_at_call 31; exact Calls.quiet_of_same ((pwithin_any _ _ _ _).mono fun _ _ ⟨a, b⟩ => ⟨a, b.symm⟩)))
        go_wp2_with fail
        go_ret
        exact ⟨ret_bool hc.out.symm, hbr.trans ((below_drewN ((Below.refl _ _).alloc (Nat.le_refl _) _) _).mono hzr)⟩
      by_cases hm0 : 0 < m
      case pos =>
        obtain ⟨d, hd, cd⟩ := hprev hm0
        have hg : decide ((0 : Int) < (m : Int)) = true := by simp; omega
        by_cases hlt2 : c.place < d.place
        case pos =>
          have g3 : decide (c.place < d.place) = true := by simpa using hlt2
          have hc := Lib.hid (hno.out (by rintro ⟨-, -, -, -, -, h⟩; have := h d hm0 hd.out; omega))
          clear hno hstep hprev
          go_wp2_with fail
          go_quiet (first | (go_at_call 56; exact Calls.quiet_of_same ((place_any _ g ta tc N S R _ (hTA.out _) hN).mono fun _ _ ⟨a, b⟩ => ⟨a, b.symm⟩)) | (go_at_call 31; exact Calls.quiet_of_same ((pwithin_any _ _ _ _).mono fun _ _ ⟨a, b⟩ => ⟨a, b.symm⟩)))
          go_wp2_with fail
          go_ret
          exact ⟨ret_bool hc.out.symm, hbr.trans ((below_drewN ((Below.refl _ _).alloc (Nat.le_refl _) _) _).mono hzr)⟩
        have g3 : decide (c.place < d.place) = false := by simpa using hlt2
        cases f0 : inR c.lasts 0 maxM
        case false =>
          rw [show maxM = 1125899906842624 from rfl] at f0
          have hc := Lib.hid (hno.out (by rintro ⟨-, q1, q2, q3, q4, -⟩; rw [show maxM = 1125899906842624 from rfl] at *; simp_all))
          clear hno hstep hprev
          go_wp2_with fail
          go_quiet (first | (go_at_call 56; exact Calls.quiet_of_same ((place_any _ g ta tc N S R _ (hTA.out _) hN).mono fun _ _ ⟨a, b⟩ => ⟨a, b.symm⟩)) | (go_at_call 31; exact Calls.quiet_of_same ((pwithin_any _ _ _ _).mono fun _ _ ⟨a, b⟩ => ⟨a, b.symm⟩)))
          go_wp2_with fail
          go_ret
          exact ⟨ret_bool hc.out.symm, hbr.trans ((below_drewN ((Below.refl _ _).alloc (Nat.le_refl _) _) _).mono hzr)⟩
        rw [show maxM = 1125899906842624 from rfl] at f0
        cases f1 : inR c.lead 0 maxM
        case false =>
          rw [show maxM = 1125899906842624 from rfl] at f1
          have hc := Lib.hid (hno.out (by rintro ⟨-, q1, q2, q3, q4, -⟩; rw [show maxM = 1125899906842624 from rfl] at *; simp_all))
          clear hno hstep hprev
          go_wp2_with fail
          go_quiet (first | (go_at_call 56; exact Calls.quiet_of_same ((place_any _ g ta tc N S R _ (hTA.out _) hN).mono fun _ _ ⟨a, b⟩ => ⟨a, b.symm⟩)) | (go_at_call 31; exact Calls.quiet_of_same ((pwithin_any _ _ _ _).mono fun _ _ ⟨a, b⟩ => ⟨a, b.symm⟩)))
          go_wp2_with fail
          go_ret
          exact ⟨ret_bool hc.out.symm, hbr.trans ((below_drewN ((Below.refl _ _).alloc (Nat.le_refl _) _) _).mono hzr)⟩
        rw [show maxM = 1125899906842624 from rfl] at f1
        cases f2 : inR c.ahead 0 maxM
        case false =>
          rw [show maxM = 1125899906842624 from rfl] at f2
          have hc := Lib.hid (hno.out (by rintro ⟨-, q1, q2, q3, q4, -⟩; rw [show maxM = 1125899906842624 from rfl] at *; simp_all))
          clear hno hstep hprev
          go_wp2_with fail
          go_quiet (first | (go_at_call 56; exact Calls.quiet_of_same ((place_any _ g ta tc N S R _ (hTA.out _) hN).mono fun _ _ ⟨a, b⟩ => ⟨a, b.symm⟩)) | (go_at_call 31; exact Calls.quiet_of_same ((pwithin_any _ _ _ _).mono fun _ _ ⟨a, b⟩ => ⟨a, b.symm⟩)))
          go_wp2_with fail
          go_ret
          exact ⟨ret_bool hc.out.symm, hbr.trans ((below_drewN ((Below.refl _ _).alloc (Nat.le_refl _) _) _).mono hzr)⟩
        rw [show maxM = 1125899906842624 from rfl] at f2
        cases f3 : inR c.value 0 100
        case false =>
          have hc := Lib.hid (hno.out (by rintro ⟨-, q1, q2, q3, q4, -⟩; rw [show maxM = 1125899906842624 from rfl] at *; simp_all))
          clear hno hstep hprev
          go_wp2_with fail
          go_quiet (first | (go_at_call 56; exact Calls.quiet_of_same ((place_any _ g ta tc N S R _ (hTA.out _) hN).mono fun _ _ ⟨a, b⟩ => ⟨a, b.symm⟩)) | (go_at_call 31; exact Calls.quiet_of_same ((pwithin_any _ _ _ _).mono fun _ _ ⟨a, b⟩ => ⟨a, b.symm⟩)))
          go_wp2_with fail
          go_ret
          exact ⟨ret_bool hc.out.symm, hbr.trans ((below_drewN ((Below.refl _ _).alloc (Nat.le_refl _) _) _).mono hzr)⟩
        have hs' := Lib.hid (hstep.out ⟨e1, f0, f1, f2, f3, fun d' _ h' => by rw [hd.out] at h'; cases h'; omega⟩)
        clear hno hstep hprev
        go_wp2_with fail
        go_quiet (first | (go_at_call 56; exact Calls.quiet_of_same ((place_any _ g ta tc N S R _ (hTA.out _) hN).mono fun _ _ ⟨a, b⟩ => ⟨a, b.symm⟩)) | (go_at_call 31; exact Calls.quiet_of_same ((pwithin_any _ _ _ _).mono fun _ _ ⟨a, b⟩ => ⟨a, b.symm⟩)))
        go_wp2_with fail
        go_roundw
        case rel => exact ⟨m + 1, by omega, by go_num, hbr.trans ((below_drewN ((Below.refl _ _).alloc (Nat.le_refl _) _) _).mono hzr), hs'⟩
        case measure => simp [intOf]; omega
      have hg : decide ((0 : Int) < (m : Int)) = false := by simp; omega
      cases f0 : inR c.lasts 0 maxM
      case false =>
        rw [show maxM = 1125899906842624 from rfl] at f0
        have hc := Lib.hid (hno.out (by rintro ⟨-, q1, q2, q3, q4, -⟩; rw [show maxM = 1125899906842624 from rfl] at *; simp_all))
        clear hno hstep hprev
        go_wp2_with fail
        go_quiet (first | (go_at_call 56; exact Calls.quiet_of_same ((place_any _ g ta tc N S R _ (hTA.out _) hN).mono fun _ _ ⟨a, b⟩ => ⟨a, b.symm⟩)) | (go_at_call 31; exact Calls.quiet_of_same ((pwithin_any _ _ _ _).mono fun _ _ ⟨a, b⟩ => ⟨a, b.symm⟩)))
        go_wp2_with fail
        go_ret
        exact ⟨ret_bool hc.out.symm, hbr.trans ((below_drewN ((Below.refl _ _).alloc (Nat.le_refl _) _) _).mono hzr)⟩
      rw [show maxM = 1125899906842624 from rfl] at f0
      cases f1 : inR c.lead 0 maxM
      case false =>
        rw [show maxM = 1125899906842624 from rfl] at f1
        have hc := Lib.hid (hno.out (by rintro ⟨-, q1, q2, q3, q4, -⟩; rw [show maxM = 1125899906842624 from rfl] at *; simp_all))
        clear hno hstep hprev
        go_wp2_with fail
        go_quiet (first | (go_at_call 56; exact Calls.quiet_of_same ((place_any _ g ta tc N S R _ (hTA.out _) hN).mono fun _ _ ⟨a, b⟩ => ⟨a, b.symm⟩)) | (go_at_call 31; exact Calls.quiet_of_same ((pwithin_any _ _ _ _).mono fun _ _ ⟨a, b⟩ => ⟨a, b.symm⟩)))
        go_wp2_with fail
        go_ret
        exact ⟨ret_bool hc.out.symm, hbr.trans ((below_drewN ((Below.refl _ _).alloc (Nat.le_refl _) _) _).mono hzr)⟩
      rw [show maxM = 1125899906842624 from rfl] at f1
      cases f2 : inR c.ahead 0 maxM
      case false =>
        rw [show maxM = 1125899906842624 from rfl] at f2
        have hc := Lib.hid (hno.out (by rintro ⟨-, q1, q2, q3, q4, -⟩; rw [show maxM = 1125899906842624 from rfl] at *; simp_all))
        clear hno hstep hprev
        go_wp2_with fail
        go_quiet (first | (go_at_call 56; exact Calls.quiet_of_same ((place_any _ g ta tc N S R _ (hTA.out _) hN).mono fun _ _ ⟨a, b⟩ => ⟨a, b.symm⟩)) | (go_at_call 31; exact Calls.quiet_of_same ((pwithin_any _ _ _ _).mono fun _ _ ⟨a, b⟩ => ⟨a, b.symm⟩)))
        go_wp2_with fail
        go_ret
        exact ⟨ret_bool hc.out.symm, hbr.trans ((below_drewN ((Below.refl _ _).alloc (Nat.le_refl _) _) _).mono hzr)⟩
      rw [show maxM = 1125899906842624 from rfl] at f2
      cases f3 : inR c.value 0 100
      case false =>
        have hc := Lib.hid (hno.out (by rintro ⟨-, q1, q2, q3, q4, -⟩; rw [show maxM = 1125899906842624 from rfl] at *; simp_all))
        clear hno hstep hprev
        go_wp2_with fail
        go_quiet (first | (go_at_call 56; exact Calls.quiet_of_same ((place_any _ g ta tc N S R _ (hTA.out _) hN).mono fun _ _ ⟨a, b⟩ => ⟨a, b.symm⟩)) | (go_at_call 31; exact Calls.quiet_of_same ((pwithin_any _ _ _ _).mono fun _ _ ⟨a, b⟩ => ⟨a, b.symm⟩)))
        go_wp2_with fail
        go_ret
        exact ⟨ret_bool hc.out.symm, hbr.trans ((below_drewN ((Below.refl _ _).alloc (Nat.le_refl _) _) _).mono hzr)⟩
      have hs' := Lib.hid (hstep.out ⟨e1, f0, f1, f2, f3, fun d' h' => absurd h' hm0⟩)
      clear hno hstep hprev
      go_wp2_with fail
      go_quiet (first | (go_at_call 56; exact Calls.quiet_of_same ((place_any _ g ta tc N S R _ (hTA.out _) hN).mono fun _ _ ⟨a, b⟩ => ⟨a, b.symm⟩)) | (go_at_call 31; exact Calls.quiet_of_same ((pwithin_any _ _ _ _).mono fun _ _ ⟨a, b⟩ => ⟨a, b.symm⟩)))
      go_wp2_with fail
      go_roundw
      case rel => exact ⟨m + 1, by omega, by go_num, hbr.trans ((below_drewN ((Below.refl _ _).alloc (Nat.le_refl _) _) _).mono hzr), hs'⟩
      case measure => simp [intOf]; omega
    · obtain rfl : m = kn := by omega
      have hend : Hid (cB N cs = decide ((m : Int) ≤ 300)) := by
        show _ = _
        by_cases h3 : (m : Int) ≤ 300
        · rw [cB_ok ⟨by rw [← HL.out]; omega, fun i hi => hall.out i (by rw [HL.out]; exact hi)⟩]; simp; omega
        · rw [cB_bad (fun q => h3 (by have := q.l1; rw [← HL.out] at this; omega))]; simp; omega
      go_wp2_with fail
      go_ret
      exact ⟨ret_bool hend.out.symm, hbr⟩
end Go.Proofs.YtogkmnopggmdjaaGreatDoor
