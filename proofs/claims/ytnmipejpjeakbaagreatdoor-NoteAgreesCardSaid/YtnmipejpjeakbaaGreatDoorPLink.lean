/- The note between two things. Printed by genlink.py. -/
import Derived.Test.YtnmipejpjeakbaaGreatDoorPCorned
namespace Go.Proofs.YtnmipejpjeakbaaGreatDoor
open Go.RowKit Go.Shelf Go.Sort Go.Proofs

theorem nround_any (a b : Int) (w : World) (h0 : 0 ≤ a) (h1 : a ≤ 1000000000) (h2 : 1 ≤ b) (h3 : b ≤ 1000000000) :
    Calls Tryz.prog 97 #[.int .i64 a, .int .i64 b] w fun e w' => e = .returned (.int .i64 ((2*a+b)/(2*b))) ∧ w' = w := by
  go_enter Tryz.func97, Tryz.ntmps97
  go_wp2
  go_ret
  exact ⟨rfl, rfl⟩
/-- The meters that a distance is said with. -/
def metI (b : BkR) (d : Int) : Int := min 9999 (max b.st ((2 * d + b.st) / (2 * b.st) * b.st))
/-- The note between two things. -/
def linkN (b : BkR) (d : Int) (first : Bool) : Option NoteR :=
  if b.io < d then some ⟨2, 0, 0, 0, 0, 0, metI b d, 0, 0, 0⟩
  else if first then none
  else if d ≤ b.an then some ⟨4, 0, 0, 0, 0, 0, 0, 0, 0, 0⟩
  else some ⟨3, 0, 0, 0, 0, 0, 0, 0, 0, 0⟩
theorem bk2 (w : World) (t t2 : TypeId) (cs cs2 : Array Value) : BK ((w.alloc (.cells cs2 t2)).alloc (.cells cs t)) (w.heap.size + 1) t cs := by
  have := BK.new (w.alloc (.cells cs2 t2)) t cs
  rwa [World.size_alloc] at this
def noteOr (o : Option NoteR) : Value := match o with | some n => nA n | none => nA ⟨0, 0, 0, 0, 0, 0, 0, 0, 0, 0⟩
theorem res_note_b {fn : Func} {t u : Nat} (hr : fn.results = #[.cell t 36, .tmp u]) (tm : Array Value) (w : World) (b : Nat) (v : Value) (cs : Array Value) (hsz : cs.size = 10) (ht : tm[t]? = some (.pointer (some ⟨b, 0, none⟩))) (hu : tm[u]? = some v) (hb : BK w b 36 cs) :
    (results fn tm).run Tryz.prog w = .ok (.tuple #[.agg cs, v]) w := by
  obtain ⟨l⟩ := cs
  match l, hsz with
  | [c0, c1, c2, c3, c4, c5, c6, c7, c8, c9], _ =>
  have x0 := hb.cell 0
  have x1 := hb.cell 1
  have x2 := hb.cell 2
  have x3 := hb.cell 3
  have x4 := hb.cell 4
  have x5 := hb.cell 5
  have x6 := hb.cell 6
  have x7 := hb.cell 7
  have x8 := hb.cell 8
  have x9 := hb.cell 9
  simp only [List.getElem?_toArray, List.getElem?_cons_zero, List.getElem?_cons_succ] at x0 x1 x2 x3 x4 x5 x6 x7 x8 x9
  simp [results, hr, ht, hu, go_sem, Tryz.isAgg36, Tryz.sizeOf36, x0, x1, x2, x3, x4, x5, x6, x7, x8, x9]
set_option maxRecDepth 100000 in
set_option maxHeartbeats 4000000 in
theorem nlink_ok (b : BkR) (hv : BkOK b) (A : Option Addr) (c : Nat) (d : Int) (first : Bool) (h0 : 0 ≤ d) (h1 : d ≤ 10000000) (w : World) :
    Calls Tryz.prog 68 #[bkA A c b, .int .i64 d, .bool first] w fun e w' => e = .returned (.tuple #[noteOr (linkN b d first), .bool (linkN b d first).isSome]) ∧ Below w.heap.size w w' := by
  have hmo : Tryz.prog.follows .mixedOrders = true := by kernel_rfl
  obtain ⟨w0, hw0⟩ : ∃ w0, w0 = (w.alloc (.cells #[.slice A b.gs.length c, .int .i64 b.sh, .int .i64 b.lo, .int .i64 b.ra, .int .i64 b.an, .int .i64 b.io, .int .i64 b.st, .int .i64 b.ga, .int .i64 b.le] 50)).alloc (.cells #[.int .i64 0, .int .i64 0, .int .i64 0, .int .i64 0, .int .i64 0, .int .i64 0, .int .i64 0, .int .i64 0, .int .i64 0, .int .i64 0] 36) := ⟨_, rfl⟩
  have hX0 : BK w0 w.heap.size 50 #[.slice A b.gs.length c, .int .i64 b.sh, .int .i64 b.lo, .int .i64 b.ra, .int .i64 b.an, .int .i64 b.io, .int .i64 b.st, .int .i64 b.ga, .int .i64 b.le] := by rw [hw0]; exact (BK.new w _ _).alloc _
  have hR0 : BK w0 (w.heap.size + 1) 36 #[.int .i64 0, .int .i64 0, .int .i64 0, .int .i64 0, .int .i64 0, .int .i64 0, .int .i64 0, .int .i64 0, .int .i64 0, .int .i64 0] := by
    rw [hw0]
    have := BK.new (w.alloc (.cells #[.slice A b.gs.length c, .int .i64 b.sh, .int .i64 b.lo, .int .i64 b.ra, .int .i64 b.an, .int .i64 b.io, .int .i64 b.st, .int .i64 b.ga, .int .i64 b.le] 50)) 36 #[.int .i64 0, .int .i64 0, .int .i64 0, .int .i64 0, .int .i64 0, .int .i64 0, .int .i64 0, .int .i64 0, .int .i64 0, .int .i64 0]
    rw [World.size_alloc] at this
    exact this
  have hB0 : Below w.heap.size w w0 := by rw [hw0]; exact ((Below.refl _ w).alloc (Nat.le_refl _) _).alloc (by simp) _
  have hs1 := hv.st1
  have hs2 := hv.st2
  obtain ⟨Q, hQ⟩ : ∃ Q, Q = (2 * d + b.st) / (2 * b.st) := ⟨_, rfl⟩
  have hQ0 : 0 ≤ Q := by rw [hQ]; exact Int.ediv_nonneg (by omega) (by omega)
  obtain ⟨M, hM⟩ : ∃ M, M = Q * b.st := ⟨_, rfl⟩
  have hM0 : 0 ≤ M := by rw [hM]; exact Int.mul_nonneg hQ0 (by omega)
  have hM1 : M ≤ 20000000 := by
    have h2 : Q * (2 * b.st) ≤ 2 * d + b.st := by rw [hQ]; exact Int.ediv_mul_le _ (by omega)
    have h3 : Q * (2 * b.st) = 2 * M := by rw [hM, Int.mul_left_comm]
    omega
  have hw1 : IntKind.i64.wrap (Q * b.st) = M := by rw [← hM]; exact IntWalk.i64_in _ (by omega)
  obtain ⟨X, hX⟩ : ∃ X, X = max b.st M := ⟨_, rfl⟩
  have hi1 : (if b.st < M then M else b.st) = X := by rw [hX, Int.max_def]; split <;> split <;> omega
  obtain ⟨Y, hY⟩ : ∃ Y, Y = min 9999 X := ⟨_, rfl⟩
  have hi2 : (if X < 9999 then X else 9999) = Y := by rw [hY, Int.min_def]; split <;> split <;> omega
  have HQ := Lib.hid hQ
  have HY : Hid (metI b d = Y) := by show _ = _; unfold metI; rw [hY, hX, hM, hQ]
  have HV := Lib.hid hv
  have hX := hX
  clear hQ hM hM0 hM1 hv
  obtain ⟨x0', x1', x2', x3', x4', x5', x6', x7', x8'⟩ := bk9 hX0
  have x6 := fun d os => cell_regrown x6' d os
  have r0 := hR0.cell 0
  have r1 := hR0.cell 1
  have r2 := hR0.cell 2
  have r3 := hR0.cell 3
  have r4 := hR0.cell 4
  have r5 := hR0.cell 5
  have r6 := hR0.cell 6
  have r7 := hR0.cell 7
  have r8 := hR0.cell 8
  have r9 := hR0.cell 9
  simp only [List.getElem?_toArray, List.getElem?_cons_zero, List.getElem?_cons_succ] at r0 r1 r2 r3 r4 r5 r6 r7 r8 r9
  have rf := hR0.frozen
  have rl := hR0.lt
  have HR := Lib.hid hR0
  unfold bkA
  by_cases c1 : b.io < d
  · have HL : Hid (linkN b d first = some ⟨2, 0, 0, 0, 0, 0, Y, 0, 0, 0⟩) := by show _ = _; unfold linkN; rw [if_pos c1, HY.out]
    go_enter Tryz.func68, Tryz.ntmps68
    go_wp2_with fail
    rw [← hw0]
    clear hw0 hX0 hR0
    go_quiet (first | (go_at_call 97; exact (nround_any _ _ _ h0 (by omega) hs1 (by omega)).mono fun _ _ ⟨a, e⟩ => ⟨by rw [a, ← HQ.out], _, e⟩))
    obtain ⟨w1, hw1'⟩ : ∃ w1, w1 = w0.drewN nq := ⟨_, rfl⟩
    have hR1 : BK w1 (w.heap.size + 1) 36 #[.int .i64 0, .int .i64 0, .int .i64 0, .int .i64 0, .int .i64 0, .int .i64 0, .int .i64 0, .int .i64 0, .int .i64 0, .int .i64 0] := by rw [hw1']; exact HR.out
    have hB1 : Below w.heap.size w w1 := by rw [hw1']; exact hB0.trans ⟨rfl, rfl, rfl, Nat.le_refl _, fun _ _ => rfl⟩
    rw [← hw1']
    clear hw1' x0' x1' x2' x3' x4' x5' x6' x7' x8' x6 r0 r1 r2 r3 r4 r5 r6 r7 r8 r9 rf rl hB0
    have r0 := hR1.cell 0
    have r1 := hR1.cell 1
    have r2 := hR1.cell 2
    have r3 := hR1.cell 3
    have r4 := hR1.cell 4
    have r5 := hR1.cell 5
    have r6 := hR1.cell 6
    have r7 := hR1.cell 7
    have r8 := hR1.cell 8
    have r9 := hR1.cell 9
    simp only [List.getElem?_toArray, List.getElem?_cons_zero, List.getElem?_cons_succ] at r0 r1 r2 r3 r4 r5 r6 r7 r8 r9
    have rf := hR1.frozen
    have rl := hR1.lt
    have HR1 := Lib.hid hR1

    clear hR1
    go_wp2_with fail

    exact bodyPost_ret (res_note_b (t := 6) (u := 7) rfl _ _ _ _ _ rfl rfl rfl (HR1.out.set10 rfl)) rfl ⟨by rw [HL.out, hY, hX]; rfl, below10 hB1 (by omega)⟩
  · clear x0' x1' x2' x3' x4' x5' x6' x7' x8' x6 r0 r1 r2 r3 r4 r5 r6 r7 r8 r9 rf rl HR hR0 hX0 hB0 hw0 w0
    cases first
    · by_cases c2 : d ≤ b.an
      · have HL : Hid (linkN b d false = some ⟨4, 0, 0, 0, 0, 0, 0, 0, 0, 0⟩) := by show _ = _; unfold linkN; rw [if_neg c1, if_neg (by simp), if_pos c2]
        go_enter Tryz.func68, Tryz.ntmps68
        go_wp2_with fail
        exact bodyPost_ret (res_note_b (t := 6) (u := 7) rfl _ _ _ _ _ rfl rfl rfl (bk2 _ _ _ _ _)) rfl ⟨by rw [HL.out]; rfl, ((Below.refl _ w).alloc (Nat.le_refl _) _).alloc (by simp) _⟩
      · have HL : Hid (linkN b d false = some ⟨3, 0, 0, 0, 0, 0, 0, 0, 0, 0⟩) := by show _ = _; unfold linkN; rw [if_neg c1, if_neg (by simp), if_neg c2]
        go_enter Tryz.func68, Tryz.ntmps68
        go_wp2_with fail
        exact bodyPost_ret (res_note_b (t := 6) (u := 7) rfl _ _ _ _ _ rfl rfl rfl (bk2 _ _ _ _ _)) rfl ⟨by rw [HL.out]; rfl, ((Below.refl _ w).alloc (Nat.le_refl _) _).alloc (by simp) _⟩
    · have HL : Hid (linkN b d true = none) := by show _ = _; unfold linkN; rw [if_neg c1, if_pos rfl]
      go_enter Tryz.func68, Tryz.ntmps68
      go_wp2_with fail
      exact bodyPost_ret (res_note_b (t := 6) (u := 7) rfl _ _ _ _ _ rfl rfl rfl (bk2 _ _ _ _ _)) rfl ⟨by rw [HL.out]; rfl, ((Below.refl _ w).alloc (Nat.le_refl _) _).alloc (by simp) _⟩
end Go.Proofs.YtnmipejpjeakbaaGreatDoor

/- The radii that a grade means. -/
namespace Go.Proofs.YtnmipejpjeakbaaGreatDoor
open Go.RowKit Go.Shelf Go.Sort Go.Proofs

def radLo (b : BkR) (g : Int) : Int := if 1 < g then b.gs.getD (g - 2).toNat 0 else 5
def radHi (b : BkR) (g : Int) : Int := if g ≤ (b.gs.length : Nat) then b.gs.getD (g - 1).toNat 0 - 1 else 2000
def radIn (b : BkR) (g : Int) : Bool := decide (1 ≤ g) && decide (g ≤ (b.gs.length : Nat) + 1)
/-- The radii of a grade; none. -/
def radI (b : BkR) (g : Int) : Int × Int × Bool := if radIn b g then (radLo b g, radHi b g, true) else (0, 0, false)
set_option maxRecDepth 100000 in
set_option maxHeartbeats 4000000 in
theorem nradii_any (b : BkR) (hv : BkOK b) (A : Option Addr) (c : Nat) (g : Int) (w : World) (h : SL iC 1 w w.heap.size A b.gs.length b.gs) :
    Calls Tryz.prog 92 #[bkA A c b, .int .i64 g] w fun e w' => e = .returned (.tuple #[.int .i64 (radI b g).1, .int .i64 (radI b g).2.1, .bool (radI b g).2.2]) ∧ Below w.heap.size w w' := by
  obtain ⟨n, hn⟩ : ∃ n, n = b.gs.length := ⟨_, rfl⟩
  obtain ⟨w0, hw0⟩ : ∃ w0, w0 = w.alloc (.cells #[.slice A n c, .int .i64 b.sh, .int .i64 b.lo, .int .i64 b.ra, .int .i64 b.an, .int .i64 b.io, .int .i64 b.st, .int .i64 b.ga, .int .i64 b.le] 50) := ⟨_, rfl⟩
  have hX : BK w0 w.heap.size 50 #[.slice A n c, .int .i64 b.sh, .int .i64 b.lo, .int .i64 b.ra, .int .i64 b.an, .int .i64 b.io, .int .i64 b.st, .int .i64 b.ga, .int .i64 b.le] := by rw [hw0]; exact BK.new w _ _
  have hB0 : Below w.heap.size w w0 := by rw [hw0]; exact (Below.refl _ w).alloc (Nat.le_refl _) _
  have hS : SL iC 1 w0 w.heap.size A n b.gs := by rw [hn]; exact h.below hB0
  have HB0 := Lib.hid hB0
  have HN := Lib.hid hn
  have HS := Lib.hid hS
  have HV := Lib.hid hv
  have hn8 : n ≤ 8 := by rw [hn]; exact hv.n8
  obtain ⟨c0, c1, c2, c3, c4, c5, c6, c7, c8⟩ := bk9 hX
  unfold bkA
  rw [← hn]
  clear h hX hB0 hS hv
  by_cases hg : 1 ≤ g ∧ g ≤ (n : Int) + 1
  case neg =>
    have HR : Hid (radI b g = (0, 0, false)) := by
      show _ = _
      unfold radI radIn
      rw [← hn, if_neg]
      simp only [Bool.and_eq_true, decide_eq_true_eq]
      exact hg
    have gi : inR g 1 ((n : Int) + 1) = false := by rw [← Bool.not_eq_true]; simp only [inR, Bool.and_eq_true, decide_eq_true_eq]; exact hg
    clear hg hn
    go_enter Tryz.func92, Tryz.ntmps92
    go_wp2_with fail
    rw [← hw0]
    clear hw0
    go_wp2_with (go_at_call 50; refine (nwithin_r _ _ _ _).mono ?_; rintro e w' ⟨rfl, rfl⟩)
    go_ret3
    exact ⟨by rw [HR.out]; rfl, HB0.out⟩
  have HR : Hid (radI b g = (radLo b g, radHi b g, true)) := by
    show _ = _
    unfold radI radIn
    rw [← hn, if_pos]
    simp only [Bool.and_eq_true, decide_eq_true_eq]
    exact hg
  have gi : inR g 1 ((n : Int) + 1) = true := by simp only [inR, Bool.and_eq_true, decide_eq_true_eq]; exact hg
  obtain ⟨hg1, hg2⟩ := hg
  have HG1 := Lib.hid hg1
  have HG2 := Lib.hid hg2
  by_cases hlo : 1 < g
  · obtain ⟨k, rfl⟩ : ∃ k : Nat, g = (k : Int) + 2 := ⟨(g - 2).toNat, by omega⟩
    have hkl : k < b.gs.length := by omega
    obtain ⟨ab, off, hA, -, ck⟩ := IS.at_ HS.out hkl
    have HLO : Hid (radLo b ((k : Int) + 2) = b.gs[k]) := by
      show _ = _
      unfold radLo
      rw [if_pos hlo, show ((k : Int) + 2 - 2).toNat = k by omega, List.getD_eq_getElem?_getD, List.getElem?_eq_getElem hkl]
      rfl
    have w2 : IntKind.i64.wrap ((k : Int) + 2 - 2) = (k : Int) := by rw [show (k : Int) + 2 - 2 = (k : Int) by omega]; exact IntWalk.i64_in _ (by omega)
    have hk0 : (0 : Int) ≤ (k : Int) := by omega
    have hkn : (k : Int) < (n : Int) := by omega
    have gl : decide ((1 : Int) < (k : Int) + 2) = true := by simp; omega
    by_cases hhi : (k : Int) + 2 ≤ (n : Int)
    · have hkl2 : k + 1 < b.gs.length := by omega
      obtain ⟨ab', off', hA', -, cq⟩ := IS.at_ HS.out hkl2
      rw [hA] at hA'
      injection hA' with hA'
      injection hA' with h1 h2
      subst h1 h2 hA
      have HHI : Hid (radHi b ((k : Int) + 2) = b.gs[k + 1] - 1) := by
        show _ = _
        unfold radHi
        rw [← hn, if_pos hhi, show ((k : Int) + 2 - 1).toNat = k + 1 by omega, List.getD_eq_getElem?_getD, List.getElem?_eq_getElem hkl2]
        rfl
      have hr := HV.out.rng _ (List.getElem_mem hkl2)
      have w1 : IntKind.i64.wrap ((k : Int) + 2 - 1) = ((k + 1 : Nat) : Int) := by rw [show (k : Int) + 2 - 1 = ((k + 1 : Nat) : Int) by omega]; exact IntWalk.i64_in _ (by omega)
      have w3 : IntKind.i64.wrap (b.gs[k + 1] - 1) = b.gs[k + 1] - 1 := IntWalk.i64_in _ (by omega)
      have hk3 : ((k + 1 : Nat) : Int) < (n : Int) := by omega
      have gh : decide ((k : Int) + 2 ≤ (n : Int)) = true := by simp; omega
      clear hn hg1 hg2 hlo hhi
      go_enter Tryz.func92, Tryz.ntmps92
      go_wp2_with fail
      rw [← hw0]
      clear hw0
      go_wp2_with (go_at_call 50; refine (nwithin_r _ _ _ _).mono ?_; rintro e w' ⟨rfl, rfl⟩)
      go_ret3
      exact ⟨by rw [HR.out, HLO.out, HHI.out]; rfl, HB0.out⟩
    · subst hA
      have HHI : Hid (radHi b ((k : Int) + 2) = 2000) := by
        show _ = _
        unfold radHi
        rw [← hn, if_neg hhi]
      have gh : decide ((k : Int) + 2 ≤ (n : Int)) = false := by simp; omega
      clear hn hg1 hg2 hlo hhi
      go_enter Tryz.func92, Tryz.ntmps92
      go_wp2_with fail
      rw [← hw0]
      clear hw0
      go_wp2_with (go_at_call 50; refine (nwithin_r _ _ _ _).mono ?_; rintro e w' ⟨rfl, rfl⟩)
      go_ret3
      exact ⟨by rw [HR.out, HLO.out, HHI.out]; rfl, HB0.out⟩
  · obtain rfl : g = 1 := by omega
    have HLO : Hid (radLo b 1 = 5) := by show _ = _; unfold radLo; rw [if_neg (by omega)]
    by_cases hhi : (1 : Int) ≤ (n : Int)
    · have hkl2 : 0 < b.gs.length := by omega
      obtain ⟨ab', off', hA', -, cq⟩ := IS.at_ HS.out hkl2
      subst hA'
      simp only [Nat.add_zero] at cq
      have HHI : Hid (radHi b 1 = b.gs[0] - 1) := by
        show _ = _
        unfold radHi
        rw [← hn, if_pos hhi, show ((1 : Int) - 1).toNat = 0 by omega, List.getD_eq_getElem?_getD, List.getElem?_eq_getElem hkl2]
        rfl
      have hr := HV.out.rng _ (List.getElem_mem hkl2)
      have w3 : IntKind.i64.wrap (b.gs[0] - 1) = b.gs[0] - 1 := IntWalk.i64_in _ (by omega)
      have hk3 : (0 : Int) < (n : Int) := by omega
      have gh : decide ((1 : Int) ≤ (n : Int)) = true := by simp; omega
      clear hn hg1 hg2 hlo hhi
      go_enter Tryz.func92, Tryz.ntmps92
      go_wp2_with fail
      rw [← hw0]
      clear hw0
      go_wp2_with (go_at_call 50; refine (nwithin_r _ _ _ _).mono ?_; rintro e w' ⟨rfl, rfl⟩)
      go_ret3
      exact ⟨by rw [HR.out, HLO.out, HHI.out]; rfl, HB0.out⟩
    · have HHI : Hid (radHi b 1 = 2000) := by
        show _ = _
        unfold radHi
        rw [← hn, if_neg hhi]
      have gh : decide ((1 : Int) ≤ (n : Int)) = false := by simp; omega
      clear hn hg1 hg2 hlo hhi
      go_enter Tryz.func92, Tryz.ntmps92
      go_wp2_with fail
      rw [← hw0]
      clear hw0
      go_wp2_with (go_at_call 50; refine (nwithin_r _ _ _ _).mono ?_; rintro e w' ⟨rfl, rfl⟩)
      go_ret3
      exact ⟨by rw [HR.out, HLO.out, HHI.out]; rfl, HB0.out⟩
end Go.Proofs.YtnmipejpjeakbaaGreatDoor
