/- Calls and plans: the latest plan, or the clash, as a function of the sums of times. No program in sight. -/
import Derived.Test.YtogkmnopggmdjaaGreatDoorPSpd
import Derived.Test.YtogkmnopggmdjaaGreatDoorPPRow
namespace Go.Proofs.YtogkmnopggmdjaaGreatDoor
open Go.RowKit Go.Shelf Go.Sort Go.Proofs

structure CallR where
  place : Int
  lasts : Int
  lead : Int
  ahead : Int
  value : Int
def caC (c : CallR) : List Value := [.int .i64 c.place, .int .i64 c.lasts, .int .i64 c.lead, .int .i64 c.ahead, .int .i64 c.value]
theorem caC_len (c : CallR) : (caC c).length = 5 := rfl
def maxM : Int := 1125899906842624
/-- The call at i is as defined on a road of n meters. -/
def kAt (n : Int) (cs : List CallR) (i : Nat) : Prop := ∀ c, cs[i]? = some c → inR c.place 0 n = true ∧ inR c.lasts 0 maxM = true ∧ inR c.lead 0 maxM = true ∧ inR c.ahead 0 maxM = true ∧ inR c.value 0 100 = true ∧ ∀ d, 0 < i → cs[i-1]? = some d → d.place ≤ c.place
/-- Calls that are as defined. -/
structure COK (n : Int) (cs : List CallR) : Prop where
  l1 : cs.length ≤ 300
  k : ∀ i, i < cs.length → kAt n cs i
/-- By when a run must be at the trigger, call by call, behind s of reading. -/
def rvs (Q : Int → Int) : Int → List CallR → List Int
  | _, [] => []
  | s, c :: cs => (Q c.place - (s + c.lasts) - c.lead) :: rvs Q (s + c.lasts) cs
theorem rvs_len (Q : Int → Int) : ∀ (s : Int) (cs : List CallR), (rvs Q s cs).length = cs.length
  | _, [] => rfl
  | s, c :: cs => by rw [rvs, List.length_cons, List.length_cons, rvs_len Q _ cs]
def minL (l : List Int) : Int := l.foldl min maxM
theorem minL_le_aux : ∀ (l : List Int) (m x : Int), x ≤ l.foldl min m ↔ x ≤ m ∧ ∀ y ∈ l, x ≤ y
  | [], m, x => by simp
  | y :: l, m, x => by
    rw [List.foldl_cons, minL_le_aux l (min m y) x]
    simp only [List.mem_cons, forall_eq_or_imp]
    rw [Int.le_min]
    exact ⟨fun ⟨⟨a, b⟩, c⟩ => ⟨a, b, c⟩, fun ⟨a, b, c⟩ => ⟨⟨a, b⟩, c⟩⟩
theorem le_minL (l : List Int) (x : Int) : x ≤ minL l ↔ x ≤ maxM ∧ ∀ y ∈ l, x ≤ y := minL_le_aux l maxM x
/-- The first call that would end too late for the start. -/
def lateM (Q : Int → Int) (cs : List CallR) : Option Nat := (rvs Q 0 cs).findIdx? fun r => decide (r < 0)
def roomM (Q : Int → Int) (cs : List CallR) : Int := minL (rvs Q 0 cs)
/-- The greatest number up to n for which f holds; 0, if for none. -/
def lastN (f : Nat → Bool) : Nat → Nat
  | 0 => 0
  | n + 1 => if f (n + 1) = true then n + 1 else lastN f n
theorem lastN_le (f : Nat → Bool) : ∀ n, lastN f n ≤ n
  | 0 => Nat.le_refl _
  | n + 1 => by
    unfold lastN
    split
    · exact Nat.le_refl _
    · exact Nat.le_succ_of_le (lastN_le f n)
theorem lastN_holds (f : Nat → Bool) (h0 : f 0 = true) : ∀ n, f (lastN f n) = true
  | 0 => h0
  | n + 1 => by
    unfold lastN
    split
    · assumption
    · exact lastN_holds f h0 n
theorem lastN_above (f : Nat → Bool) : ∀ n k, lastN f n < k → k ≤ n → f k = false
  | 0, k, h, h' => by simp [lastN] at h; omega
  | n + 1, k, h, h' => by
    unfold lastN at h
    split at h
    · omega
    · rename_i hf
      by_cases e : k = n + 1
      · subst e; exact Bool.eq_false_iff.2 hf
      · exact lastN_above f n k h (by omega)
/-- What the bisection ends with. -/
theorem lastN_eq {f : Nat → Bool} {n k : Nat} (hk : k ≤ n) (h1 : f k = true) (h2 : ∀ j, k < j → j ≤ n → f j = false) : lastN f n = k := by
  rcases Nat.lt_trichotomy (lastN f n) k with h | h | h
  · have := lastN_above f n k h hk; rw [h1] at this; cases this
  · exact h
  · have h3 := h2 _ h (lastN_le f n)
    have h0 : ∀ m, k ≤ m → f (lastN f m) = true := by
      intro m
      induction m with
      | zero =>
        intro hm
        have e : k = 0 := by omega
        rw [e] at h1
        exact h1
      | succ m ih =>
        intro hm
        unfold lastN
        split
        · assumption
        · by_cases e : k = m + 1
          · subst e; rename_i hf; exact absurd h1 hf
          · exact ih (by omega)
    rw [h0 n hk] at h3
    cases h3
structure Clash where
  first : Int
  last : Int
  early : Bool
/-- The trigger of the first of some calls. -/
def trigM (Q : Int → Int) (c : CallR) (cs : List CallR) : Nat := lastN (fun p => decide (Q p ≤ roomM Q (c :: cs))) c.place.toNat
/-- Call by call from number j on: the clash of calls that are too late, or the triggers and the first call that would begin too early. -/
def planA (Q Mo : Int → Int) : Nat → List CallR → Sum (Nat × Nat) (List Int × Option Nat)
  | _, [] => .inr ([], none)
  | j, c :: cs =>
    match lateM Q (c :: cs) with
    | some i => .inl (j, j + i)
    | none =>
      match planA Q Mo (j + 1) cs with
      | .inl x => .inl x
      | .inr (l, e) => .inr ((trigM Q c cs : Int) :: l, if Mo (trigM Q c cs) + c.ahead < Mo c.place then some j else e)
/-- The latest plan, or the clash, and the error. -/
def planR (Q Mo : Int → Int) (cs : List CallR) : List Int × Clash × Int :=
  match planA Q Mo 0 cs with
  | .inl (a, b) => ([], ⟨a, b, false⟩, 5)
  | .inr (l, none) => (l, ⟨0, 0, false⟩, 0)
  | .inr (_, some j) => ([], ⟨j, j, true⟩, 5)
end Go.Proofs.YtogkmnopggmdjaaGreatDoor

/- pace.Check: which speeds are as defined. -/
namespace Go.Proofs.YtogkmnopggmdjaaGreatDoor
open Go.RowKit Go.Shelf Go.Sort Go.Proofs

theorem pwithin_any (x lo hi : Int) (w : World) :
    Calls Tryz.prog 31 #[.int .i64 x, .int .i64 lo, .int .i64 hi] w fun e w' => e = .returned (.bool (inR x lo hi)) ∧ w = w' := by
  by_cases h : lo ≤ x
  · have e : inR x lo hi = decide (x ≤ hi) := by simp [inR, h]
    rw [e]; clear e
    go_enter Tryz.func31, Tryz.ntmps31
    go_wp2
    go_ret
    exact ⟨rfl, rfl⟩
  · have e : inR x lo hi = false := by simp [inR, h]
    rw [e]; clear e
    go_enter Tryz.func31, Tryz.ntmps31
    go_wp2
    go_ret
    exact ⟨rfl, rfl⟩
theorem pbounds_any (l h : Int) (w : World) :
    Calls Tryz.prog 85 #[.int .i64 l, .int .i64 h] w fun e w' => e = .returned (.bool (bdB l h)) ∧ w = w' := by
  by_cases h1 : 1 ≤ l
  · by_cases h2 : l ≤ h
    · have e : bdB l h = decide (h ≤ 700) := by simp [bdB, h1, h2]
      rw [e]; clear e
      go_enter Tryz.func85, Tryz.ntmps85
      go_wp2
      go_ret
      exact ⟨rfl, rfl⟩
    · have e : bdB l h = false := by simp [bdB, h2]
      rw [e]; clear e
      go_enter Tryz.func85, Tryz.ntmps85
      go_wp2
      go_ret
      exact ⟨rfl, rfl⟩
  · have e : bdB l h = false := by simp [bdB, h1]
    rw [e]; clear e
    go_enter Tryz.func85, Tryz.ntmps85
    go_wp2
    go_ret
    exact ⟨rfl, rfl⟩
theorem pck_any (x : Int) (w : World) :
    Calls Tryz.prog 87 #[.int .i64 x] w fun e w' => e = .returned (.bool (!inR x 1 100)) ∧ w = w' := by
  go_enter Tryz.func87, Tryz.ntmps87
  go_wp2_with (go_at_call 31; refine (pwithin_any _ _ _ _).mono ?_; rintro e w' ⟨rfl, rfl⟩)
  go_ret
  exact ⟨rfl, rfl⟩
set_option maxRecDepth 100000 in
theorem surfI_any (A : Option Addr) (n c : Nat) (xs : List Int) (w : World) (h : SL iC 1 w w.heap.size A n xs) (hn : n ≤ 1000) :
    Calls Tryz.prog 105 #[.slice A n c, .func (.func 87) #[] #[]] w fun e w' => (∃ v : Int, e = .returned (.int .i64 v) ∧ decide (v < 0) = xs.all fun p => inR p 1 100) ∧ w = w' := by
  have HS := Lib.hid h
  have HL := Lib.hid h.1
  clear h
  go_enter Tryz.func105, Tryz.ntmps105
  go_wp2_with fail
  go_loopw [8] (fun i wr => ∃ k : Nat, k ≤ n ∧ i = .int .i64 k ∧ w = wr ∧ Hid (∀ x ∈ xs.take k, inR x 1 100 = true))
    (fun i _ => n - (intOf i).toNat)
  case atStart => exact ⟨0, Nat.zero_le _, rfl, rfl, by simp [Hid]⟩
  case round =>
    obtain ⟨k, hk, rfl, rfl, hall⟩ := hrel
    by_cases hlt : k < n
    · have hkl : k < xs.length := by rw [← HL.out]; exact hlt
      obtain ⟨b, off, hA, hbB, c0⟩ := IS.at_ HS.out (k := k) hkl
      have htm := Lib.hid (fun x => take_mem (P := fun p => inR p 1 100 = true) hkl hall.out x)
      have hmem := Lib.hid (List.getElem_mem hkl)
      generalize xs[k]'hkl = p at c0 htm hmem
      have hk1 : (0 : Int) ≤ (k : Int) := by omega
      have hk2 : (k : Int) < (n : Int) := by omega
      clear hkl hall
      subst hA
      cases hp : inR p 1 100
      · have HP := Lib.hid hp
        go_wp2_with (go_at_call 87; refine (pck_any _ _).mono ?_; rintro e w' ⟨rfl, rfl⟩; rw [HP.out])
        go_ret
        refine ⟨⟨_, rfl, ?_⟩, by trivial⟩
        have h1 : (xs.all fun p => inR p 1 100) = false := by
          rw [Bool.eq_false_iff]
          intro h
          have := List.all_eq_true.1 h p hmem.out
          rw [HP.out] at this
          cases this
        rw [h1]
        simp
      · have HP := Lib.hid hp
        go_wp2_with (go_at_call 87; refine (pck_any _ _).mono ?_; rintro e w' ⟨rfl, rfl⟩; rw [HP.out])
        go_roundw
        case rel => exact ⟨k + 1, by omega, by go_num, by trivial, htm.out HP.out⟩
        case measure => simp [intOf]; omega
    · obtain rfl : k = n := by omega
      go_wp2_with fail
      go_ret
      refine ⟨⟨_, rfl, ?_⟩, by trivial⟩
      have h1 : (xs.all fun p => inR p 1 100) = true := by
        rw [List.all_eq_true]
        have := hall.out
        rw [HL.out, List.take_length] at this
        exact this
      rw [h1]
      rfl
set_option maxRecDepth 100000 in
theorem surf_any (A : Option Addr) (n c : Nat) (xs : List Int) (w : World) (h : SL iC 1 w w.heap.size A n xs) (hn : n ≤ 1000) :
    Calls Tryz.prog 86 #[.slice A n c, .func (.func 87) #[] #[]] w fun e w' => e = .returned (.bool (!xs.all fun p => inR p 1 100)) ∧ w = w' := by
  have HS := Lib.hid h
  clear h
  go_enter Tryz.func86, Tryz.ntmps86
  go_wp2_with fail
  refine (surfI_any A n c xs _ HS.out hn).mono ?_
  rintro e w' ⟨⟨v, rfl, hv⟩, rfl⟩
  have HV := Lib.hid hv
  clear hv
  go_wp2_with fail
  go_ret
  refine ⟨ret_bool ?_, by trivial⟩
  rw [← HV.out]
  by_cases h : v < 0
  · simp [h]
  · simp [h]; omega
set_option maxRecDepth 100000 in
set_option maxHeartbeats 4000000 in
theorem SpCheck_any (ra : Option Addr) (rn rc : Nat) (sa : Option Addr) (sn sc : Nat) (S : Spd) (w : World) (h : SD w w.heap.size ra rn sa sn S) :
    Calls Tryz.prog 73 #[.agg #[.int .i64 S.least, .int .i64 S.most, .slice ra rn rc, .slice sa sn sc]] w fun e w' => e = .returned (.int .i64 (spE S)) ∧ Below w.heap.size w w' := by
  have HR := Lib.hid h.r
  have HS := Lib.hid h.s
  have HLR := Lib.hid h.r.1
  have HLS := Lib.hid h.s.1
  clear h
  have hW0 : Below w.heap.size w (w.alloc (.cells #[.int .i64 S.least, .int .i64 S.most, .slice ra rn rc, .slice sa sn sc] 60)) := (Below.refl w.heap.size w).alloc (Nat.le_refl _) _
  by_cases h1 : bdB S.least S.most = true
  case neg =>
    have hb : bdB S.least S.most = false := by simpa using h1
    have hc := Lib.hid (spE_bad (fun q : SOK S => h1 q.b))
    have HB := Lib.hid hb
    clear h1 hb
    go_enter Tryz.func73, Tryz.ntmps73
    go_wp2_with (go_at_call 85; refine (pbounds_any _ _ _).mono ?_; rintro e w' ⟨rfl, rfl⟩; rw [HB.out])
    go_ret
    exact ⟨ret_int hc.out.symm, hW0⟩
  have HB := Lib.hid h1
  clear h1
  by_cases h2 : 1 ≤ rn ∧ rn ≤ 30
  case neg =>
    have hc := Lib.hid (spE_bad (fun q : SOK S => h2 ⟨by rw [HLR.out]; exact q.r1, by rw [HLR.out]; exact q.r2⟩))
    have HN : Hid (inR (rn : Int) 1 30 = false) := by show _ = _; rw [Bool.eq_false_iff]; simp [inR]; omega
    clear h2
    go_enter Tryz.func73, Tryz.ntmps73
    go_wp2_with (first | (go_at_call 85; refine (pbounds_any _ _ _).mono ?_; rintro e w' ⟨rfl, rfl⟩; rw [HB.out]) | (go_at_call 31; refine (pwithin_any _ _ _ _).mono ?_; rintro e w' ⟨rfl, rfl⟩; rw [HN.out]))
    go_ret
    exact ⟨ret_int hc.out.symm, hW0⟩
  obtain ⟨h2, h3⟩ := h2
  have HN : Hid (inR (rn : Int) 1 30 = true) := by show _ = _; simp [inR]; omega
  by_cases h4 : sn = 9
  case neg =>
    have hc := Lib.hid (spE_bad (fun q : SOK S => h4 (by rw [HLS.out]; exact q.s9)))
    have g4 : ((sn : Int) != 9) = true := by simp; omega
    clear h4
    go_enter Tryz.func73, Tryz.ntmps73
    go_wp2_with (first | (go_at_call 85; refine (pbounds_any _ _ _).mono ?_; rintro e w' ⟨rfl, rfl⟩; rw [HB.out]) | (go_at_call 31; refine (pwithin_any _ _ _ _).mono ?_; rintro e w' ⟨rfl, rfl⟩; rw [HN.out]))
    go_ret
    exact ⟨ret_int hc.out.symm, hW0⟩
  have HS9 := Lib.hid h4
  have g4 : ((sn : Int) != 9) = false := by simp; omega
  clear h4
  have h0l : 0 < S.rows.length := by rw [← HLR.out]; omega
  obtain ⟨b, off, hA, hbB, c0, -, -⟩ := SR.at_ HR.out (k := 0) h0l
  have hr0 := Lib.hid (List.getElem?_eq_getElem h0l)
  generalize S.rows[0]'h0l = r0 at c0 hr0
  have hz : off + 0 * 3 = off := by omega
  rw [hz] at c0
  clear hz h0l
  by_cases h5 : r0.rad = 5
  case neg =>
    have hc := Lib.hid (spE_bad (fun q : SOK S => h5 (q.r0 _ hr0.out)))
    have g5 : (r0.rad != 5) = true := by simpa using h5
    subst hA
    have hi2 : (0 : Int) < (rn : Int) := by omega
    clear h5
    go_enter Tryz.func73, Tryz.ntmps73
    go_wp2_with (first | (go_at_call 85; refine (pbounds_any _ _ _).mono ?_; rintro e w' ⟨rfl, rfl⟩; rw [HB.out]) | (go_at_call 31; refine (pwithin_any _ _ _ _).mono ?_; rintro e w' ⟨rfl, rfl⟩; rw [HN.out]))
    go_ret
    exact ⟨ret_int hc.out.symm, hW0⟩
  have HR5 : Hid (∀ r, S.rows[0]? = some r → r.rad = 5) := fun r hr => by rw [hr0.out] at hr; cases hr; exact h5
  have g5 : (r0.rad != 5) = false := by simpa using h5
  have hi2 : (0 : Int) < (rn : Int) := by omega
  clear h5 hr0
  subst hA
  go_enter Tryz.func73, Tryz.ntmps73
  go_wp2_with (first | (go_at_call 85; refine (pbounds_any _ _ _).mono ?_; rintro e w' ⟨rfl, rfl⟩; rw [HB.out]) | (go_at_call 31; refine (pwithin_any _ _ _ _).mono ?_; rintro e w' ⟨rfl, rfl⟩; rw [HN.out]))
  clear c0 g4 g5 hi2
  obtain ⟨w0, hw0⟩ : ∃ w0, w0 = w.alloc (.cells #[.int .i64 S.least, .int .i64 S.most, .slice (some ⟨b, off, none⟩) rn rc, .slice sa sn sc] 60) := ⟨_, rfl⟩
  have hX0 : BK w0 w.heap.size 60 #[.int .i64 S.least, .int .i64 S.most, .slice (some ⟨b, off, none⟩) rn rc, .slice sa sn sc] := by rw [hw0]; exact BK.new w _ _
  have HX0 := Lib.hid hX0
  rw [← hw0] at hW0 ⊢
  clear hw0 hX0
  have hz0 := hW0.size
  go_loopw [35] (fun i wr => ∃ k : Nat, k ≤ rn ∧ i = .int .i64 k ∧ Below w0.heap.size w0 wr ∧ Hid (∀ i, i < k → rAt S.rows i))
    (fun i _ => rn - (intOf i).toNat)
  case atStart => exact ⟨0, Nat.zero_le _, rfl, Below.refl _ _, by simp [Hid]⟩
  case round =>
    obtain ⟨m, hm, rfl, hbr, hall⟩ := hrel
    have hBr := hW0.trans (hbr.mono hz0)
    have hXr := HX0.out.below hbr HX0.out.lt
    have hzr := hbr.size
    have hlx := hXr.lt
    have x0 := hXr.cell 0
    have x1 := hXr.cell 1
    have x2 := hXr.cell 2
    have x3 := hXr.cell 3
    simp only [List.getElem?_toArray, List.getElem?_cons_zero, List.getElem?_cons_succ] at x0 x1 x2 x3
    by_cases hlt : m < rn
    · have hkl : m < S.rows.length := by rw [← HLR.out]; exact hlt
      have hw := HR.out.grow hBr hBr.size
      obtain ⟨b', off', hA, hbB', c0, c1, c2⟩ := SR.at_ hw (k := m) hkl
      cases hA
      have hstep : Hid (∀ (hh : bdB S.rows[m].least S.rows[m].most = true ∧ S.rows[m].rad ≤ 2000 ∧ ∀ d, 0 < m → S.rows[m-1]? = some d → d.rad < S.rows[m].rad), ∀ i, i < m + 1 → rAt S.rows i) := by
        intro hh i hi
        rcases Nat.lt_or_ge i m with h | h
        · exact hall.out i h
        · obtain rfl : i = m := by omega
          intro c hc
          rw [List.getElem?_eq_getElem hkl] at hc
          cases hc
          exact hh
      have hno : Hid (∀ (hh : ¬ (bdB S.rows[m].least S.rows[m].most = true ∧ S.rows[m].rad ≤ 2000 ∧ ∀ d, 0 < m → S.rows[m-1]? = some d → d.rad < S.rows[m].rad)), spE S = 2) := by
        intro hh
        exact spE_bad (fun q => hh (q.rk m hkl _ (List.getElem?_eq_getElem hkl)))
      have hprev : 0 < m → ∃ d, Hid (S.rows[m-1]? = some d) ∧ wr.cell? ⟨b, off + (m-1) * 3, none⟩ = some (.int .i64 d.rad) := by
        intro h0
        obtain ⟨b2, off2, hA2, _, c02, _⟩ := SR.at_ hw (k := m - 1) (by omega)
        cases hA2
        exact ⟨S.rows[m-1], List.getElem?_eq_getElem (by omega), c02⟩
      generalize S.rows[m]'hkl = c at c0 c1 c2 hstep hno
      clear hw hkl hall
      have hm1 : (0 : Int) ≤ (m : Int) := by omega
      have hm2 : (m : Int) < (rn : Int) := by omega
      cases e1 : bdB c.least c.most
      · have hc := Lib.hid (hno.out (by simp [e1]))
        clear hno hstep hprev
        go_wp2
        go_quiet ((go_at_call 85; exact Calls.quiet_of_same ((pbounds_any _ _ _).mono fun _ _ ⟨a, b⟩ => ⟨a, b.symm⟩)))
        go_wp2
        go_ret
        exact ⟨ret_int hc.out.symm, hBr.trans ((below_drewN ((Below.refl _ _).alloc (Nat.le_refl _) _) _).mono hBr.size)⟩
      by_cases e2 : c.rad ≤ 2000
      case neg =>
        have hc := Lib.hid (hno.out (by simp [e2]))
        have g2 : decide (2000 < c.rad) = true := by simp; omega
        clear hno hstep hprev e2
        go_wp2
        go_quiet ((go_at_call 85; exact Calls.quiet_of_same ((pbounds_any _ _ _).mono fun _ _ ⟨a, b⟩ => ⟨a, b.symm⟩)))
        go_wp2
        go_ret
        exact ⟨ret_int hc.out.symm, hBr.trans ((below_drewN ((Below.refl _ _).alloc (Nat.le_refl _) _) _).mono hBr.size)⟩
      have g2 : decide (2000 < c.rad) = false := by simp; omega
      by_cases hm0 : 0 < m
      · obtain ⟨d, hd, cd⟩ := hprev hm0
        have hg : decide ((0 : Int) < (m : Int)) = true := by simp; omega
        by_cases hlt2 : d.rad < c.rad
        · have hs' := Lib.hid (hstep.out ⟨e1, e2, fun d' _ h' => by rw [hd.out] at h'; cases h'; exact hlt2⟩)
          have g3 : decide (c.rad ≤ d.rad) = false := by simp; omega
          clear hno hstep hprev hlt2 e2
          go_wp2
          go_quiet ((go_at_call 85; exact Calls.quiet_of_same ((pbounds_any _ _ _).mono fun _ _ ⟨a, b⟩ => ⟨a, b.symm⟩)))
          go_wp2
          go_roundw
          case rel => exact ⟨m + 1, by omega, by go_num, hbr.trans ((below_drewN ((Below.refl _ _).alloc (Nat.le_refl _) _) _).mono hzr), hs'⟩
          case measure => simp [intOf]; omega
        · have hc := Lib.hid (hno.out (by rintro ⟨_, _, h⟩; exact hlt2 (h d hm0 hd.out)))
          have g3 : decide (c.rad ≤ d.rad) = true := by simp; omega
          clear hno hstep hprev hlt2 e2
          go_wp2
          go_quiet ((go_at_call 85; exact Calls.quiet_of_same ((pbounds_any _ _ _).mono fun _ _ ⟨a, b⟩ => ⟨a, b.symm⟩)))
          go_wp2
          go_ret
          exact ⟨ret_int hc.out.symm, hBr.trans ((below_drewN ((Below.refl _ _).alloc (Nat.le_refl _) _) _).mono hBr.size)⟩
      · have hg : decide ((0 : Int) < (m : Int)) = false := by simp; omega
        have hs' := Lib.hid (hstep.out ⟨e1, e2, fun d' h' => absurd h' hm0⟩)
        clear hno hstep hprev e2
        go_wp2
        go_quiet ((go_at_call 85; exact Calls.quiet_of_same ((pbounds_any _ _ _).mono fun _ _ ⟨a, b⟩ => ⟨a, b.symm⟩)))
        go_wp2
        go_roundw
        case rel => exact ⟨m + 1, by omega, by go_num, hbr.trans ((below_drewN ((Below.refl _ _).alloc (Nat.le_refl _) _) _).mono hzr), hs'⟩
        case measure => simp [intOf]; omega
    · obtain rfl : m = rn := by omega
      have HSr := Lib.hid (HS.out.grow hBr hBr.size)
      have hsn : sn ≤ 1000 := by rw [HS9.out]; omega
      have hend : spE S = if (S.surf.all fun p => inR p 1 100) = true then 0 else 2 := by
        split
        · rename_i h
          exact spE_ok ⟨HB.out, by rw [← HLR.out]; exact h2, by rw [← HLR.out]; exact h3, by rw [← HLS.out]; exact HS9.out, HR5.out, fun i hi => hall.out i (by rw [HLR.out]; exact hi), List.all_eq_true.1 h⟩
        · rename_i h
          exact spE_bad (fun q => h (List.all_eq_true.2 q.sk))
      have HE := Lib.hid hend
      clear hend
      go_wp2_with fail
      refine (surf_any sa sn sc S.surf _ HSr.out hsn).mono ?_
      rintro e w' ⟨rfl, rfl⟩
      cases hq : (S.surf.all fun p => inR p 1 100)
      · have HQ := Lib.hid hq
        clear hq
        go_wp2_with fail
        go_ret
        exact ⟨ret_int (by rw [HE.out, HQ.out]; rfl), hBr⟩
      · have HQ := Lib.hid hq
        clear hq
        go_wp2_with fail
        go_ret
        exact ⟨ret_int (by rw [HE.out, HQ.out]; rfl), hBr⟩
end Go.Proofs.YtogkmnopggmdjaaGreatDoor

/- A track: the sums of the times of a road's meters, behind a pointer; and what its small methods answer. -/
namespace Go.Proofs.YtogkmnopggmdjaaGreatDoor
open Go.RowKit Go.Shelf Go.Sort Go.Proofs

def tiC (x : Int × Int) : List Value := [.int .i64 x.1, .int .i64 x.2]
theorem tiC_len (x : Int × Int) : (tiC x).length = 2 := rfl
/-- The sums up to each of the first n places. -/
def tms (S : Spd) (ps : List Piece) (n : Nat) : List (Int × Int) := (List.range n).map fun k => (tQ S ps k, tSl S ps k)
theorem tms_len (S : Spd) (ps : List Piece) (n : Nat) : (tms S ps n).length = n := by simp [tms]
theorem tms_at (S : Spd) (ps : List Piece) (n k : Nat) (h : k < (tms S ps n).length) : (tms S ps n)[k] = (tQ S ps k, tSl S ps k) := by simp [tms]
structure TS (w : World) (B g : Nat) (ta : Option Addr) (tc N : Nat) (S : Spd) (R : Road) : Prop where
  lt : g < B
  c3 : w.cell? ⟨g, 3, none⟩ = some (.slice ta (N + 1) tc)
  t : SL tiC 2 w B ta (N + 1) (tms S R.ps (N + 1))
  n : sumL R.ps = N
theorem TS.grow {w w' : World} {B B' g : Nat} {ta : Option Addr} {tc N : Nat} {S : Spd} {R : Road} (h : TS w B g ta tc N S R) (hb : Below B w w') (hB : B ≤ B') : TS w' B' g ta tc N S R :=
  ⟨Nat.lt_of_lt_of_le h.lt hB, (hb.cell (p := ⟨g, 3, none⟩) h.lt).trans h.c3, h.t.grow hb hB, h.n⟩
theorem TT.at_ {w : World} {B N : Nat} {ta : Option Addr} {S : Spd} {ps : List Piece} (h : SL tiC 2 w B ta (N + 1) (tms S ps (N + 1))) {k : Nat} (hk : k ≤ N) : ∃ b off, ta = some ⟨b, off, none⟩ ∧ b < B ∧
    w.cell? ⟨b, off + k * 2, none⟩ = some (.int .i64 (tQ S ps k)) ∧ w.cell? ⟨b, off + k * 2 + 1, none⟩ = some (.int .i64 (tSl S ps k)) := by
  have hl : k < (tms S ps (N + 1)).length := by rw [tms_len]; omega
  obtain ⟨b, off, e, hb, hc⟩ := h.at_ hl
  rw [tms_at] at hc
  exact ⟨b, off, e, hb, hc 0 _ rfl, hc 1 _ rfl⟩
theorem take_bd {R : Road} (hv : OK R) {f : Piece → Int} {hi : Int} (h0 : 0 ≤ hi) (h : ∀ p ∈ units R.ps, 0 ≤ f p ∧ f p ≤ hi) (k : Nat) : 0 ≤ (((units R.ps).take k).map f).sum ∧ (((units R.ps).take k).map f).sum ≤ hi * 100000 := by
  have h1 := sum_bd (l := (units R.ps).take k) (f := f) (lo := 0) (hi := hi) (fun p hp => h p (List.mem_of_mem_take hp))
  have h2 : ((units R.ps).take k).length ≤ (units R.ps).length := by rw [List.length_take]; omega
  have h3 := units_nat hv.pk
  have h4 := hv.n1
  have h5 : hi * (((units R.ps).take k).length : Int) ≤ hi * 100000 := Int.mul_le_mul_of_nonneg_left (by omega) h0
  have h6 : (0 : Int) * (((units R.ps).take k).length : Int) = 0 := Int.zero_mul _
  omega
theorem tQ_bd {S : Spd} {R : Road} (hS : SOK S) (hv : OK R) (k : Nat) : 0 ≤ tQ S R.ps k ∧ tQ S R.ps k ≤ 1000000000000 :=
  take_bd hv (hi := 10000000) (by decide) (fun p hp => mQ_bd hS (units_ok hv.pk p hp)) k
theorem tSl_bd {S : Spd} {R : Road} (hS : SOK S) (hv : OK R) (k : Nat) : 0 ≤ tSl S R.ps k ∧ tSl S R.ps k ≤ 1000070000000 :=
  take_bd hv (hi := 10000700) (by decide) (fun p hp => by have := mSl_bd hS (units_ok hv.pk p hp); omega) k
theorem tlen_any (g : Nat) (ta : Option Addr) (tc N : Nat) (S : Spd) (R : Road) (w : World) (h : TS w w.heap.size g ta tc N S R) (hN : N ≤ 1000000) :
    Calls Tryz.prog 75 #[.pointer (some ⟨g, 0, none⟩)] w fun e w' => e = .returned (.int .i64 N) ∧ w = w' := by
  have hl := h.lt
  have c3 := h.c3
  clear h
  go_enter Tryz.func75, Tryz.ntmps75
  go_wp2_with fail
  go_ret
  exact ⟨ret_int (by simp), rfl⟩
theorem place_any (p : Int) (g : Nat) (ta : Option Addr) (tc N : Nat) (S : Spd) (R : Road) (w : World) (h : TS w w.heap.size g ta tc N S R) (hN : N ≤ 1000000) :
    Calls Tryz.prog 56 #[.pointer (some ⟨g, 0, none⟩), .int .i64 p] w fun e w' => e = .returned (.bool (inR p 0 N)) ∧ w = w' := by
  have HT := Lib.hid h
  clear h
  go_enter Tryz.func56, Tryz.ntmps56
  go_wp2_with fail
  refine (tlen_any g ta tc N S R _ HT.out hN).mono ?_
  rintro e w' ⟨rfl, rfl⟩
  go_wp2_with fail
  refine (pwithin_any _ _ _ _).mono ?_
  rintro e w' ⟨rfl, rfl⟩
  go_wp2_with fail
  go_ret
  exact ⟨rfl, rfl⟩
set_option maxRecDepth 100000 in
theorem between0_any (a b : Nat) (g : Nat) (ta : Option Addr) (tc N : Nat) (S : Spd) (R : Road) (w : World) (h : TS w w.heap.size g ta tc N S R) (hS : SOK S) (hv : OK R) (ha : a ≤ N) (hb : b ≤ N) :
    Calls Tryz.prog 55 #[.pointer (some ⟨g, 0, none⟩), .int .i64 0, .int .i64 a, .int .i64 b] w fun e w' => e = .returned (.int .i64 (tQ S R.ps b - tQ S R.ps a)) ∧ ∃ m, w' = w.drewN m := by
  have hl := h.lt
  have c3 := h.c3
  have hN : N ≤ 100000 := by have := h.n; have := hv.n1; omega
  obtain ⟨b1, o1, hA, hb1, q0, q1⟩ := TT.at_ h.t ha
  obtain ⟨b2, o2, hA2, hb2, r0, r1⟩ := TT.at_ h.t hb
  have x1 := tQ_bd hS hv a
  have x2 := tQ_bd hS hv b
  generalize tQ S R.ps a = u at *
  generalize tQ S R.ps b = v at *
  obtain ⟨x3, x4⟩ := x1
  obtain ⟨x5, x6⟩ := x2
  clear h hS hv
  subst hA
  cases hA2
  have i1 : (0 : Int) ≤ (a : Int) := by omega
  have i2 : (a : Int) < (N : Int) + 1 := by omega
  have i3 : (0 : Int) ≤ (b : Int) := by omega
  have i4 : (b : Int) < (N : Int) + 1 := by omega
  go_enter Tryz.func55, Tryz.ntmps55
  go_wp2_with fail
  go_quiet (fail)
  go_wp2_with fail
  go_ret
  exact ⟨rfl, _, rfl⟩
set_option maxRecDepth 100000 in
theorem between1_any (a b : Nat) (g : Nat) (ta : Option Addr) (tc N : Nat) (S : Spd) (R : Road) (w : World) (h : TS w w.heap.size g ta tc N S R) (hS : SOK S) (hv : OK R) (ha : a ≤ N) (hb : b ≤ N) :
    Calls Tryz.prog 55 #[.pointer (some ⟨g, 0, none⟩), .int .i64 1, .int .i64 a, .int .i64 b] w fun e w' => e = .returned (.int .i64 (tSl S R.ps b - tSl S R.ps a)) ∧ ∃ m, w' = w.drewN m := by
  have hl := h.lt
  have c3 := h.c3
  have hN : N ≤ 100000 := by have := h.n; have := hv.n1; omega
  obtain ⟨b1, o1, hA, hb1, q0, q1⟩ := TT.at_ h.t ha
  obtain ⟨b2, o2, hA2, hb2, r0, r1⟩ := TT.at_ h.t hb
  have x1 := tSl_bd hS hv a
  have x2 := tSl_bd hS hv b
  generalize tSl S R.ps a = u at *
  generalize tSl S R.ps b = v at *
  obtain ⟨x3, x4⟩ := x1
  obtain ⟨x5, x6⟩ := x2
  clear h hS hv
  subst hA
  cases hA2
  have i1 : (0 : Int) ≤ (a : Int) := by omega
  have i2 : (a : Int) < (N : Int) + 1 := by omega
  have i3 : (0 : Int) ≤ (b : Int) := by omega
  have i4 : (b : Int) < (N : Int) + 1 := by omega
  go_enter Tryz.func55, Tryz.ntmps55
  go_wp2_with fail
  go_quiet (fail)
  go_wp2_with fail
  go_ret
  exact ⟨rfl, _, rfl⟩
end Go.Proofs.YtogkmnopggmdjaaGreatDoor

/- pace.last at Plan's test: the greatest place up to a bound whose sum of least times is within the room. -/
namespace Go.Proofs.YtogkmnopggmdjaaGreatDoor
open Go.RowKit Go.Shelf Go.Sort Go.Proofs

theorem tQ_step {S : Spd} {R : Road} (hS : SOK S) (hv : OK R) {a : Nat} : ∀ d : Nat, tQ S R.ps a ≤ tQ S R.ps (a + d)
  | 0 => Int.le_refl _
  | d + 1 => by
    have ih := tQ_step hS hv (a := a) d
    cases hx : (units R.ps)[a + d]? with
    | none =>
      have hl := List.getElem?_eq_none_iff.1 hx
      have e : tQ S R.ps (a + (d + 1)) = tQ S R.ps (a + d) := by
        unfold tQ
        rw [List.take_of_length_le (by omega), List.take_of_length_le hl]
      omega
    | some x =>
      have e := tQ_succ S R.ps hx
      have := mQ_bd hS (units_ok hv.pk x (List.mem_of_getElem? hx))
      rw [← Nat.add_assoc]
      omega
theorem tQ_mono {S : Spd} {R : Road} (hS : SOK S) (hv : OK R) {a b : Nat} (h : a ≤ b) : tQ S R.ps a ≤ tQ S R.ps b := by
  have := tQ_step hS hv (a := a) (b - a)
  rwa [show a + (b - a) = b by omega] at this
theorem tQ_zero (S : Spd) (ps : List Piece) : tQ S ps 0 = 0 := by simp [tQ]
theorem tSl_zero (S : Spd) (ps : List Piece) : tSl S ps 0 = 0 := by simp [tSl]
set_option maxRecDepth 100000 in
theorem plan1_any (a c1 c2 : Nat) (room : Int) (g : Nat) (ta : Option Addr) (tc N : Nat) (S : Spd) (R : Road) (w : World) (h : TS w w.heap.size g ta tc N S R) (h1 : w.cell? ⟨c1, 0, none⟩ = some (.pointer (some ⟨g, 0, none⟩))) (h2 : w.cell? ⟨c2, 0, none⟩ = some (.int .i64 room)) (ha : a ≤ N) :
    Calls Tryz.prog 54 #[.int .i64 a, .pointer (some ⟨c1, 0, none⟩), .pointer (some ⟨c2, 0, none⟩)] w fun e w' => e = .returned (.bool (decide (tQ S R.ps a ≤ room))) ∧ ∃ m, w' = w.drewN m := by
  have hl := h.lt
  have c3 := h.c3
  obtain ⟨b1, o1, hA, hb1, q0, q1⟩ := TT.at_ h.t ha
  generalize tQ S R.ps a = u at *
  clear h
  subst hA
  have i1 : (0 : Int) ≤ (a : Int) := by omega
  have i2 : (a : Int) < (N : Int) + 1 := by omega
  go_enter Tryz.func54, Tryz.ntmps54
  go_wp2_with fail
  go_quiet (fail)
  go_wp2_with fail
  go_ret
  exact ⟨rfl, _, rfl⟩
set_option maxRecDepth 100000 in
set_option maxHeartbeats 2000000 in
theorem last_any (bd c1 c2 : Nat) (room : Int) (g : Nat) (ta : Option Addr) (tc N : Nat) (S : Spd) (R : Road) (w : World) (h : TS w w.heap.size g ta tc N S R) (h1 : w.cell? ⟨c1, 0, none⟩ = some (.pointer (some ⟨g, 0, none⟩))) (h2 : w.cell? ⟨c2, 0, none⟩ = some (.int .i64 room)) (l1 : c1 < w.heap.size) (l2 : c2 < w.heap.size) (hS : SOK S) (hv : OK R) (hbd : bd ≤ N) (hr : 0 ≤ room) :
    Calls Tryz.prog 53 #[.int .i64 bd, .func (.func 54) #[] #[.pointer (some ⟨c1, 0, none⟩), .pointer (some ⟨c2, 0, none⟩)]] w fun e w' => e = .returned (.int .i64 (lastN (fun p => decide (tQ S R.ps p ≤ room)) bd)) ∧ ∃ m, w' = w.drewN m := by
  have HT := Lib.hid h
  have H1 := Lib.hid h1
  have H2 := Lib.hid h2
  have HS := Lib.hid hS
  have HV := Lib.hid hv
  have hN : N ≤ 100000 := by have := h.n; have := hv.n1; omega
  clear h h1 h2 hS hv
  go_enter Tryz.func53, Tryz.ntmps53
  go_wp2_with fail
  go_loopw [5, 6] (fun lo hi wr => ∃ (a b : Nat), a < b ∧ b ≤ bd + 1 ∧ lo = .int .i64 a ∧ hi = .int .i64 b ∧ Hid (tQ S R.ps a ≤ room) ∧ Hid (∀ j, b ≤ j → j ≤ bd → room < tQ S R.ps j) ∧ ∃ m, wr = w.drewN m)
    (fun lo hi _ => (intOf hi).toNat - (intOf lo).toNat)
  case atStart => exact ⟨0, bd + 1, by omega, Nat.le_refl _, rfl, by simp, by show _ ≤ _; rw [tQ_zero]; exact hr, fun j h1 h2 => by omega, 0, rfl⟩
  case round =>
    obtain ⟨a, b, hab, hb, rfl, rfl, hlo, hhi, m, rfl⟩ := hrel
    have hk := below_drewN (Below.refl w.heap.size w) m
    by_cases hgo : a + 1 < b
    · have g1 : decide ((1 : Int) < (b : Int) - (a : Int)) = true := by simp; omega
      obtain ⟨d, hd⟩ : ∃ d : Nat, a + (b - a) / 2 = d := ⟨_, rfl⟩
      have hd1 : a < d := by omega
      have hd2 : d < b := by omega
      have hdi : (a : Int) + ((b : Int) - (a : Int)) / 2 = (d : Int) := by omega
      have HTm := Lib.hid (HT.out.grow hk hk.size)
      have K1 : Hid ((w.drewN m).cell? ⟨c1, 0, none⟩ = some (.pointer (some ⟨g, 0, none⟩))) := (hk.cell (p := ⟨c1, 0, none⟩) l1).trans H1.out
      have K2 : Hid ((w.drewN m).cell? ⟨c2, 0, none⟩ = some (.int .i64 room)) := (hk.cell (p := ⟨c2, 0, none⟩) l2).trans H2.out
      by_cases hq : tQ S R.ps d ≤ room
      · have HQ : Hid (decide (tQ S R.ps d ≤ room) = true) := by show _ = _; simpa using hq
        have HQ' := Lib.hid hq
        clear hq
        go_wp2_with (go_at_call 54; refine (plan1_any d c1 c2 room g ta tc N S R _ HTm.out K1.out K2.out (by omega)).mono ?_; rintro e w' ⟨rfl, m2, rfl⟩; rw [HQ.out])
        go_roundw
        case rel => exact ⟨d, b, by omega, hb, by first | rfl | simp, by first | rfl | simp, HQ'.out, hhi.out, m + m2, by first | rfl | rw [World.drewN_drewN]⟩
        case measure => simp [intOf]; omega
      · have HQ : Hid (decide (tQ S R.ps d ≤ room) = false) := by show _ = _; simpa using hq
        have HQ' : Hid (∀ j, d ≤ j → j ≤ bd → room < tQ S R.ps j) := fun j hj _ => by have := tQ_mono HS.out HV.out hj; omega
        clear hq
        go_wp2_with (go_at_call 54; refine (plan1_any d c1 c2 room g ta tc N S R _ HTm.out K1.out K2.out (by omega)).mono ?_; rintro e w' ⟨rfl, m2, rfl⟩; rw [HQ.out])
        go_roundw
        case rel => exact ⟨a, d, by omega, by omega, by first | rfl | simp, by first | rfl | simp, hlo.out, HQ'.out, m + m2, by first | rfl | rw [World.drewN_drewN]⟩
        case measure => simp [intOf]; omega
    · have g1 : decide ((1 : Int) < (b : Int) - (a : Int)) = false := by simp; omega
      have hfin : Hid (lastN (fun p => decide (tQ S R.ps p ≤ room)) bd = a) :=
        lastN_eq (by omega) (by simpa using hlo.out) (fun j h1 h2 => by have := hhi.out j (by omega) h2; simp; omega)
      go_wp2_with fail
      go_ret
      exact ⟨by rw [hfin.out]; rfl, _, rfl⟩
end Go.Proofs.YtogkmnopggmdjaaGreatDoor

/- Worlds that differ in one old block (and have grown); sums of pairs. Plain theorems over any program. -/
namespace Go.Proofs.YtogkmnopggmdjaaGreatDoor
open Go.RowKit Go.Shelf Go.Sort Go.Proofs

/-- All old blocks but m read as before. -/
structure But (m : Nat) (x y : World) : Prop where
  os : y.os = x.os
  tape : y.tape = x.tape
  output : y.output = x.output
  size : x.heap.size ≤ y.heap.size
  block : ∀ b, b < x.heap.size → b ≠ m → y.heap[b]? = x.heap[b]?
section
variable {m : Nat} {W W' : World}
theorem But.refl (m : Nat) (x : World) : But m x x := ⟨rfl, rfl, rfl, Nat.le_refl _, fun _ _ _ => rfl⟩
theorem But.trans {x y z : World} (h : But m x y) (k : But m y z) : But m x z :=
  ⟨k.os.trans h.os, k.tape.trans h.tape, k.output.trans h.output, Nat.le_trans h.size k.size, fun b hb hm => (k.block b (Nat.lt_of_lt_of_le hb h.size) hm).trans (h.block b hb hm)⟩
theorem But.of_below (h : Below W.heap.size W W') : But m W W' := ⟨h.os, h.tape, h.output, h.size, fun b hb _ => h.block b hb⟩
theorem But.setCell {x y : World} (h : But m x y) (o : Nat) (u : Value) : But m x (y.setCell ⟨m, o, none⟩ u) :=
  ⟨h.os, h.tape, h.output, by rw [World.size_setCell]; exact h.size, fun b hb hm => (Below.heap_setCell _ _ _ b hm).trans (h.block b hb hm)⟩
theorem But.grown {x y z : World} (h : But m x y) (k : y.grownBy z (some m)) : But m x z :=
  ⟨k.os.trans h.os, k.tape.trans h.tape, k.output.trans h.output, Nat.le_trans h.size k.size, fun b hb hm => (k.block b (Nat.lt_of_lt_of_le hb h.size) (fun e => hm (by cases e; rfl))).trans (h.block b hb hm)⟩
theorem But.bk (h : But m W W') {b : Nat} {t : TypeId} {cs : Array Value} (hb : BK W b t cs) (hm : b ≠ m) : BK W' b t cs := (h.block b hb.lt hm).trans hb
theorem But.ow (h : But m W W') {α : Type} {f : α → List Value} {sz : Nat} {e : TypeId} {base : Nat} {A : Option Addr} {n c : Nat} {xs : List α} (ho : OW f sz e base W A n c xs) (hm : ∀ g, A = some g → g.block ≠ m) : OW f sz e base W' A n c xs :=
  ho.keep (fun g hg => h.block _ (ho.lt hg).2 (hm g hg))
theorem But.below (h : But m W W') {n0 : Nat} (h1 : n0 ≤ m) (h2 : n0 ≤ W.heap.size) : Below n0 W W' :=
  ⟨h.os, h.tape, h.output, h.size, fun b hb => h.block b (by omega) (by omega)⟩
theorem But.km (h : But m W W') {n0 s0 : Nat} (h1 : n0 ≤ m) (h2 : m < s0) (h3 : n0 ≤ W.heap.size) : KM n0 s0 W W' :=
  ⟨h.below h1 h3, fun b o h0 hb _ => (h.block b (Array.getElem?_eq_some_iff.1 hb).1 (by omega)).trans hb⟩
theorem But.keeps (h : But m W W') {t : TypeId} {cs : Array Value} (hm : BK W m t cs) (B : Nat) : KeepsFrom B W W' :=
  ⟨h.size, fun k o _ hk ho => (h.block k (Array.getElem?_eq_some_iff.1 hk).1 (fun e => by subst e; rw [show W.heap[k]? = _ from hm] at hk; cases hk; cases ho)).trans hk⟩
theorem but_put (m : Nat) (W : World) (o : Obj) (d : Nat) (os : Array Obj) : But m W (grow (redrawn (W.putObj m o) d) os) := by
  have h1 : But m W (W.putObj m o) := ⟨rfl, rfl, rfl, by simp [World.putObj], fun b _ hm => World.putObj_heap_other hm⟩
  exact h1.trans (But.of_below (below_regrown _ d os))
theorem putq (h : But m W W') (hm : m < W.heap.size) {o : Obj} (ho : W'.heap[m]? = some o) : ∃ p : Regrown, W' = grow (redrawn (W.putObj m o) p.d) p.os := by
  refine regrown_of_below ⟨h.os, h.tape, h.output, by simpa [World.putObj] using h.size, fun b hb => ?_⟩
  have hb' : b < W.heap.size := by simpa [World.putObj] using hb
  by_cases e : b = m
  · subst e
    rw [World.putObj_heap_same hm, ho]
  · rw [World.putObj_heap_other e, h.block b hb' e]
end

def pF (L : List (Int × Int)) : Int := (L.map Prod.fst).sum
def pS (L : List (Int × Int)) : Int := (L.map Prod.snd).sum
theorem pF_snoc (L : List (Int × Int)) (x : Int × Int) : pF (L ++ [x]) = pF L + x.1 := by simp [pF]
theorem pS_snoc (L : List (Int × Int)) (x : Int × Int) : pS (L ++ [x]) = pS L + x.2 := by simp [pS]
/-- The sums of the first 0, 1, .. of some pairs. -/
def pss (L : List (Int × Int)) : List (Int × Int) := (List.range (L.length + 1)).map fun k => (pF (L.take k), pS (L.take k))
theorem pss_snoc (L : List (Int × Int)) (x : Int × Int) : pss (L ++ [x]) = pss L ++ [(pF L + x.1, pS L + x.2)] := by
  unfold pss
  rw [List.length_append, List.length_singleton, List.range_succ, List.map_append]
  congr 1
  · refine List.map_congr_left (fun k hk => ?_)
    have := List.mem_range.1 hk
    rw [List.take_append_of_le_length (by omega)]
  · rw [List.map_singleton, List.take_of_length_le (by simp), pF_snoc, pS_snoc]
theorem pss_mtrs (S : Spd) (ps : List Piece) : pss (mtrs S ps) = tms S ps ((mtrs S ps).length + 1) := by
  unfold pss tms
  refine List.map_congr_left (fun k _ => ?_)
  have e : (mtrs S ps).take k = ((units ps).take k).map (mtp S) := by unfold mtrs; rw [List.map_take]
  rw [e]
  simp only [pF, pS, List.map_map]
  rfl
theorem pF_bd : ∀ (pre : List BT), (0 ≤ pF (pre.map (·.1)) ∧ pF (pre.map (·.1)) ≤ 10000000 * (pre.length : Int)) ∧ 0 ≤ pS (pre.map (·.1)) ∧ pS (pre.map (·.1)) ≤ 10000700 * (pre.length : Int)
  | [] => by simp [pF, pS]
  | x :: l => by
    have h := pF_bd l
    have h2 := x.2
    simp only [pF, pS, List.map_cons, List.sum_cons, List.length_cons, Int.natCast_add] at *
    omega
end Go.Proofs.YtogkmnopggmdjaaGreatDoor
