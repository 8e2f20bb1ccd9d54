/- The piece at a place: the binary search of the road package, and the reference's walk along the pieces. -/
import Derived.Test.YtomloklckpcaiaaZLeaf
import Derived.Test.YtomloklckpcaiaaZValid
namespace Go.Proofs.Ytomloklckpcaiaa
open Go.RowKit Go.Proofs

/-- Piece i lies at the place x. -/
def At (ps : List Piece) (x : Int) (i : Nat) : Prop := i < ps.length ∧ sumL (ps.take i) ≤ x ∧ x < sumL (ps.take (i + 1))
theorem sumL_mono {ps : List Piece} (h : ∀ p ∈ ps, pOk p = true) {i j : Nat} (hij : i ≤ j) : sumL (ps.take i) ≤ sumL (ps.take j) := by
  obtain ⟨d, rfl⟩ := Nat.exists_eq_add_of_le hij
  clear hij
  induction d with
  | zero => exact Int.le_refl _
  | succ d ih =>
    refine Int.le_trans ih ?_
    show sumL (ps.take (i + d)) ≤ sumL (ps.take (i + d + 1))
    rcases Nat.lt_or_ge (i + d) ps.length with hl | hl
    · rw [sumL_take ps _ hl]
      have := (pOk_len (h _ (List.getElem_mem hl))).1
      omega
    · rw [List.take_of_length_le hl, List.take_of_length_le (by omega)]
      exact Int.le_refl _
/-- Whether the place lies before the end of piece j, once piece i lies at it. -/
theorem At.iff {ps : List Piece} (h : ∀ p ∈ ps, pOk p = true) {x : Int} {i : Nat} (ha : At ps x i) (j : Nat) : x < sumL (ps.take (j + 1)) ↔ i ≤ j := by
  obtain ⟨_, h1, h2⟩ := ha
  constructor
  · intro hx
    rcases Nat.lt_or_ge j i with hlt | hge
    · have := sumL_mono h (show j + 1 ≤ i from hlt); omega
    · exact hge
  · intro hij
    have := sumL_mono h (show i + 1 ≤ j + 1 by omega); omega
theorem At.exists_ {ps : List Piece} (_h : ∀ p ∈ ps, pOk p = true) {x : Int} (h0 : 0 ≤ x) (h1 : x < sumL ps) : ∃ i, At ps x i := by
  have key : ∀ k, k ≤ ps.length → x < sumL (ps.take k) → ∃ i, At ps x i := by
    intro k
    induction k with
    | zero => intro _ hx; simp [sumL] at hx; omega
    | succ k ih =>
      intro hk hx
      by_cases hy : x < sumL (ps.take k)
      · exact ih (by omega) hy
      · exact ⟨k, by omega, by omega, hx⟩
  exact key ps.length (Nat.le_refl _) (by rw [List.take_length]; exact h1)
theorem find1_any (g bm bp i : Nat) (x : Int) (pa : Option Addr) (pn pc : Nat) (ca : Option Addr) (cn cc : Nat) (ja : Option Addr) (jn jc : Nat) (ba : Option Addr) (bq : Nat) (R : Road) (w : World) (B : Nat)
    (h : MS w B g pa pn pc ca cn cc ja jn jc ba bq R) (hl : pn ≤ 100000) (hi : i < pn) (hm : w.cell? ⟨bm, 0, none⟩ = some (.pointer (some ⟨g, 0, none⟩))) (hp : w.cell? ⟨bp, 0, none⟩ = some (.int .i64 x)) :
    Calls Try.prog 89 #[.int .i64 i, .pointer (some ⟨bm, 0, none⟩), .pointer (some ⟨bp, 0, none⟩)] w fun e w' => e = .returned (.bool (decide (x < sumL (R.ps.take (i + 1))))) ∧ ∃ n, w' = w.drewN n := by
  have h3 := h.c3
  obtain ⟨b, off, hA, hbB, hc⟩ := IS.at_ h.b (k := i + 1) (by rw [bgk_len]; omega)
  rw [bgk_at] at hc
  have hw : IntKind.i64.wrap ((i : Int) + 1) = (i : Int) + 1 := IntWalk.i64_in _ (by omega)
  have hlt : (i : Int) + 1 < (pn : Int) + 1 := by omega
  have hge : (0 : Int) ≤ (i : Int) + 1 := by omega
  have hn : ((i : Int) + 1).toNat = i + 1 := by omega
  clear h
  subst hA
  go_enter Try.func89, Try.ntmps89
  go_wp2
  go_quiet (fail)
  go_wp2
  go_ret
  exact ⟨rfl, _, rfl⟩
theorem first_any (g bm bp j : Nat) (x : Int) (pa : Option Addr) (pn pc : Nat) (ca : Option Addr) (cn cc : Nat) (ja : Option Addr) (jn jc : Nat) (ba : Option Addr) (bq : Nat) (R : Road) (w : World) (B : Nat)
    (h : MS w B g pa pn pc ca cn cc ja jn jc ba bq R) (hk : ∀ p ∈ R.ps, pOk p = true) (hl : pn ≤ 100000) (hj : At R.ps x j) (hm : w.cell? ⟨bm, 0, none⟩ = some (.pointer (some ⟨g, 0, none⟩))) (hp : w.cell? ⟨bp, 0, none⟩ = some (.int .i64 x)) :
    Calls Try.prog 88 #[.int .i64 pn, .func (.func 89) #[] #[.pointer (some ⟨bm, 0, none⟩), .pointer (some ⟨bp, 0, none⟩)]] w fun e w' => e = .returned (.int .i64 j) ∧ ∃ n, w' = w.drewN n := by
  have hiff := Lib.hid (fun i => hj.iff hk i)
  have hjn : j < pn := by rw [h.r.p.1]; exact hj.1
  clear hj hk
  have hM := Lib.hid h
  clear h
  go_enter Try.func88, Try.ntmps88
  go_wp2
  go_loopw [5, 6] (fun lo hi wr => ∃ (a b : Int), lo = .int .i64 a ∧ hi = .int .i64 b ∧ -1 ≤ a ∧ a < j ∧ (j : Int) ≤ b ∧ b ≤ pn ∧ ∃ n, wr = w.drewN n)
    (fun lo hi _ => (intOf hi - intOf lo).toNat)
  case atStart => exact ⟨-1, pn, rfl, rfl, by omega, by omega, by omega, by omega, 0, rfl⟩
  case round =>
    obtain ⟨a, b, rfl, rfl, ha1, ha2, hb1, hb2, n, rfl⟩ := hrel
    by_cases hlt : 1 < b - a
    · obtain ⟨m, hm'⟩ : ∃ m : Nat, (m : Int) = (a + b) / 2 := ⟨((a + b) / 2).toNat, by omega⟩
      have hmn : m < pn := by omega
      have hma : a < m := by omega
      have hmb : (m : Int) < b := by omega
      have hbm := (find1_any g bm bp m x pa pn pc ca cn cc ja jn jc ba bq R (w.drewN n) B (hM.out.drewN n) hl hmn hm hp)
      have hbm' := Lib.hid hbm
      have hmm := Lib.hid hm'
      clear hbm hm'
      by_cases hle : j ≤ m
      · have hd := decide_eq_true ((hiff.out m).2 hle)
        have hd' := Lib.hid hd
        clear hd
        go_wp2_with fail
        rw [← hmm.out]
        refine hbm'.out.mono ?_
        rintro e w' ⟨rfl, n', rfl⟩
        rw [hd'.out]
        go_wp2_with fail
        go_roundw
        case rel => exact ⟨a, m, rfl, rfl, by omega, by omega, by omega, by omega, _, rfl⟩
        case measure => simp [intOf]; omega
      · have hd' : Hid (decide (x < sumL (R.ps.take (m + 1))) = false) := decide_eq_false (fun q => hle ((hiff.out m).1 q))
        go_wp2_with fail
        rw [← hmm.out]
        refine hbm'.out.mono ?_
        rintro e w' ⟨rfl, n', rfl⟩
        rw [hd'.out]
        go_wp2_with fail
        go_roundw
        case rel => exact ⟨m, b, rfl, rfl, by omega, by omega, by omega, by omega, _, rfl⟩
        case measure => simp [intOf]; omega
    · obtain rfl : b = j := by omega
      go_wp2_with fail
      go_ret
      exact ⟨rfl, _, rfl⟩
/-- (m *measured) find: the index of the piece at the place. -/
theorem find_any (g j : Nat) (x : Int) (pa : Option Addr) (pn pc : Nat) (ca : Option Addr) (cn cc : Nat) (ja : Option Addr) (jn jc : Nat) (ba : Option Addr) (bq : Nat) (R : Road) (w : World)
    (h : MS w w.heap.size g pa pn pc ca cn cc ja jn jc ba bq R) (hk : ∀ p ∈ R.ps, pOk p = true) (hl : pn ≤ 100000) (hj : At R.ps x j) :
    Calls Try.prog 58 #[.pointer (some ⟨g, 0, none⟩), .int .i64 x] w fun e w' => e = .returned (.int .i64 j) ∧ Below w.heap.size w w' := by
  have h0 := h.c0
  have hg := h.lt
  have hM := Lib.hid h
  have hj' := Lib.hid hj
  have hk' := Lib.hid hk
  clear h hj hk
  have hW : Below w.heap.size w ((w.alloc (.cells #[.pointer (some ⟨g, 0, none⟩)] 90)).alloc (.cells #[.int .i64 x] 3)) := ((Below.refl _ w).alloc (Nat.le_refl _) _).alloc (by simp) _
  go_enter Try.func58, Try.ntmps58
  go_wp2_with fail
  refine (first_any g w.heap.size (w.heap.size + 1) j x pa pn pc ca cn cc ja jn jc ba bq R _ w.heap.size (hM.out.grow hW (Nat.le_refl _)) hk'.out hl hj'.out ?_ ?_).mono ?_
  · go_simp
  · go_simp
  rintro e w' ⟨rfl, n, rfl⟩
  go_wp2_with fail
  go_ret
  exact ⟨rfl, below_drewN hW n⟩
end Go.Proofs.Ytomloklckpcaiaa

/- road.Find and road.Length on a road that is as defined; Find and At of the reference. -/
namespace Go.Proofs.Ytomloklckpcaiaa
open Go.RowKit Go.Proofs

theorem OK.len {R : Road} (h : OK R) : 1 ≤ sumL R.ps ∧ sumL R.ps ≤ 100000 := by
  have := (sumL_bd R.ps h.pk).1
  have h1 := h.p1
  exact ⟨by omega, h.n1⟩
theorem Find_in (x : Int) (j : Nat) (pa : Option Addr) (pn pc : Nat) (ca : Option Addr) (cn cc : Nat) (ja : Option Addr) (jn jc : Nat) (R : Road) (w : World)
    (h : RD w w.heap.size pa pn ca cn ja jn R) (hv : OK R) (hj : At R.ps x j) :
    Calls Try.prog 21 #[.agg #[.slice pa pn pc, .slice ca cn cc, .slice ja jn jc], .int .i64 x] w fun e w' =>
      e = .returned (.tuple #[.int .i64 j, .int .i64 (x - sumL (R.ps.take j)), .int .i64 0]) ∧ Below w.heap.size w w' := by
  have hpn : pn ≤ 2000 := by rw [h.p.1]; exact hv.p2
  have hln := hv.len
  have hln1 := hln.1
  have hln2 := hln.2
  have h0 : 0 ≤ x := Int.le_trans (by have := sumL_mono hv.pk (Nat.zero_le j); simpa [sumL] using this) hj.2.1
  have h1 : x ≤ sumL R.ps - 1 := by
    have := sumL_mono hv.pk (show j + 1 ≤ R.ps.length from hj.1)
    rw [List.take_length] at this
    have := hj.2.2
    omega
  have hjn : j < pn := by rw [h.p.1]; exact hj.1
  have hb0 : 0 ≤ sumL (R.ps.take j) := by have := sumL_mono hv.pk (Nat.zero_le j); simpa [sumL] using this
  have hb1 : sumL (R.ps.take j) ≤ x := hj.2.1
  have hin := Lib.hid (show inR x 0 (sumL R.ps - 1) = true by simp [inR, h0, h1])
  have hc := Lib.hid (chk_ok hv)
  have hv' := Lib.hid hv
  have hj' := Lib.hid hj
  have hR := Lib.hid h
  clear h hv hj hln
  have hW0 : Below w.heap.size w (w.alloc (.cells #[.slice pa pn pc, .slice ca cn cc, .slice ja jn jc] 26)) := (Below.refl w.heap.size w).alloc (Nat.le_refl _) _
  go_enter Try.func21, Try.ntmps21
  go_wp2_with fail
  refine (Check_any _ _ _ _ _ _ _ _ _ R _ (hR.out.grow hW0 hW0.size)).mono ?_
  rintro e w1 ⟨rfl, hb1'⟩
  rw [hc.out]
  have hB1 := onto hW0 hb1' hW0.size
  have d0 := (bc hb1' (b := w.heap.size) (o := 0) (by simp)).trans (show _ = some (.slice pa pn pc) by simp)
  have d1 := (bc hb1' (b := w.heap.size) (o := 1) (by simp)).trans (show _ = some (.slice ca cn cc) by simp)
  have d2 := (bc hb1' (b := w.heap.size) (o := 2) (by simp)).trans (show _ = some (.slice ja jn jc) by simp)
  go_wp2_with fail
  refine (measure_any _ _ _ _ _ _ _ _ _ R _ (hR.out.grow hB1 hB1.size) hv'.out.pk (by omega)).mono ?_
  rintro e w2 ⟨g, ba, bq, rfl, hM, hg, hb2⟩
  have hM' := Lib.hid hM
  have hB2 := onto hB1 hb2 hB1.size
  clear hM
  go_wp2_with fail
  refine (mlength_any g _ _ _ _ _ _ _ _ _ _ _ R _ _ hM'.out (by omega)).mono ?_
  rintro e w3 ⟨rfl, n, rfl⟩
  go_wp2_with fail
  refine (within_any _ _ _ _).mono ?_
  rintro e w3 ⟨rfl, rfl⟩
  rw [hin.out]
  go_wp2_with fail
  refine (find_any g j x _ _ _ _ _ _ _ _ _ _ _ R _ (hM'.out.drewN n) hv'.out.pk (by omega) hj'.out).mono ?_
  rintro e w4 ⟨rfl, hb4⟩
  have hM4 := Lib.hid ((hM'.out.drewN n).grow hb4 hb4.size)
  have c3 := hM4.out.c3
  obtain ⟨b, off, hA, hbB, hcell⟩ := IS.at_ hM4.out.b (k := j) (by rw [bgk_len]; omega)
  rw [bgk_at] at hcell
  have hB4 : Below w.heap.size w w4 := onto (below_drewN hB2 n) hb4 hB2.size
  have hlt : (j : Int) < (pn : Int) + 1 := by omega
  have hge : (0 : Int) ≤ (j : Int) := by omega
  clear hM4
  subst hA
  go_wp2_with fail
  go_quiet (fail)
  go_wp2_with fail
  go_ret3
  exact ⟨rfl, below_drewN hB4 _⟩
theorem Length_in (pa : Option Addr) (pn pc : Nat) (ca : Option Addr) (cn cc : Nat) (ja : Option Addr) (jn jc : Nat) (R : Road) (w : World)
    (h : RD w w.heap.size pa pn ca cn ja jn R) (hv : OK R) :
    Calls Try.prog 50 #[.agg #[.slice pa pn pc, .slice ca cn cc, .slice ja jn jc]] w fun e w' =>
      e = .returned (.tuple #[.int .i64 (sumL R.ps), .int .i64 0]) ∧ Below w.heap.size w w' := by
  have hpn : pn ≤ 2000 := by rw [h.p.1]; exact hv.p2
  have hc := Lib.hid (chk_ok hv)
  have hv' := Lib.hid hv
  have hR := Lib.hid h
  clear h hv
  have hW0 : Below w.heap.size w (w.alloc (.cells #[.slice pa pn pc, .slice ca cn cc, .slice ja jn jc] 26)) := (Below.refl w.heap.size w).alloc (Nat.le_refl _) _
  go_enter Try.func50, Try.ntmps50
  go_wp2_with fail
  refine (Check_any _ _ _ _ _ _ _ _ _ R _ (hR.out.grow hW0 hW0.size)).mono ?_
  rintro e w1 ⟨rfl, hb1'⟩
  rw [hc.out]
  have hB1 := onto hW0 hb1' hW0.size
  have d0 := (bc hb1' (b := w.heap.size) (o := 0) (by simp)).trans (show _ = some (.slice pa pn pc) by simp)
  have d1 := (bc hb1' (b := w.heap.size) (o := 1) (by simp)).trans (show _ = some (.slice ca cn cc) by simp)
  have d2 := (bc hb1' (b := w.heap.size) (o := 2) (by simp)).trans (show _ = some (.slice ja jn jc) by simp)
  go_wp2_with fail
  refine (measure_any _ _ _ _ _ _ _ _ _ R _ (hR.out.grow hB1 hB1.size) hv'.out.pk (by omega)).mono ?_
  rintro e w2 ⟨g, ba, bq, rfl, hM, hg, hb2⟩
  have hM' := Lib.hid hM
  have hB2 := onto hB1 hb2 hB1.size
  clear hM
  go_wp2_with fail
  refine (mlength_any g _ _ _ _ _ _ _ _ _ _ _ R _ _ hM'.out (by omega)).mono ?_
  rintro e w3 ⟨rfl, n, rfl⟩
  go_wp2_with fail
  go_ret2
  exact ⟨rfl, below_drewN hB2 _⟩
theorem rFind_in (x : Int) (j : Nat) (pa : Option Addr) (pn pc : Nat) (ca : Option Addr) (cn cc : Nat) (ja : Option Addr) (jn jc : Nat) (R : Road) (w : World)
    (h : RD w w.heap.size pa pn ca cn ja jn R) (hk : ∀ p ∈ R.ps, pOk p = true) (hl : pn ≤ 100000) (hj : At R.ps x j) :
    Calls Try.prog 23 #[.agg #[.slice pa pn pc, .slice ca cn cc, .slice ja jn jc], .int .i64 x] w fun e w' =>
      e = .returned (.tuple #[.int .i64 j, .int .i64 (x - sumL (R.ps.take j))]) ∧ Below w.heap.size w w' := by
  obtain ⟨hP, hC, hJ⟩ := h
  have hlp := Lib.hid hP.1
  have hk' := Lib.hid hk
  have hjn : j < pn := by rw [hP.1]; exact hj.1
  have hiff := Lib.hid (fun i => hj.iff hk i)
  have hx1 : x ≤ 500000000 := by
    have h1 := sumL_bd (R.ps.take (j + 1)) (fun p hp => hk p (List.mem_of_mem_take hp))
    have h2 : (R.ps.take (j + 1)).length ≤ j + 1 := List.length_take_le ..
    have := hj.2.2
    omega
  have hbx := Lib.hid (fun k (hkj : k ≤ j) => Int.le_trans (sumL_mono hk hkj) hj.2.1)
  have hb0 := Lib.hid (fun k => (by simpa [sumL] using sumL_mono hk (Nat.zero_le k) : 0 ≤ sumL (R.ps.take k)))
  clear hk hj
  have hW0 : Below w.heap.size w (w.alloc (.cells #[.slice pa pn pc, .slice ca cn cc, .slice ja jn jc] 26)) := (Below.refl w.heap.size w).alloc (Nat.le_refl _) _
  have hw := hP.grow hW0 (B' := w.heap.size + 1) (by omega)
  go_enter Try.func23, Try.ntmps23
  go_wp2_with fail
  obtain ⟨wr, hwr⟩ : ∃ wr, wr = w.alloc (.cells #[.slice pa pn pc, .slice ca cn cc, .slice ja jn jc] 26) := ⟨_, rfl⟩
  have d0 : wr.cell? ⟨w.heap.size, 0, none⟩ = some (.slice pa pn pc) := by rw [hwr]; simp
  rw [← hwr] at hW0 hw ⊢
  clear hwr
  go_loop [1, 6] (fun y i => ∃ k : Nat, k ≤ j ∧ i = .int .i64 k ∧ y = .int .i64 (x - sumL (R.ps.take k)))
    (fun _ i => j - (intOf i).toNat)
  case atStart => exact ⟨0, Nat.zero_le _, rfl, by simp [sumL]⟩
  case round =>
    obtain ⟨k, hkn, rfl, rfl⟩ := hrel
    have hb1 := hbx.out k hkn
    have hb2 := hb0.out k
    have hlt : k < pn := by omega
    have hkl : k < R.ps.length := by rw [← hlp.out]; exact hlt
    obtain ⟨b, off, hA, hbB, c0, c1, c2, c3, c4⟩ := PS.at_ hw (k := k) hkl
    have hst0 := sumL_take R.ps k hkl
    have hpl := pOk_len (hk'.out _ (List.getElem_mem hkl))
    have hi := hiff.out k
    rw [hst0] at hi
    have hst := Lib.hid hst0
    generalize R.ps[k]'hkl = p at c0 c1 c2 c3 c4 hst hpl hi
    have hp1 := hpl.1
    have hp2 := hpl.2
    clear hw hkl hpl c1 c2 c3 c4 hst0
    subst hA
    by_cases hkj : k < j
    · have hge : p.len ≤ x - sumL (R.ps.take k) := by
        have : ¬ j ≤ k := by omega
        rw [← hi] at this
        omega
      clear hi
      go_wp2
      go_round
      case rel => exact ⟨k + 1, by omega, by go_num, by rw [hst.out]; go_num⟩
      case measure => simp [intOf]; omega
    · obtain rfl : k = j := by omega
      have hlt2 : x - sumL (R.ps.take k) < p.len := by have := hi.2 (Nat.le_refl _); omega
      clear hi
      go_wp2
      go_ret2
      exact ⟨rfl, hW0⟩
theorem rAt_in (x : Int) (j : Nat) (pa : Option Addr) (pn pc : Nat) (ca : Option Addr) (cn cc : Nat) (ja : Option Addr) (jn jc : Nat) (R : Road) (w : World)
    (h : RD w w.heap.size pa pn ca cn ja jn R) (hk : ∀ p ∈ R.ps, pOk p = true) (hl : pn ≤ 100000) (hj : At R.ps x j) (p : Piece) (hp : R.ps[j]? = some p) :
    Calls Try.prog 30 #[.agg #[.slice pa pn pc, .slice ca cn cc, .slice ja jn jc], .int .i64 x] w fun e w' =>
      e = .returned (.agg #[.int .i64 p.len, .int .i64 p.turn, .int .i64 p.rad, .int .i64 p.wid, .int .i64 p.sur]) ∧ Below w.heap.size w w' := by
  have hjn : j < pn := by rw [h.p.1]; exact hj.1
  have hjl : j < R.ps.length := hj.1
  have hW0 : Below w.heap.size w ((w.alloc (.cells #[.slice pa pn pc, .slice ca cn cc, .slice ja jn jc] 26)).alloc (.cells #[.int .i64 0, .int .i64 0, .int .i64 0, .int .i64 0, .int .i64 0] 52)) := ((Below.refl w.heap.size w).alloc (Nat.le_refl _) _).alloc (by simp) _
  have hcall := Lib.hid (rFind_in x j pa pn pc ca cn cc ja jn jc R _ (h.grow hW0 hW0.size) hk hl hj)
  have hP := Lib.hid h.p
  have hpe : R.ps[j] = p := by rw [List.getElem?_eq_getElem hjl] at hp; exact Option.some.inj hp
  have HPE := Lib.hid hpe
  clear h hj hk hp hpe
  go_enter Try.func30, Try.ntmps30
  go_wp2_with fail
  refine hcall.out.mono ?_
  rintro e w1 ⟨rfl, hb1⟩
  have hB1 := onto hW0 hb1 hW0.size
  have hw := hP.out.grow hB1 hB1.size
  have hsz : w.heap.size + 1 < w1.heap.size := by have := hb1.size; simp at this; omega
  have d0 := (bc hb1 (b := w.heap.size) (o := 0) (by simp; omega)).trans (show _ = some (.slice pa pn pc) by go_simp)
  have bk : BK w1 (w.heap.size + 1) 52 #[.int .i64 0, .int .i64 0, .int .i64 0, .int .i64 0, .int .i64 0] := by
    have := BK.new (w.alloc (.cells #[.slice pa pn pc, .slice ca cn cc, .slice ja jn jc] 26)) 52 #[.int .i64 0, .int .i64 0, .int .i64 0, .int .i64 0, .int .i64 0]
    rw [World.size_alloc] at this
    exact this.below hb1 (by simp)
  have q0 := bk.cell 0
  have q1 := bk.cell 1
  have q2 := bk.cell 2
  have q3 := bk.cell 3
  have q4 := bk.cell 4
  have r0 := bk.frozen 0
  have r1 := bk.frozen 1
  have r2 := bk.frozen 2
  have r3 := bk.frozen 3
  have r4 := bk.frozen 4
  have z := ((((bk.set_ 0 (.int .i64 p.len)).set_ 1 (.int .i64 p.turn)).set_ 2 (.int .i64 p.rad)).set_ 3 (.int .i64 p.wid)).set_ 4 (.int .i64 p.sur)
  have Z := Lib.hid z
  clear z bk
  obtain ⟨b, off, hA, hbB, c0, c1, c2, c3, c4⟩ := PS.at_ hw (k := j) hjl
  rw [HPE.out] at c0 c1 c2 c3 c4
  clear hw hP HPE
  subst hA
  go_wp2_with fail
  refine bodyPost_ret (v := .agg #[.int .i64 p.len, .int .i64 p.turn, .int .i64 p.rad, .int .i64 p.wid, .int .i64 p.sur]) ?_ rfl ⟨rfl, ?_⟩
  · have z0 := Z.out.cell 0
    have z1 := Z.out.cell 1
    have z2 := Z.out.cell 2
    have z3 := Z.out.cell 3
    have z4 := Z.out.cell 4
    simp only [List.setIfInBounds_toArray, List.set_cons_zero, List.set_cons_succ, List.getElem?_toArray, List.getElem?_cons_zero, List.getElem?_cons_succ] at z0 z1 z2 z3 z4
    simp [results, Try.results30, go_sem, z0, z1, z2, z3, z4]
  · exact ((((hB1.setCell (by simp) _).setCell (by simp) _).setCell (by simp) _).setCell (by simp) _).setCell (by simp) _
end Go.Proofs.Ytomloklckpcaiaa
