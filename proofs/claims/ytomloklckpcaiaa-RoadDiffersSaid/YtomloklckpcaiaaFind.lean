/- The piece at a place: the binary search of the road package, and the reference's walk along the pieces. -/
import Derived.Test.YtomloklckpcaiaaMeasure
import Derived.Test.YtomloklckpcaiaaValid
namespace Go.Proofs.Ytomloklckpcaiaa
open Go.RowKit Go.Proofs

/-- Piece i lies at the place x. -/
def At (ps : List Piece) (x : Int) (i : Nat) : Prop := i < ps.length ∧ sumL (ps.take i) ≤ x ∧ x < sumL (ps.take (i + 1))
theorem sumL_mono {ps : List Piece} (h : ∀ p ∈ ps, pOk p = true) {i j : Nat} (hij : i ≤ j) : sumL (ps.take i) ≤ sumL (ps.take j) := by
  obtain ⟨d, rfl⟩ := Nat.exists_eq_add_of_le hij
  clear hij
  induction d with
  | zero => exact Int.le_refl _
  | succ d ih =>
    refine Int.le_trans ih ?_
    show sumL (ps.take (i + d)) ≤ sumL (ps.take (i + d + 1))
    rcases Nat.lt_or_ge (i + d) ps.length with hl | hl
    · rw [sumL_take ps _ hl]
      have := (pOk_len (h _ (List.getElem_mem hl))).1
      omega
    · rw [List.take_of_length_le hl, List.take_of_length_le (by omega)]
      exact Int.le_refl _
/-- Whether the place lies before the end of piece j, once piece i lies at it. -/
theorem At.iff {ps : List Piece} (h : ∀ p ∈ ps, pOk p = true) {x : Int} {i : Nat} (ha : At ps x i) (j : Nat) : x < sumL (ps.take (j + 1)) ↔ i ≤ j := by
  obtain ⟨_, h1, h2⟩ := ha
  constructor
  · intro hx
    rcases Nat.lt_or_ge j i with hlt | hge
    · have := sumL_mono h (show j + 1 ≤ i from hlt); omega
    · exact hge
  · intro hij
    have := sumL_mono h (show i + 1 ≤ j + 1 by omega); omega
theorem At.exists_ {ps : List Piece} (_h : ∀ p ∈ ps, pOk p = true) {x : Int} (h0 : 0 ≤ x) (h1 : x < sumL ps) : ∃ i, At ps x i := by
  have key : ∀ k, k ≤ ps.length → x < sumL (ps.take k) → ∃ i, At ps x i := by
    intro k
    induction k with
    | zero => intro _ hx; simp [sumL] at hx; omega
    | succ k ih =>
      intro hk hx
      by_cases hy : x < sumL (ps.take k)
      · exact ih (by omega) hy
      · exact ⟨k, by omega, by omega, hx⟩
  exact key ps.length (Nat.le_refl _) (by rw [List.take_length]; exact h1)

theorem find1_any (g bm bp i : Nat) (x : Int) (pa : Option Addr) (pn pc : Nat) (ca : Option Addr) (cn cc : Nat) (ja : Option Addr) (jn jc : Nat) (ba : Option Addr) (bq : Nat) (R : Road) (w : World) (B : Nat)
    (h : MS w B g pa pn pc ca cn cc ja jn jc ba bq R) (hl : pn ≤ 100000) (hi : i < pn) (hm : w.cell? ⟨bm, 0, none⟩ = some (.pointer (some ⟨g, 0, none⟩))) (hp : w.cell? ⟨bp, 0, none⟩ = some (.int .i64 x)) :
    Calls Try.prog 89 #[.int .i64 i, .pointer (some ⟨bm, 0, none⟩), .pointer (some ⟨bp, 0, none⟩)] w fun e w' => e = .returned (.bool (decide (x < sumL (R.ps.take (i + 1))))) ∧ ∃ n, w' = w.drewN n := by
  have h3 := h.c3
  obtain ⟨b, off, hA, hbB, hc⟩ := IS.at_ h.b (k := i + 1) (by rw [bgk_len]; omega)
  rw [bgk_at] at hc
  have hw : IntKind.i64.wrap ((i : Int) + 1) = (i : Int) + 1 := IntWalk.i64_in _ (by omega)
  have hlt : (i : Int) + 1 < (pn : Int) + 1 := by omega
  have hge : (0 : Int) ≤ (i : Int) + 1 := by omega
  have hn : ((i : Int) + 1).toNat = i + 1 := by omega
  clear h
  subst hA
  go_enter Try.func89, Try.ntmps89
  go_wp2
  go_quiet (fail)
  go_wp2
  go_ret
  exact ⟨rfl, _, rfl⟩

theorem first_any (g bm bp j : Nat) (x : Int) (pa : Option Addr) (pn pc : Nat) (ca : Option Addr) (cn cc : Nat) (ja : Option Addr) (jn jc : Nat) (ba : Option Addr) (bq : Nat) (R : Road) (w : World) (B : Nat)
    (h : MS w B g pa pn pc ca cn cc ja jn jc ba bq R) (hk : ∀ p ∈ R.ps, pOk p = true) (hl : pn ≤ 100000) (hj : At R.ps x j) (hm : w.cell? ⟨bm, 0, none⟩ = some (.pointer (some ⟨g, 0, none⟩))) (hp : w.cell? ⟨bp, 0, none⟩ = some (.int .i64 x)) :
    Calls Try.prog 88 #[.int .i64 pn, .func (.func 89) #[] #[.pointer (some ⟨bm, 0, none⟩), .pointer (some ⟨bp, 0, none⟩)]] w fun e w' => e = .returned (.int .i64 j) ∧ ∃ n, w' = w.drewN n := by
  have hiff := Lib.hid (fun i => hj.iff hk i)
  have hjn : j < pn := by rw [h.r.p.1]; exact hj.1
  clear hj hk
  have hM := Lib.hid h
  clear h
  go_enter Try.func88, Try.ntmps88
  go_wp2
  go_loopw [5, 6] (fun lo hi wr => ∃ (a b : Int), lo = .int .i64 a ∧ hi = .int .i64 b ∧ -1 ≤ a ∧ a < j ∧ (j : Int) ≤ b ∧ b ≤ pn ∧ ∃ n, wr = w.drewN n)
    (fun lo hi _ => (intOf hi - intOf lo).toNat)
  case atStart => exact ⟨-1, pn, rfl, rfl, by omega, by omega, by omega, by omega, 0, rfl⟩
  case round =>
    obtain ⟨a, b, rfl, rfl, ha1, ha2, hb1, hb2, n, rfl⟩ := hrel
    by_cases hlt : 1 < b - a
    · obtain ⟨m, hm'⟩ : ∃ m : Nat, (m : Int) = (a + b) / 2 := ⟨((a + b) / 2).toNat, by omega⟩
      have hmn : m < pn := by omega
      have hma : a < m := by omega
      have hmb : (m : Int) < b := by omega
      have hbm := (find1_any g bm bp m x pa pn pc ca cn cc ja jn jc ba bq R (w.drewN n) B (hM.out.drewN n) hl hmn hm hp)
      have hbm' := Lib.hid hbm
      have hmm := Lib.hid hm'
      clear hbm hm'
      by_cases hle : j ≤ m
      · have hd := decide_eq_true ((hiff.out m).2 hle)
        have hd' := Lib.hid hd
        clear hd
        go_wp2_with fail
        rw [← hmm.out]
        refine hbm'.out.mono ?_
        rintro e w' ⟨rfl, n', rfl⟩
        rw [hd'.out]
        go_wp2_with fail
        go_roundw
        case rel => exact ⟨a, m, rfl, rfl, by omega, by omega, by omega, by omega, _, rfl⟩
        case measure => simp [intOf]; omega
      · have hd' : Hid (decide (x < sumL (R.ps.take (m + 1))) = false) := decide_eq_false (fun q => hle ((hiff.out m).1 q))
        go_wp2_with fail
        rw [← hmm.out]
        refine hbm'.out.mono ?_
        rintro e w' ⟨rfl, n', rfl⟩
        rw [hd'.out]
        go_wp2_with fail
        go_roundw
        case rel => exact ⟨m, b, rfl, rfl, by omega, by omega, by omega, by omega, _, rfl⟩
        case measure => simp [intOf]; omega
    · obtain rfl : b = j := by omega
      go_wp2_with fail
      go_ret
      exact ⟨rfl, _, rfl⟩

/-- (m *measured) find: the index of the piece at the place. -/
theorem find_any (g j : Nat) (x : Int) (pa : Option Addr) (pn pc : Nat) (ca : Option Addr) (cn cc : Nat) (ja : Option Addr) (jn jc : Nat) (ba : Option Addr) (bq : Nat) (R : Road) (w : World)
    (h : MS w w.heap.size g pa pn pc ca cn cc ja jn jc ba bq R) (hk : ∀ p ∈ R.ps, pOk p = true) (hl : pn ≤ 100000) (hj : At R.ps x j) :
    Calls Try.prog 58 #[.pointer (some ⟨g, 0, none⟩), .int .i64 x] w fun e w' => e = .returned (.int .i64 j) ∧ Below w.heap.size w w' := by
  have h0 := h.c0
  have hg := h.lt
  have hM := Lib.hid h
  have hj' := Lib.hid hj
  have hk' := Lib.hid hk
  clear h hj hk
  have hW : Below w.heap.size w ((w.alloc (.cells #[.pointer (some ⟨g, 0, none⟩)] 90)).alloc (.cells #[.int .i64 x] 3)) := ((Below.refl _ w).alloc (Nat.le_refl _) _).alloc (by simp) _
  go_enter Try.func58, Try.ntmps58
  go_wp2_with fail
  refine (first_any g w.heap.size (w.heap.size + 1) j x pa pn pc ca cn cc ja jn jc ba bq R _ w.heap.size (hM.out.grow hW (Nat.le_refl _)) hk'.out hl hj'.out ?_ ?_).mono ?_
  · go_simp
  · go_simp
  rintro e w' ⟨rfl, n, rfl⟩
  go_wp2_with fail
  go_ret
  exact ⟨rfl, below_drewN hW n⟩
end Go.Proofs.Ytomloklckpcaiaa
