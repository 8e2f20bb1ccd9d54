/- SameCorners: two lists of corners that are one list. -/
import Derived.Test.YtomloklckpcaiaaCornM
namespace Go.Proofs.Ytomloklckpcaiaa
open Go.RowKit Go.Shelf Go.Sort Go.Proofs

def kV (c : Corner) : Value := .agg #[.int .i64 c.fr, .int .i64 c.til, .int .i64 c.turn, .int .i64 c.rad, .int .i64 c.inn, .int .i64 c.out, .int .i64 c.ang]
theorem KS.at_ {w : World} {B n : Nat} {A : Option Addr} {xs : List Corner} (h : SL kC 7 w B A n xs) {k : Nat} (hk : k < xs.length) : ∃ b off, A = some ⟨b, off, none⟩ ∧ b < B ∧
    w.cell? ⟨b, off + k * 7, none⟩ = some (.int .i64 xs[k].fr) ∧ w.cell? ⟨b, off + k * 7 + 1, none⟩ = some (.int .i64 xs[k].til) ∧ w.cell? ⟨b, off + k * 7 + 2, none⟩ = some (.int .i64 xs[k].turn) ∧
    w.cell? ⟨b, off + k * 7 + 3, none⟩ = some (.int .i64 xs[k].rad) ∧ w.cell? ⟨b, off + k * 7 + 4, none⟩ = some (.int .i64 xs[k].inn) ∧ w.cell? ⟨b, off + k * 7 + 5, none⟩ = some (.int .i64 xs[k].out) ∧ w.cell? ⟨b, off + k * 7 + 6, none⟩ = some (.int .i64 xs[k].ang) := by
  obtain ⟨b, off, e, hb, hc⟩ := h.at_ hk
  exact ⟨b, off, e, hb, hc 0 _ rfl, hc 1 _ rfl, hc 2 _ rfl, hc 3 _ rfl, hc 4 _ rfl, hc 5 _ rfl, hc 6 _ rfl⟩

set_option maxRecDepth 100000 in
set_option maxHeartbeats 1000000 in
/-- Both lists the same: true. -/
theorem same_true (A : Option Addr) (n c : Nat) (A' : Option Addr) (n' c' : Nat) (xs : List Corner) (w : World) (h : SL kC 7 w w.heap.size A n xs) (h' : SL kC 7 w w.heap.size A' n' xs) (hl : xs.length ≤ 100000) :
    Calls Try.prog 28 #[.slice A n c, .slice A' n' c'] w fun e w' => e = .returned (.bool true) ∧ Below w.heap.size w w' := by
  have e1 := h.1
  have e2 := h'.1
  have hH := Lib.hid h
  have hH' := Lib.hid h'
  obtain rfl : n = n' := by omega
  have hn : n ≤ 100000 := by omega
  have HN := Lib.hid e1
  clear e1 e2 h h' hl
  go_enter Try.func28, Try.ntmps28
  go_wp2_with fail
  go_loopw [5] (fun i wr => ∃ k : Nat, k ≤ n ∧ i = .int .i64 k ∧ Below w.heap.size w wr)
    (fun i _ => n - (intOf i).toNat)
  case atStart => exact ⟨0, Nat.zero_le _, rfl, Below.refl _ _⟩
  case round =>
    obtain ⟨k, hk, rfl, hb⟩ := hrel
    have hsz := hb.size
    by_cases hlt : k < n
    · have hkl : k < xs.length := by rw [← HN.out]; exact hlt
      obtain ⟨b, off, hA, hbB, c0, c1, c2, c3, c4, c5, c6⟩ := KS.at_ (hH.out.grow hb hsz) (k := k) hkl
      obtain ⟨b', off', hA', hbB', d0, d1, d2, d3, d4, d5, d6⟩ := KS.at_ (hH'.out.grow hb hsz) (k := k) hkl
      generalize xs[k]'hkl = x at c0 c1 c2 c3 c4 c5 c6 d0 d1 d2 d3 d4 d5 d6
      clear hkl
      have hi1 : (0 : Int) ≤ (k : Int) := by omega
      have hi2 : (k : Int) < (n : Int) := by omega
      subst hA
      subst hA'
      go_wp2_with fail
      go_quiet (fail)
      go_wp2_with fail
      go_roundw
      case rel => exact ⟨k + 1, by omega, by go_num, below_drewN hb _⟩
      case measure => simp [intOf]; omega
    · obtain rfl : k = n := by omega
      go_wp2_with fail
      go_ret
      exact ⟨rfl, hb⟩
end Go.Proofs.Ytomloklckpcaiaa
