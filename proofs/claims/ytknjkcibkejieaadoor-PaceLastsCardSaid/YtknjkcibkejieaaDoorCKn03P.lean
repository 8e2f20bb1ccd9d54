/- The chapter's examples of plans: plain numbers. -/
import Derived.Test.YtknjkcibkejieaaDoorCPlan
import Derived.Test.YtknjkcibkejieaaDoorCPlanM
import Derived.Test.YtknjkcibkejieaaDoorCBetw
namespace Go.Proofs.YtknjkcibkejieaaDoor
open Go.RowKit Go.Shelf Go.Sort Go.Proofs

theorem tQ_part (S : Spd) (p : Piece) (k : Nat) (h : (k : Int) ≤ p.len) : tQ S [p] k = k * mQ S p ∧ tSl S [p] k = k * mSl S p := by
  unfold tQ tSl
  rw [units_one, List.take_replicate, Nat.min_eq_left (by omega), List.map_replicate, List.map_replicate]
  have key : ∀ (n : Nat) (a : Int), (List.replicate n a).sum = n * a := by
    intro n a
    induction n with
    | zero => simp
    | succ n ih => rw [List.replicate_succ, List.sum_cons, ih, Int.natCast_add, Int.add_mul]; simp; omega
  rw [key, key, mQ_one, mSl_one]
  exact ⟨rfl, rfl⟩
theorem kQ (k : Nat) (h : k ≤ 1000) : tQ kS kR.ps k = 50000 * k ∧ tSl kS kR.ps k = 100000 * k := by
  have := tQ_part kS ⟨1000, 0, 0, 50, 1⟩ k (by show (k : Int) ≤ 1000; omega)
  have e1 : mQ kS ⟨1000, 0, 0, 50, 1⟩ = 50000 := by decide
  have e2 : mSl kS ⟨1000, 0, 0, 50, 1⟩ = 100000 := by decide
  rw [e1, e2] at this
  exact ⟨by show tQ kS [_] k = _; rw [this.1]; omega, by show tSl kS [_] k = _; rw [this.2]; omega⟩
theorem kq (k : Nat) (h : k ≤ 1000) : qS kS kR (k : Int) = 50000 * k := (kQ k h).1
theorem ks (k : Nat) (h : k ≤ 1000) : sS kS kR (k : Int) = 100000 * k := (kQ k h).2
def kC1 : CallR := ⟨500, 2000000, 1000000, 20000000, 0⟩
def kC2 : CallR := ⟨600, 2000000, 1000000, 20000000, 0⟩
def kC3 : CallR := ⟨10, 1000000, 0, 0, 0⟩
theorem kL (room : Int) (c : CallR) (cs : List CallR) (n k : Nat) (hr : roomM (qS kS kR) (c :: cs) = room) (hp : c.place = n) (hn : n ≤ 1000) (hk : k ≤ n) (h1 : 50000 * (k : Int) ≤ room) (h2 : room < 50000 * ((k : Int) + 1)) : trigM (qS kS kR) c cs = k := by
  unfold trigM
  rw [hr, hp, Int.toNat_natCast]
  refine lastN_eq hk ?_ (fun j hj hjn => ?_)
  · rw [kq k (by omega)]; simpa using h1
  · rw [kq j (by omega)]; simp; omega
theorem kR2 : rvs (qS kS kR) 0 [kC2] = [27000000] := by
  have e : qS kS kR 600 = 30000000 := (kq 600 (by omega)).trans (by decide)
  simp only [rvs, kC2, e]; rfl
theorem kR1 : rvs (qS kS kR) 0 [kC1, kC2] = [22000000, 25000000] := by
  have e : qS kS kR 600 = 30000000 := (kq 600 (by omega)).trans (by decide)
  have e1 : qS kS kR 500 = 25000000 := (kq 500 (by omega)).trans (by decide)
  simp only [rvs, kC1, kC2, e, e1]; rfl
theorem kR3 : rvs (qS kS kR) 0 [kC3] = [-500000] := by
  have e : qS kS kR 10 = 500000 := (kq 10 (by omega)).trans (by decide)
  simp only [rvs, kC3, e]; rfl
theorem kPlan1 : planR (qS kS kR) (sS kS kR) [kC1, kC2] = ([440, 540], ⟨0, 0, false⟩, 0) := by
  have l1 : lateM (qS kS kR) [kC1, kC2] = none := by unfold lateM; rw [kR1]; decide
  have l2 : lateM (qS kS kR) [kC2] = none := by unfold lateM; rw [kR2]; decide
  have r1 : roomM (qS kS kR) [kC1, kC2] = 22000000 := by unfold roomM; rw [kR1]; decide
  have r2 : roomM (qS kS kR) [kC2] = 27000000 := by unfold roomM; rw [kR2]; decide
  have t1 : trigM (qS kS kR) kC1 [kC2] = 440 := kL 22000000 kC1 [kC2] 500 440 r1 rfl (by omega) (by omega) (by omega) (by omega)
  have t2 : trigM (qS kS kR) kC2 [] = 540 := kL 27000000 kC2 [] 600 540 r2 rfl (by omega) (by omega) (by omega) (by omega)
  have s1 : sS kS kR 440 = 44000000 := (ks 440 (by omega)).trans (by decide)
  have s2 : sS kS kR 500 = 50000000 := (ks 500 (by omega)).trans (by decide)
  have s3 : sS kS kR 540 = 54000000 := (ks 540 (by omega)).trans (by decide)
  have s4 : sS kS kR 600 = 60000000 := (ks 600 (by omega)).trans (by decide)
  have a2 : planA (qS kS kR) (sS kS kR) 1 [kC2] = .inr ([540], none) := by
    simp only [planA, l2, t2]
    rw [if_neg (by rw [show ((540 : Nat) : Int) = 540 from rfl, show kC2.place = 600 from rfl, s3, s4]; decide)]
    rfl
  have a1 : planA (qS kS kR) (sS kS kR) 0 [kC1, kC2] = .inr ([440, 540], none) := by
    rw [planA]
    simp only [l1, t1, a2]
    rw [if_neg (by rw [show ((440 : Nat) : Int) = 440 from rfl, show kC1.place = 500 from rfl, s1, s2]; decide)]
    rfl
  unfold planR
  rw [a1]
theorem kPlan2 : planR (qS kS kR) (sS kS kR) [kC3] = ([], ⟨0, 0, false⟩, 5) := by
  have l3 : lateM (qS kS kR) [kC3] = some 0 := by unfold lateM; rw [kR3]; decide
  have a : planA (qS kS kR) (sS kS kR) 0 [kC3] = .inl (0, 0) := by simp only [planA, l3]
  unfold planR
  rw [a]
  rfl
theorem kCok1 : COK (sumL kR.ps) [kC1, kC2] := (cB_iff _ _).1 (by decide)
theorem kCok2 : COK (sumL kR.ps) [kC3] := (cB_iff _ _).1 (by decide)
end Go.Proofs.YtknjkcibkejieaaDoor
