/- The pace laws' test of calls: few. -/
import Derived.Test.YtijcbfhlhgjedaaDoorCAll
namespace Go.Proofs.YtijcbfhlhgjedaaDoor
open Go.RowKit Go.Shelf Go.Sort Go.Proofs

theorem some_any (ka : Option Addr) (kn kc : Nat) (w : World) :
    Calls Tryd.prog 30 #[.slice ka kn kc] w fun e w' => e = .returned (.bool (decide (kn ≤ 8))) ∧ w = w' := by
  by_cases h : kn ≤ 8
  · have g : decide ((kn : Int) ≤ 8) = true := decide_eq_true (by omega)
    rw [decide_eq_true h]
    go_enter Tryd.func30, Tryd.ntmps30
    go_wp2_with fail
    go_ret
    exact ⟨rfl, rfl⟩
  · have g : decide ((kn : Int) ≤ 8) = false := decide_eq_false (by omega)
    rw [decide_eq_false h]
    go_enter Tryd.func30, Tryd.ntmps30
    go_wp2_with fail
    go_ret
    exact ⟨rfl, rfl⟩
end Go.Proofs.YtijcbfhlhgjedaaDoor
