/- append of one element, inside a fence. Plain theorem over any program. -/
import Derived.Test.YtomloklckpcaiaaGrouped
import Derived.Maps.OwnIn
namespace Go.Proofs.Ytomloklckpcaiaa
open Go.RowKit Go.Proofs

theorem wpListIn_app {F : Fence} {nF : Nat} {α : Type} {P : Program} {W : World} {ops : Array Oper} {rest : List Oper} {o : Oper} {a : Act} {Q : Exit → Act → World → Prop} (hgd : o.guard = none) (s x : Operand) (t : TypeId)
    (ho : o.op = .call { callee := .builtin .append, args := #[s, x], argTypes := #[t, t] })
    (base : Nat) (e : TypeId) (z : Value) (sz bytes : Nat) (ht : P.underlying t = some (.slice e)) (hi : (P.info? e).map (fun i => (i.zero, i.size, i.bytes)) = some (some z, sz, bytes))
    (hzs : z.cells.size = sz) (hsz : 0 < sz) (f : α → List Value) (A : Option Addr) (n c : Nat) (xs : List α) (hs : a.eval s = .slice A n c) (hown : OW f sz e base W A n c xs)
    (y : α) (cs : Array Value) (hcs : cs.toList = f y) (hcl : (f y).length = sz) (ty : TypeId) (N : Nat) (hx : a.eval x = .slice (some ⟨N, 0, none⟩) 1 1) (hN : BK W N ty cs) (h1 : ∀ u ∈ f y, u.oneCell' = true)
    (hbytes : (n + 1) * bytes ≤ 140737488355328) (hby : 1 ≤ bytes) (hbase : base ≤ W.heap.size)
    (h : ∀ g c' w', App1 f sz e base W A n c xs y g c' w' → wpListIn F nF P ops Q rest (a.put o.dst (.slice (some ⟨g, 0, none⟩) (n + 1) c')) w') :
    wpListIn F nF P ops Q (o :: rest) a W := by
  obtain ⟨i, hi', hz, hsize, hbytes'⟩ := info_parts hi
  have h63 : n + 1 ≤ maxLen := by
    unfold maxLen
    have : n + 1 ≤ (n + 1) * bytes := Nat.le_mul_of_pos_right _ (by omega)
    omega
  refine wpListIn_plain hgd fun K hK => ?_
  obtain ⟨g, cap, w', hr, h2, h3, h4, _⟩ := run_append_lies (P := P) W t o.type base e i z sz bytes ht hi' hz hsize hbytes' hzs hsz _ n (xs.flatMap f) hown.1 ⟨N, 0, none⟩ 1 1 (f y) (by rw [hcl, Nat.one_mul]) (news1 hN hcs) h1 (by omega) h63 hbytes hbase W.heap.size rfl
  unfold Oper.wpIn
  refine ⟨by simp [Oper.about, ho, resolve, Target.leads, Sem.run_pure], ?_⟩
  rw [Oper.semAt_plain F _ _ (by rw [ho]; intro c hc'; cases hc')]
  simp [execOp, ho, resolve, invoke, builtin, hs, hx, hr, Result.andThen]
  exact hK _ _ (h g cap w' (app1_of hown hbase h2 h3 h4))
end Go.Proofs.Ytomloklckpcaiaa
