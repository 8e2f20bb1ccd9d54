/- The range over a road's pieces: what the iterator of a measured road hands to a loop's body, for every body that keeps old memory. -/
import Derived.Test.YtijcbfhlhgjedaaGreatDoorPCBBase
import Derived.Test.YtijcbfhlhgjedaaGreatDoorPCBRoad
import Derived.Test.YtijcbfhlhgjedaaGreatDoorPCBLeaf
import Derived.Test.YtijcbfhlhgjedaaGreatDoorPCBCheck
import Derived.Test.YtijcbfhlhgjedaaGreatDoorPCBValid
import Derived.Test.YtijcbfhlhgjedaaGreatDoorPCBFind
import Derived.Test.YtijcbfhlhgjedaaGreatDoorPCBReg
import Derived.Test.YtijcbfhlhgjedaaGreatDoorPCBGrouped
import Derived.Test.YtijcbfhlhgjedaaGreatDoorPCBPG
import Derived.Test.YtijcbfhlhgjedaaGreatDoorPCBStr
import Derived.Test.YtijcbfhlhgjedaaGreatDoorPCBCmp
import Derived.Test.YtijcbfhlhgjedaaGreatDoorPCBOpen
import Derived.Test.YtijcbfhlhgjedaaGreatDoorPCBReg7
import Derived.Test.YtijcbfhlhgjedaaGreatDoorPCPRow
import Derived.Test.YtijcbfhlhgjedaaGreatDoorPCMtr
import Derived.Test.YtijcbfhlhgjedaaGreatDoorPCReg8
import Derived.Test.YtijcbfhlhgjedaaGreatDoorPCSpCk
import Derived.Test.YtijcbfhlhgjedaaGreatDoorPCPlanM
import Derived.Test.YtijcbfhlhgjedaaGreatDoorPCLast
import Derived.Test.YtijcbfhlhgjedaaGreatDoorPCBeg
import Derived.Test.YtijcbfhlhgjedaaGreatDoorPCRoom
import Derived.Test.YtijcbfhlhgjedaaGreatDoorPCCallsB
import Derived.Test.YtijcbfhlhgjedaaGreatDoorPCPlan
import Derived.Test.YtijcbfhlhgjedaaGreatDoorPCBetw
import Derived.Test.YtijcbfhlhgjedaaGreatDoorPCKn03P
import Derived.Test.YtijcbfhlhgjedaaGreatDoorPCRef3
import Derived.RangeFuncNested
import Derived.RangeFuncBound
import Derived.RangeFuncCalls
import Derived.RangeFuncLeaves
import Derived.Shelf.Abstract
import Derived.Shelf.RegionOpen
import Derived.OwnWalkIn
import Derived.TacticsInMore
import Derived.LoopNIn
import Derived.LoopIn
import Derived.BigRegionIn
import Derived.Test.YtijcbfhlhgjedaaGreatDoorProg
import Derived.WalkKit
import Derived.WalkSpells
import Derived.Deep.Draws
import Derived.Lib.Hide
import Derived.Maps.AppendAt
import Derived.WalkLawsBesides
import Derived.Deep.QuietTactic
import Derived.BigQuiet
import Derived.BigGuardPart
import Derived.Deep.RegionHeld3
import Derived.StillTail
import Derived.OrdersIn
import Derived.TacticsIn
import Derived.Lib.QuietBelow
import Derived.Deep.CutBlock
import Derived.Deep.AppendLies
import Derived.Deep.RegionLaw
import Derived.Maps.OwnIn
import Derived.Sort.CutIn
namespace Go.Proofs.YtijcbfhlhgjedaaGreatDoor
open Go.RowKit Go.Shelf Go.Proofs

attribute [local go_sem] Oper.semAt_some

end Go.Proofs.YtijcbfhlhgjedaaGreatDoor

/- The piece at a place: the binary search of the road package, and the reference's walk along the pieces. -/
namespace Go.Proofs.YtijcbfhlhgjedaaGreatDoor
open Go.RowKit Go.Proofs

/-- Piece i lies at the place x. -/
def At (ps : List Piece) (x : Int) (i : Nat) : Prop := i < ps.length ∧ sumL (ps.take i) ≤ x ∧ x < sumL (ps.take (i + 1))
end Go.Proofs.YtijcbfhlhgjedaaGreatDoor

/- road.Find and road.Length on a road that is as defined; Find and At of the reference. -/
namespace Go.Proofs.YtijcbfhlhgjedaaGreatDoor
open Go.RowKit Go.Proofs

end Go.Proofs.YtijcbfhlhgjedaaGreatDoor

/- A region that draws its order: its first operations only read or make quiet calls, in any order; the rest comes last, in one forced order. One walk of the text's order serves every order. Plain theorems over any program, outside a fence and inside a loop's round. -/
namespace Go.Proofs.YtijcbfhlhgjedaaGreatDoor
open Go.RowKit Go.Sort

section
variable {P : Program} {ops : Array Oper} {md : Region.Mode} {C : World → Prop}

/-! ### Inside a round of a loop over an iterator (the wide fence) -/
variable {lp m : Nat}
end
section
variable {P : Program}
end
end Go.Proofs.YtijcbfhlhgjedaaGreatDoor

/- A drawn region with a new block among its operations: quiet operations 0 .. n - 1, an allocation at n that may come up at any time, and a tail in one forced order. One walk serves every order. Plain theorems over any program. -/
namespace Go.Proofs.YtijcbfhlhgjedaaGreatDoor
open Go.RowKit Go.Sort

section
variable {P : Program} {ops : Array Oper} {md : Region.Mode} {C : World → Prop}
variable {n : Nat} {d : Tmp} {t : TypeId} {zs : Array Value} {B : Nat} {oa : Oper}
end
attribute [go_sem] tame tAt tUpon
end Go.Proofs.YtijcbfhlhgjedaaGreatDoor

/- A drawn region whose head reads, calls (the calls in one forced chain; each may make memory) and makes at most one block: one walk of the text's order serves every order. Plain theorems over any program. -/
namespace Go.Proofs.YtijcbfhlhgjedaaGreatDoor
open Go.RowKit Go.Sort

section
variable {P : Program} {ops : Array Oper} {md : Region.Mode} {C : World → Prop}
/-! ### Steps -/
variable {k : Nat} {ns ks : List Nat} {Lq : Act → Fact → Prop} {o : Oper} {rest : List Oper} {a : Act} {Φ : Fact}
end
attribute [go_sem] qAt qUpon
end Go.Proofs.YtijcbfhlhgjedaaGreatDoor

/- The laws of Reg3 for a region inside a loop's round. Plain theorems over any program. -/
namespace Go.Proofs.YtijcbfhlhgjedaaGreatDoor
open Go.RowKit Go.Sort

section
variable {P : Program} {ops : Array Oper} {md : Region.Mode} {C : World → Prop} {lp mr : Nat}
end
/-! ### Under the wide fence, outside a round -/
section
variable {P : Program} {ops : Array Oper} {md : Region.Mode} {C : World → Prop} {m : Nat}
end
end Go.Proofs.YtijcbfhlhgjedaaGreatDoor

/- The laws of Reg3, with blocks that float and are filled by a store of their own, which floats too. Printed by genreg5.py. Plain theorems over any program. -/
namespace Go.Proofs.YtijcbfhlhgjedaaGreatDoor
open Go.RowKit Go.Sort

section
variable {P : Program} {ops : Array Oper} {md : Region.Mode} {C : World → Prop} {st : Fact → Prop} {G : Nat → Act → Prop}
section
variable {lp mr : Nat}
end

/-! ### Steps -/
variable {k : Nat} {ns ks : List Nat} {Lq : Act → Fact → Prop} {o : Oper} {rest : List Oper} {a : Act} {Φ : Fact}
end
end Go.Proofs.YtijcbfhlhgjedaaGreatDoor

/- The turning up to a place: the plain function, and the road package's loop over its iterator. -/
namespace Go.Proofs.YtijcbfhlhgjedaaGreatDoor
open Go.RowKit Go.Shelf Go.Sort Go.Proofs

attribute [local go_sem] Oper.semAt_some

end Go.Proofs.YtijcbfhlhgjedaaGreatDoor

/- How far one sees: what the answer is, and the reference's walk. -/
namespace Go.Proofs.YtijcbfhlhgjedaaGreatDoor
open Go.RowKit Go.Shelf Go.Sort Go.Proofs

end Go.Proofs.YtijcbfhlhgjedaaGreatDoor

/- The search for sight, piece by piece: that what the loop gathers is the sight. Plain; no program. -/
namespace Go.Proofs.YtijcbfhlhgjedaaGreatDoor
open Go.RowKit Go.Proofs

section
variable (pl M an bg : Int)
end
section
variable {ps : List Piece} {pl M an : Int}
end
end Go.Proofs.YtijcbfhlhgjedaaGreatDoor

/- road.Sight: the search piece by piece, over the iterator. -/
namespace Go.Proofs.YtijcbfhlhgjedaaGreatDoor
open Go.RowKit Go.Shelf Go.Sort Go.Proofs

attribute [local go_sem] Oper.semAt_some

end Go.Proofs.YtijcbfhlhgjedaaGreatDoor

/- road.Sight: what is refused. -/
namespace Go.Proofs.YtijcbfhlhgjedaaGreatDoor
open Go.RowKit Go.Shelf Go.Sort Go.Proofs

end Go.Proofs.YtijcbfhlhgjedaaGreatDoor

/- Bends: their groups, plainly; the test whether two of them lie together. -/
namespace Go.Proofs.YtijcbfhlhgjedaaGreatDoor
open Go.RowKit Go.Shelf Go.Sort Go.Proofs

end Go.Proofs.YtijcbfhlhgjedaaGreatDoor

/- append of one element onto a row of the call's own, with the place where the new row lies: in a plain region, and at a step of a region that draws. Plain theorems over any program. -/
namespace Go.Proofs.YtijcbfhlhgjedaaGreatDoor
open Go.RowKit Go.Proofs

section
variable {α : Type} {P : Program} {f : α → List Value} {sz : Nat} {e : TypeId} {base : Nat} {W : World} {A : Option Addr} {n c : Nat} {xs : List α} {y : α}
/-- At a step of a region that draws. -/
theorem step_app {ops : Array Oper} {o : Oper} {a : Act} {K : Act → World → Prop} {Q : Exit → Act → World → Prop} {E : Prop} (hgd : o.guard = none) (s x : Operand) (t : TypeId)
    (ho : o.op = .call { callee := .builtin .append, args := #[s, x], argTypes := #[t, t] })
    (base : Nat) (e : TypeId) (z : Value) (sz bytes : Nat) (ht : P.underlying t = some (.slice e)) (hi : (P.info? e).map (fun i => (i.zero, i.size, i.bytes)) = some (some z, sz, bytes))
    (hzs : z.cells.size = sz) (hsz : 0 < sz) (f : α → List Value) (A : Option Addr) (n c : Nat) (xs : List α) (hs : a.eval s = .slice A n c) (hown : OW f sz e base W A n c xs)
    (y : α) (cs : Array Value) (hcs : cs.toList = f y) (hcl : (f y).length = sz) (ty : TypeId) (N : Nat) (hx : a.eval x = .slice (some ⟨N, 0, none⟩) 1 1) (hN : BK W N ty cs) (h1 : ∀ u ∈ f y, u.oneCell' = true)
    (hbytes : (n + 1) * bytes ≤ 140737488355328) (hby : 1 ≤ bytes) (hbase : base ≤ W.heap.size)
    (h : ∀ g c' w', App1 f sz e base W A n c xs y g c' w' → K (a.put o.dst (.slice (some ⟨g, 0, none⟩) (n + 1) c')) w') :
    if Region.wanted o (yielded ops a.tmps) = true then Oper.wp P o a W K Q else E := by
  obtain ⟨i, hi', hz, hsize, hbytes'⟩ := info_parts hi
  refine step_append_lies W hgd s x t ho base e i z sz bytes ht hi' hz hsize hbytes' hzs hsz _ n (xs.flatMap f) hs hown.1 ⟨N, 0, none⟩ 1 1 (f y) hx (by rw [hcl, Nat.one_mul]) (news1 hN hcs) h1 (by omega) ?_ hbytes hbase W.heap.size rfl ?_
  · unfold maxLen
    have : n + 1 ≤ (n + 1) * bytes := Nat.le_mul_of_pos_right _ (by omega)
    omega
  · intro g cap w' h2 h3 h4 _
    exact h g cap w' (app1_of hown hbase h2 h3 h4)
end
end Go.Proofs.YtijcbfhlhgjedaaGreatDoor

/- Groups of bends: plainly, and how they lie in memory. -/
namespace Go.Proofs.YtijcbfhlhgjedaaGreatDoor
open Go.RowKit Go.Shelf Go.Sort Go.Proofs

theorem hC_len (h : Hdr) : (hC h).length = 1 := rfl
section
variable {w w' : World} {base n c : Nat} {A : Option Addr} {gs ds : List (Hdr × List Bd)} {q : Hdr × List Bd}
end
end Go.Proofs.YtijcbfhlhgjedaaGreatDoor

/- grouped, for bends that lie together. -/
namespace Go.Proofs.YtijcbfhlhgjedaaGreatDoor
open Go.RowKit Go.Shelf Go.Sort Go.Proofs

theorem flat_set {α : Type} {f : α → List Value} (hf : ∀ x, (f x).length = 1) : ∀ (xs : List α) (i : Nat) (y : α) (v : Value), f y = [v] → (xs.set i y).flatMap f = (xs.flatMap f).set i v
  | [], _, _, _, _ => rfl
  | x :: xs, 0, y, v, h => by
    obtain ⟨u, hu⟩ := List.length_eq_one_iff.1 (hf x)
    simp [h, hu]
  | x :: xs, i + 1, y, v, h => by
    obtain ⟨u, hu⟩ := List.length_eq_one_iff.1 (hf x)
    simp [hu, flat_set hf xs i y v h]
/-- One cell of an own row of one-celled elements is written. -/
theorem OW.set1 {α : Type} {f : α → List Value} {e : TypeId} {base : Nat} {w : World} {b n c : Nat} {xs : List α} (h : OW f 1 e base w (some ⟨b, 0, none⟩) n c xs) (hf : ∀ x, (f x).length = 1) (i : Nat) (y : α) (v : Value) (hy : f y = [v]) :
    OW f 1 e base (w.setCell ⟨b, i, none⟩ v) (some ⟨b, 0, none⟩) n c (xs.set i y) := by
  refine ⟨⟨by rw [flat_set hf xs i y v hy]; simpa using h.1.1, ?_⟩, by simpa using h.2⟩
  rcases h.1.2 with ⟨h3, _⟩ | ⟨g, cap, cur, h3, hb, hg, hn, hc, hs, ht⟩
  · cases h3
  · injection h3 with h3 h4 h5
    injection h3 with h3
    injection h3 with h3
    subst h3 h5
    refine .inr ⟨b, c, cur.setIfInBounds i v, rfl, hb, ?_, hn, hc, by simpa using hs, ?_⟩
    · simp [World.setCell, Array.getElem?_modify, hg]
    · rw [Array.toList_setIfInBounds, List.take_set, ht, flat_set hf xs i y v hy]
end Go.Proofs.YtijcbfhlhgjedaaGreatDoor

/- append of one element, inside a fence. Plain theorem over any program. -/
namespace Go.Proofs.YtijcbfhlhgjedaaGreatDoor
open Go.RowKit Go.Proofs

theorem wpListIn_app {F : Fence} {nF : Nat} {α : Type} {P : Program} {W : World} {ops : Array Oper} {rest : List Oper} {o : Oper} {a : Act} {Q : Exit → Act → World → Prop} (hgd : o.guard = none) (s x : Operand) (t : TypeId)
    (ho : o.op = .call { callee := .builtin .append, args := #[s, x], argTypes := #[t, t] })
    (base : Nat) (e : TypeId) (z : Value) (sz bytes : Nat) (ht : P.underlying t = some (.slice e)) (hi : (P.info? e).map (fun i => (i.zero, i.size, i.bytes)) = some (some z, sz, bytes))
    (hzs : z.cells.size = sz) (hsz : 0 < sz) (f : α → List Value) (A : Option Addr) (n c : Nat) (xs : List α) (hs : a.eval s = .slice A n c) (hown : OW f sz e base W A n c xs)
    (y : α) (cs : Array Value) (hcs : cs.toList = f y) (hcl : (f y).length = sz) (ty : TypeId) (N : Nat) (hx : a.eval x = .slice (some ⟨N, 0, none⟩) 1 1) (hN : BK W N ty cs) (h1 : ∀ u ∈ f y, u.oneCell' = true)
    (hbytes : (n + 1) * bytes ≤ 140737488355328) (hby : 1 ≤ bytes) (hbase : base ≤ W.heap.size)
    (h : ∀ g c' w', App1 f sz e base W A n c xs y g c' w' → wpListIn F nF P ops Q rest (a.put o.dst (.slice (some ⟨g, 0, none⟩) (n + 1) c')) w') :
    wpListIn F nF P ops Q (o :: rest) a W := by
  obtain ⟨i, hi', hz, hsize, hbytes'⟩ := info_parts hi
  have h63 : n + 1 ≤ maxLen := by
    unfold maxLen
    have : n + 1 ≤ (n + 1) * bytes := Nat.le_mul_of_pos_right _ (by omega)
    omega
  refine wpListIn_plain hgd fun K hK => ?_
  obtain ⟨g, cap, w', hr, h2, h3, h4, _⟩ := run_append_lies (P := P) W t o.type base e i z sz bytes ht hi' hz hsize hbytes' hzs hsz _ n (xs.flatMap f) hown.1 ⟨N, 0, none⟩ 1 1 (f y) (by rw [hcl, Nat.one_mul]) (news1 hN hcs) h1 (by omega) h63 hbytes hbase W.heap.size rfl
  unfold Oper.wpIn
  refine ⟨by simp [Oper.about, ho, resolve, Target.leads, Sem.run_pure], ?_⟩
  rw [Oper.semAt_plain F _ _ (by rw [ho]; intro c hc'; cases hc')]
  simp [execOp, ho, resolve, invoke, builtin, hs, hx, hr, Result.andThen]
  exact hK _ _ (h g cap w' (app1_of hown hbase h2 h3 h4))
end Go.Proofs.YtijcbfhlhgjedaaGreatDoor

/- road.Corners: the bends, their groups, the corners. -/
namespace Go.Proofs.YtijcbfhlhgjedaaGreatDoor
open Go.RowKit Go.Shelf Go.Sort Go.Proofs

attribute [local go_sem] Oper.semAt_some

end Go.Proofs.YtijcbfhlhgjedaaGreatDoor

/- Corners, plainly: the reference's groups are the groups of bends; the turning between a group's ends is its angle. No program in sight. -/
namespace Go.Proofs.YtijcbfhlhgjedaaGreatDoor
open Go.RowKit Go.Proofs

end Go.Proofs.YtijcbfhlhgjedaaGreatDoor

/- road.Corners: what is refused. -/
namespace Go.Proofs.YtijcbfhlhgjedaaGreatDoor
open Go.RowKit Go.Shelf Go.Sort Go.Proofs

end Go.Proofs.YtijcbfhlhgjedaaGreatDoor

/- SameCorners: two lists of corners that are one list. -/
namespace Go.Proofs.YtijcbfhlhgjedaaGreatDoor
open Go.RowKit Go.Shelf Go.Sort Go.Proofs

end Go.Proofs.YtijcbfhlhgjedaaGreatDoor

/- The reference's Corners, walked. -/
namespace Go.Proofs.YtijcbfhlhgjedaaGreatDoor
open Go.RowKit Go.Shelf Go.Sort Go.Proofs

theorem flat_setF {α : Type} {f : α → List Value} {sz : Nat} (hf : ∀ x, (f x).length = sz) : ∀ (xs : List α) (i j : Nat) (x y : α) (v : Value), xs[i]? = some x → j < sz → f y = (f x).set j v → (xs.set i y).flatMap f = (xs.flatMap f).set (i * sz + j) v
  | [], i, _, _, _, _, h, _, _ => by simp at h
  | a :: xs, 0, j, x, y, v, h, hj, hy => by
    simp at h; subst h
    rw [List.set_cons_zero, List.flatMap_cons, List.flatMap_cons, hy, Nat.zero_mul, Nat.zero_add, List.set_append_left _ _ (by rw [hf]; exact hj)]
  | a :: xs, i + 1, j, x, y, v, h, hj, hy => by
    have e : (i + 1) * sz + j = sz + (i * sz + j) := by rw [Nat.succ_mul]; omega
    rw [List.set_cons_succ, List.flatMap_cons, List.flatMap_cons, flat_setF hf xs i j x y v (by simpa using h) hj hy, e, List.set_append_right _ _ (by rw [hf]; omega), hf, Nat.add_sub_cancel_left]
/-- One cell of an element of an own row is written. -/
theorem OW.setF {α : Type} {f : α → List Value} {sz : Nat} {e : TypeId} {base : Nat} {w : World} {b n c : Nat} {xs : List α} (h : OW f sz e base w (some ⟨b, 0, none⟩) n c xs) (hf : ∀ x, (f x).length = sz) (i j : Nat) {x y : α} {v : Value}
    (hx : xs[i]? = some x) (hj : j < sz) (hy : f y = (f x).set j v) : OW f sz e base (w.setCell ⟨b, i * sz + j, none⟩ v) (some ⟨b, 0, none⟩) n c (xs.set i y) := by
  refine ⟨⟨by rw [flat_setF hf xs i j x y v hx hj hy]; simpa using h.1.1, ?_⟩, by simpa using h.2⟩
  rcases h.1.2 with ⟨h3, _⟩ | ⟨g, cap, cur, h3, hb, hg, hn, hc, hs, ht⟩
  · cases h3
  · injection h3 with h3 h4 h5
    injection h3 with h3
    injection h3 with h3
    subst h3 h5
    refine .inr ⟨b, c, cur.setIfInBounds (i * sz + j) v, rfl, hb, ?_, hn, hc, by simpa using hs, ?_⟩
    · simp [World.setCell, Array.getElem?_modify, hg]
    · rw [Array.toList_setIfInBounds, List.take_set, ht, flat_setF hf xs i j x y v hx hj hy]
end Go.Proofs.YtijcbfhlhgjedaaGreatDoor

/- A region whose head makes one block that floats and is filled by a store that floats too (x := a call's result, beside other calls). A plain theorem over any program, and the store of a road. -/
namespace Go.Proofs.YtijcbfhlhgjedaaGreatDoor
open Go.RowKit Go.Shelf Go.Sort Go.Proofs

section
variable {P : Program}
theorem wp_region_one {id : Nat} {Q : Exit → Act → World → Prop} {a : Act} {w : World} {l : List Oper} (m n1 s1 : Nat) (ks : List Nat) (t1 : TypeId) (zs1 cs1 : Array Value) (d1 x1 : Tmp) (vx : Value) (oa1 os1 : Oper) (hm : P.follows .mixedOrders = true)
    (hlt : n1 < m ∧ s1 < m ∧ s1 ≠ n1 ∧ x1 ≠ d1)
    (hoa1 : l.toArray[n1]? = some oa1) (hda1 : oa1.dst = some d1) (hga1 : oa1.guard = none) (hrun1 : ∀ (a : Act) (w : World), (execOp a.eval oa1).run P w = .ok (.value (.pointer (some ⟨w.heap.size, 0, none⟩))) (w.alloc (.cells zs1 t1)))
    (hos1 : l.toArray[s1]? = some os1) (hds1 : os1.dst = none) (hgs1 : os1.guard = none) (hx1 : (os1.looksAt l.toArray).contains x1 = true) (haf : (os1.after.any fun e => Region.binds .any e && e.on == n1) = true)
    (hrs1 : ∀ (a : Act) (w : World) (b : Nat), a.eval (.tmp d1) = .pointer (some ⟨b, 0, none⟩) → a.eval (.tmp x1) = vx → BK w b t1 zs1 → ∃ w', (execOp a.eval os1).run P w = .ok .skip w' ∧ BK w' b t1 cs1 ∧ Below b w w' ∧ w'.heap.size = w.heap.size ∧ ∀ k, k ≠ b → w'.heap[k]? = w.heap[k]?)
    (hB : (okB .any l.toArray m ks && floatGB l.toArray m n1 s1 oa1) = true)
    (h : wpCG P l.toArray (fun w' => ∃ p : Regrown, w' = grow (redrawn w p.d) p.os) (fun Φ => ∀ x y, Φ x → Below w.heap.size x y → Φ y) (fun i a => s1 = i → a.eval (.tmp x1) = vx ∧ d1 < a.tmps.size) [n1, s1] ks (fun a' Φ => ∀ b1 w', Below w.heap.size w w' → Φ w' → w.heap.size ≤ b1 → BK w' b1 t1 cs1 →
      wpList P l.toArray Q (l.drop m) (a'.put (some d1) (.pointer (some ⟨b1, 0, none⟩))) w') 0 (l.take m) a (fun _ => True)) :
    (Code.region id l.toArray true).wp P Q a w := by
  obtain ⟨q1, q3, q5, q8⟩ := hlt
  obtain ⟨hB1, hB2⟩ := Bool.and_eq_true_iff.1 hB
  have hmn : m < l.length := by
    have := hB1
    simp only [okB, Region.lexTailB, Bool.and_eq_true, decide_eq_true_eq] at this
    have h2 := this.1.1.1.1.2
    simpa using h2
  refine wp_region_chG m [⟨n1, d1, t1, zs1, true, s1, x1, vx, cs1⟩] ks hm hB1 (fun f hf => ?_) ⟨?_, ?_, ?_, ?_, ?_⟩ ?_
  · simp only [List.mem_cons, List.not_mem_nil, or_false] at hf
    subst hf
    refine ⟨q1, ⟨oa1, hoa1, hda1, hga1, hrun1, fun j oj h1 h2 h3 h4 => floatGB_spec hB2 j oj h1 h2 h3 (h4 rfl)⟩, fun _ => ⟨q3, q5, os1, hos1, hds1, hgs1, fun cs b e => ?_, by simpa using hx1, ?_, hrs1⟩⟩
    · simp only [okB, Region.lexTailB, Bool.and_eq_true, decide_eq_true_eq] at hB1
      exact Region.noSelect_spec hB1.1.1.1.1.1 s1 os1 cs b hos1 e
    · obtain ⟨e, he, hb⟩ := Array.any_eq_true'.1 haf
      simp only [Bool.and_eq_true, beq_iff_eq] at hb
      exact ⟨e, he, hb.1, hb.2⟩
  · simp
  · simp
  · intro f hf f' hf' h1 h2 _
    simp only [List.mem_cons, List.not_mem_nil, or_false] at hf hf'
    subst hf; subst hf'; rfl
  · intro f hf f' hf' h1
    simp only [List.mem_cons, List.not_mem_nil, or_false] at hf hf'
    subst hf; subst hf'; exact q5
  · intro f hf f' hf'
    simp only [List.mem_cons, List.not_mem_nil, or_false] at hf hf'
    subst hf; subst hf'; exact q8
  · refine wpCG_end (fun i a h f hf hs he => ?_) (fun a' Φ h w' h1 h2 bs h3 h4 => ?_) _ _ _ _ h
    · simp only [List.mem_cons, List.not_mem_nil, or_false] at hf
      subst hf
      exact h he
    obtain ⟨h5, h6, h7⟩ := h3
    have hs1l : s1 < l.length := by omega
    have hnow : (⟨n1, d1, t1, zs1, true, s1, x1, vx, cs1⟩ : FG).now (Array.replicate l.toArray.size true) = cs1 := by simp [FG.now, hs1l]
    match bs, h4, h5, h6, h7 with
    | [], h4, _, _, _ => exact absurd (h4 _ (List.mem_cons_self ..)) (by simp)
    | [(f, b)], _, h5, _, _ =>
      obtain ⟨p1, p2, p3⟩ := h5 (f, b) (by simp)
      simp only [List.mem_cons, List.not_mem_nil, or_false] at p1
      subst p1
      exact h b w' h1 h2 p2 (by rw [hnow] at p3; exact p3)
    | p :: q :: bs, _, h5, h6, _ =>
      exfalso
      have e1 := (h5 p (by simp)).1
      have e2 := (h5 q (by simp)).1
      simp only [List.mem_cons, List.not_mem_nil, or_false] at e1 e2
      simp [e1, e2] at h6
end
end Go.Proofs.YtijcbfhlhgjedaaGreatDoor

/- Two pieces, the same apart from their lengths: the code's test and the document's. -/
namespace Go.Proofs.YtijcbfhlhgjedaaGreatDoor
open Go.RowKit Go.Shelf Go.Sort Go.Proofs

def pV (p : Piece) : Value := .agg #[.int .i64 p.len, .int .i64 p.turn, .int .i64 p.rad, .int .i64 p.wid, .int .i64 p.sur]
/-- Equal apart from the lengths. -/
def alk (x y : Piece) : Bool := decide (x.turn = y.turn) && (decide (x.rad = y.rad) && (decide (x.wid = y.wid) && decide (x.sur = y.sur)))
set_option maxRecDepth 100000 in
theorem same_any (x y : Piece) (w : World) :
    Calls Tryz.prog 69 #[pV x, pV y] w fun e w' => e = .returned (.bool (alk x y)) ∧ Below w.heap.size w w' := by
  simp only [pV]
  go_enter Tryz.func69, Tryz.ntmps69
  go_wp2_with fail
  all_goals
    go_ret
    exact ⟨ret_bool (by simp [alk, *]), ((Below.refl _ _).alloc (Nat.le_refl _) _).alloc (by simp) _⟩
end Go.Proofs.YtijcbfhlhgjedaaGreatDoor

/- Groups of pieces: plainly, and how they lie in memory. -/
namespace Go.Proofs.YtijcbfhlhgjedaaGreatDoor
open Go.RowKit Go.Shelf Go.Sort Go.Proofs

/-- A new piece joins the last group, or begins one. -/
def addP (gs : List (List Piece)) (x : Piece) : List (List Piece) :=
  match gs.getLast?.bind List.getLast? with
  | some y => if alk y x then gs.dropLast ++ [(gs.getLast?.getD []) ++ [x]] else gs ++ [[x]]
  | none => gs ++ [[x]]
def grpP (l : List Piece) : List (List Piece) := l.foldl (addP) []
theorem grpP_snoc (l : List Piece) (x : Piece) : grpP (l ++ [x]) = addP (grpP l) x := by simp [grpP]
theorem addP_ne (gs : List (List Piece)) (x : Piece) : ∃ ds g, addP gs x = ds ++ [g ++ [x]] := by
  unfold addP
  split
  · split
    · exact ⟨_, _, rfl⟩
    · exact ⟨gs, [], rfl⟩
  · exact ⟨gs, [], rfl⟩
theorem grpP_last (l : List Piece) (y : Piece) : ∃ ds g, grpP (l ++ [y]) = ds ++ [g ++ [y]] := by
  rw [grpP_snoc]; exact addP_ne _ _
theorem addP_at (ds : List (List Piece)) (g : List Piece) (y x : Piece) : addP (ds ++ [g ++ [y]]) x = if alk y x then ds ++ [g ++ [y] ++ [x]] else ds ++ [g ++ [y]] ++ [[x]] := by
  simp [addP]
theorem addP_nil (x : Piece) : addP [] x = [[x]] := rfl
theorem infoPs : (Tryz.prog.info? 22).map (fun i => (i.zero, i.size, i.bytes)) = some (some (.slice none 0 0), 1, 24) := by kernel_rfl
section
variable {w w' : World} {base n c : Nat} {A : Option Addr} {gs ds : List (Hdr × List Piece)} {q : Hdr × List Piece}
/-- A new group behind. -/
theorem GP.push {x : Piece} {N g c' : Nat} (h : GP w base A n c gs) (hN : w.heap.size ≤ N) (hw : ∀ k, k < w.heap.size → (∀ b, A = some b → b.block ≠ k) → w'.heap[k]? = w.heap[k]?)
    (hx : OW pC 5 72 base w' (some ⟨N, 0, none⟩) 1 1 [x]) (ho : OW hC 1 22 base w' (some ⟨g, 0, none⟩) (n + 1) c' (gs.map (·.1) ++ [⟨some ⟨N, 0, none⟩, 1, 1⟩])) (hg : (∃ b, A = some b ∧ b.block = g) ∨ N < g) :
    GP w' base (some ⟨g, 0, none⟩) (n + 1) c' (gs ++ [(⟨some ⟨N, 0, none⟩, 1, 1⟩, [x])]) := by
  have hlt : ∀ p ∈ gs, ∀ a, p.1.A = some a → a.block < w.heap.size := fun p hp a ha => ((h.grp p hp).1.lt ha).2
  refine ⟨by simpa using ho, fun p hp => ?_, fun p hp a b ha hb => ?_, fun ds q e p hp a b ha hb => ?_⟩
  · rcases List.mem_append.1 hp with hp | hp
    · exact ⟨(h.grp p hp).1.keep (fun a ha => hw _ (hlt p hp a ha) (fun b hb => (h.off p hp a b ha hb).symm)), (h.grp p hp).2⟩
    · simp at hp; subst hp; exact ⟨hx, by simp⟩
  · cases hb
    rcases List.mem_append.1 hp with hp | hp
    · have h1 := hlt p hp a ha
      rcases hg with ⟨b, hb, rfl⟩ | hg
      · exact h.off p hp a b ha hb
      · show a.block ≠ g; omega
    · simp at hp; subst hp
      cases ha
      show N ≠ g
      rcases hg with ⟨b, hb, rfl⟩ | hg
      · have := (h.out.lt hb).2; omega
      · omega
  · obtain ⟨rfl, e2⟩ := List.append_inj' e rfl
    simp at e2
    subst e2
    cases hb
    have := hlt p hp a ha
    show a.block ≠ N; omega
end
end Go.Proofs.YtijcbfhlhgjedaaGreatDoor

/- The normal road, plainly. -/
namespace Go.Proofs.YtijcbfhlhgjedaaGreatDoor
open Go.RowKit Go.Shelf Go.Sort Go.Proofs

/-- A piece behind runs: it joins the last one, or begins one. -/
def addR (rs : List Piece) (p : Piece) : List Piece :=
  match rs.getLast? with
  | some y => if alk y p then rs.dropLast ++ [{ y with len := y.len + p.len }] else rs ++ [p]
  | none => rs ++ [p]
def mrgR (ps : List Piece) : List Piece := ps.foldl addR []
/-- How many pieces of the greatest length a run has before its rest. -/
def cutk (n : Int) : Nat := ((n - 1) / 5000).toNat
def cut (p : Piece) : List Piece := List.replicate (cutk p.len) { p with len := 5000 } ++ [{ p with len := p.len - 5000 * cutk p.len }]
def normP (ps : List Piece) : List Piece := (mrgR ps).flatMap cut
theorem addR_nil (p : Piece) : addR [] p = [p] := rfl
theorem addR_at (ds : List Piece) (y p : Piece) : addR (ds ++ [y]) p = if alk y p then ds ++ [{ y with len := y.len + p.len }] else ds ++ [y] ++ [p] := by simp [addR]
theorem nil_or_snoc {α : Type} (l : List α) : l = [] ∨ ∃ d x, l = d ++ [x] := by
  rcases List.eq_nil_or_concat l with h | ⟨d, x, h⟩
  · exact .inl h
  · exact .inr ⟨d, x, by simpa using h⟩
theorem alk_one (x y : Piece) : alk x y = true ↔ one x = one y := by
  obtain ⟨a, b, c, d, e⟩ := x
  obtain ⟨a', b', c', d', e'⟩ := y
  simp [alk, one]
theorem units_nil : units [] = [] := rfl
theorem addR_ge {rs : List Piece} {p : Piece} {m : Int} (hm : 0 ≤ m) (h : ∀ q ∈ rs, m ≤ q.len) (hp : m ≤ p.len) : ∀ q ∈ addR rs p, m ≤ q.len := by
  rcases nil_or_snoc rs with rfl | ⟨ds, y, rfl⟩
  · intro q hq; rw [addR_nil] at hq; simp at hq; rw [hq]; exact hp
  · rw [addR_at]
    intro q hq
    split at hq
    · rcases List.mem_append.1 hq with hq | hq
      · exact h q (List.mem_append_left _ hq)
      · simp at hq; have := h y (by simp); rw [hq]; show m ≤ y.len + p.len; omega
    · rcases List.mem_append.1 hq with hq | hq
      · exact h q hq
      · simp at hq; rw [hq]; exact hp
theorem foldR_ge {m : Int} (hm : 0 ≤ m) : ∀ (ps rs : List Piece), (∀ q ∈ rs, m ≤ q.len) → (∀ q ∈ ps, m ≤ q.len) → ∀ q ∈ ps.foldl addR rs, m ≤ q.len
  | [], _, h, _ => h
  | p :: ps, rs, h, h' => by
    rw [List.foldl_cons]
    exact foldR_ge hm ps _ (addR_ge hm h (h' p (List.mem_cons_self ..))) (fun q hq => h' q (List.mem_cons_of_mem _ hq))
theorem mrg_ge {m : Int} (hm : 0 ≤ m) {ps : List Piece} (h : ∀ q ∈ ps, m ≤ q.len) : ∀ q ∈ mrgR ps, m ≤ q.len := foldR_ge hm ps [] (fun _ h => by cases h) h
theorem units_addR {rs : List Piece} {p : Piece} (h : ∀ q ∈ rs, 0 ≤ q.len) (hp : 0 ≤ p.len) : units (addR rs p) = units rs ++ units [p] := by
  rcases nil_or_snoc rs with rfl | ⟨ds, y, rfl⟩
  · rfl
  · rw [addR_at]
    have hy := h y (by simp)
    split
    · rename_i ha
      have he := (alk_one y p).1 ha
      rw [units_append, units_append, units_one, units_one, units_one, ← he, List.append_assoc, List.replicate_append_replicate]
      show _ ++ List.replicate (y.len + p.len).toNat (one y) = _
      rw [Int.toNat_add hy hp]
    · rw [units_append]
theorem units_fold : ∀ (ps rs : List Piece), (∀ q ∈ rs, 0 ≤ q.len) → (∀ q ∈ ps, 0 ≤ q.len) → units (ps.foldl addR rs) = units rs ++ units ps
  | [], rs, _, _ => by simp [units]
  | p :: ps, rs, h, h' => by
    have hp := h' p (List.mem_cons_self ..)
    rw [List.foldl_cons, units_fold ps _ (addR_ge (Int.le_refl 0) h hp) (fun q hq => h' q (List.mem_cons_of_mem _ hq)), units_addR h hp, List.append_assoc, ← units_append]
    rfl
theorem units_mrg {ps : List Piece} (h : ∀ q ∈ ps, 0 ≤ q.len) : units (mrgR ps) = units ps := by
  rw [mrgR, units_fold ps [] (fun _ h => by cases h) h, units_nil, List.nil_append]
theorem fold_rep (rs : List Piece) (p : Piece) : ∀ m : Nat, (List.replicate (m + 1) (one p)).foldl addR rs = addR rs { p with len := (m : Int) + 1 }
  | 0 => by simp [one]
  | m + 1 => by
    rw [List.replicate_succ', List.foldl_append, fold_rep rs p m, List.foldl_cons, List.foldl_nil]
    have ha : ∀ n : Int, alk { p with len := n } (one p) = true := fun n => by rw [alk_one]; rfl
    rcases nil_or_snoc rs with rfl | ⟨ds, y, rfl⟩
    · rw [addR_nil, addR_nil]
      show addR ([] ++ [_]) _ = _
      rw [addR_at, if_pos (ha _)]
      simp [one]
    · rw [addR_at, addR_at]
      by_cases hy : alk y p = true
      · have h1 : alk y { p with len := (m : Int) + 1 } = true := hy
        have h2 : alk y { p with len := ((m + 1 : Nat) : Int) + 1 } = true := hy
        have h3 : alk { y with len := y.len + ((m : Int) + 1) } (one p) = true := hy
        rw [if_pos h1, if_pos h2, addR_at, if_pos h3]
        simp [one]; omega
      · have h1 : ¬ alk y { p with len := (m : Int) + 1 } = true := hy
        have h2 : ¬ alk y { p with len := ((m + 1 : Nat) : Int) + 1 } = true := hy
        rw [if_neg h1, if_neg h2, addR_at, if_pos (ha _)]
        simp [one]
theorem fold_units : ∀ (ps rs : List Piece), (∀ q ∈ ps, 1 ≤ q.len) → (units ps).foldl addR rs = ps.foldl addR rs
  | [], _, _ => rfl
  | p :: ps, rs, h => by
    have hp := h p (List.mem_cons_self ..)
    obtain ⟨m, hm⟩ : ∃ m : Nat, p.len = (m : Int) + 1 := ⟨(p.len - 1).toNat, by omega⟩
    rw [units_cons, List.foldl_append, List.foldl_cons, show p.len.toNat = m + 1 by omega, fold_rep, fold_units ps _ (fun q hq => h q (List.mem_cons_of_mem _ hq)), ← hm]
theorem mrg_units {ps : List Piece} (h : ∀ q ∈ ps, 1 ≤ q.len) : mrgR (units ps) = mrgR ps := fold_units ps [] h
theorem norm_units {ps : List Piece} (h : ∀ q ∈ ps, 1 ≤ q.len) : normP (units ps) = normP ps := by rw [normP, mrg_units h]; rfl
theorem cutk_eq {n : Int} (h : 1 ≤ n) : (cutk n : Int) = (n - 1) / 5000 := by unfold cutk; omega
theorem units_rep (p : Piece) (h : 0 ≤ p.len) : ∀ k : Nat, units (List.replicate k p) = List.replicate (k * p.len.toNat) (one p)
  | 0 => by simp [units]
  | k + 1 => by rw [List.replicate_succ, units_cons, units_rep p h k, List.replicate_append_replicate, Nat.succ_mul, Nat.add_comm]
theorem units_cut {p : Piece} (h : 1 ≤ p.len) : units (cut p) = List.replicate p.len.toNat (one p) := by
  have hk := cutk_eq h
  unfold cut
  rw [units_append, units_rep _ (by show (0 : Int) ≤ 5000; omega), units_one]
  show List.replicate (cutk p.len * (5000 : Int).toNat) (one p) ++ List.replicate (p.len - 5000 * (cutk p.len : Int)).toNat (one p) = _
  rw [List.replicate_append_replicate, show (5000 : Int).toNat = 5000 from rfl]
  congr 1
  omega
theorem units_cuts : ∀ {rs : List Piece}, (∀ q ∈ rs, 1 ≤ q.len) → units (rs.flatMap cut) = units rs
  | [], _ => rfl
  | p :: rs, h => by
    rw [List.flatMap_cons, units_append, units_cut (h p (List.mem_cons_self ..)), units_cuts (fun q hq => h q (List.mem_cons_of_mem _ hq)), units_cons]
theorem units_norm {ps : List Piece} (h : ∀ q ∈ ps, 1 ≤ q.len) : units (normP ps) = units ps := by
  rw [normP, units_cuts (mrg_ge (by omega) h), units_mrg (fun q hq => by have := h q hq; omega)]
theorem cut_ge {p : Piece} (h : 1 ≤ p.len) : ∀ q ∈ cut p, (1 ≤ q.len ∧ q.len ≤ 5000) ∧ one q = one p := by
  have hk := cutk_eq h
  intro q hq
  unfold cut at hq
  rcases List.mem_append.1 hq with hq | hq
  · have := List.eq_of_mem_replicate hq
    subst this
    exact ⟨⟨by show (1 : Int) ≤ 5000; omega, by show (5000 : Int) ≤ 5000; omega⟩, rfl⟩
  · simp at hq
    subst hq
    refine ⟨?_, rfl⟩
    show 1 ≤ p.len - 5000 * (cutk p.len : Int) ∧ p.len - 5000 * (cutk p.len : Int) ≤ 5000
    omega
theorem norm_ge {ps : List Piece} (h : ∀ q ∈ ps, 1 ≤ q.len) : ∀ q ∈ normP ps, 1 ≤ q.len ∧ q.len ≤ 5000 := by
  intro q hq
  obtain ⟨p, hp, hq⟩ := List.mem_flatMap.1 hq
  exact (cut_ge (mrg_ge (by omega) h p hp) q hq).1
theorem norm_sum {ps : List Piece} (h : ∀ q ∈ ps, 1 ≤ q.len) : sumL (normP ps) = sumL ps := by
  rw [← units_len (fun q hq => by have := (norm_ge h q hq).1; omega), units_norm h, units_len (fun q hq => by have := h q hq; omega)]
theorem mem_units {ps : List Piece} {p : Piece} (h : p ∈ ps) (hl : 1 ≤ p.len) : one p ∈ units ps :=
  List.mem_flatMap.2 ⟨p, h, List.mem_replicate.2 ⟨by omega, rfl⟩⟩
theorem norm_of {ps : List Piece} (h : ∀ q ∈ ps, 1 ≤ q.len) {q : Piece} (hq : q ∈ normP ps) : ∃ p ∈ ps, one q = one p := by
  have h1 := mem_units hq (norm_ge h q hq).1
  rw [units_norm h] at h1
  exact units_mem h1
theorem cutk_len (p : Piece) : (cut p).length = cutk p.len + 1 := by simp [cut]
theorem addR_cnt {rs : List Piece} {p : Piece} (h : ∀ q ∈ rs, 1 ≤ q.len) (hp : 1 ≤ p.len ∧ p.len ≤ 5000) : ((addR rs p).flatMap cut).length ≤ (rs.flatMap cut).length + 1 := by
  have h1 := cutk_eq hp.1
  rcases nil_or_snoc rs with rfl | ⟨ds, y, rfl⟩
  · rw [addR_nil]; simp [cutk_len]; omega
  · have hy := h y (by simp)
    have h2 := cutk_eq hy
    rw [addR_at]
    split
    · have h3 : (cutk (y.len + p.len) : Int) = (y.len + p.len - 1) / 5000 := cutk_eq (by omega)
      simp [cutk_len]
      omega
    · simp [cutk_len]; omega
theorem fold_cnt : ∀ (ps rs : List Piece), (∀ q ∈ rs, 1 ≤ q.len) → (∀ q ∈ ps, 1 ≤ q.len ∧ q.len ≤ 5000) → ((ps.foldl addR rs).flatMap cut).length ≤ (rs.flatMap cut).length + ps.length
  | [], _, _, _ => by simp
  | p :: ps, rs, h, h' => by
    have hp := h' p (List.mem_cons_self ..)
    have h1 := fold_cnt ps (addR rs p) (addR_ge (by omega) h hp.1) (fun q hq => h' q (List.mem_cons_of_mem _ hq))
    have h2 := addR_cnt h hp
    rw [List.foldl_cons, List.length_cons]
    omega
theorem norm_len {ps : List Piece} (h : ∀ q ∈ ps, 1 ≤ q.len ∧ q.len ≤ 5000) : (normP ps).length ≤ ps.length := by
  have := fold_cnt ps [] (fun _ h => by cases h) h
  simpa [normP, mrgR] using this
theorem norm_ne {ps : List Piece} (h : ∀ q ∈ ps, 1 ≤ q.len) (h1 : 1 ≤ ps.length) : 1 ≤ (normP ps).length := by
  rcases Nat.eq_zero_or_pos (normP ps).length with h0 | h0
  · have e := norm_sum h
    rw [List.length_eq_zero_iff.1 h0] at e
    have h2 : (ps.length : Int) ≤ sumL ps := by
      clear e h0 h1
      induction ps with
      | nil => simp [sumL]
      | cons p l ih =>
        have := ih (fun q hq => h q (List.mem_cons_of_mem _ hq))
        have := h p (List.mem_cons_self ..)
        rw [sumL_cons, List.length_cons]; omega
    rw [sumL_nil] at e; omega
  · exact h0
theorem hs_snoc (g : List Piece) (y x : Piece) : hs (g ++ [y] ++ [x]) = { hs (g ++ [y]) with len := sumL (g ++ [y]) + x.len } := by
  cases g with
  | nil => simp [hs, sumL]
  | cons z g => simp [hs, sumL]; omega
theorem hs_len (g : List Piece) : (hs g).len = sumL g := by cases g <;> rfl
theorem grp_step (gs : List (List Piece)) (x : Piece) (h : ∀ g ∈ gs, g ≠ [] ∧ ∀ a ∈ g, one a = one (hs g)) :
    (addP gs x).map hs = addR (gs.map hs) x ∧ ∀ g ∈ addP gs x, g ≠ [] ∧ ∀ a ∈ g, one a = one (hs g) := by
  have hx : hs [x] = x := by simp [hs, sumL]
  rcases nil_or_snoc gs with rfl | ⟨ds, g, rfl⟩
  · rw [addP_nil]
    refine ⟨?_, fun g hg => ?_⟩
    · simp [addR, hx]
    · simp at hg; subst hg; exact ⟨by simp, fun a ha => by simp at ha; rw [ha, hx]⟩
  · obtain ⟨hne, hal⟩ := h g (by simp)
    rcases nil_or_snoc g with rfl | ⟨g, y, rfl⟩
    · exact absurd rfl hne
    have hy : one y = one (hs (g ++ [y])) := hal y (by simp)
    have hc : alk (hs (g ++ [y])) x = alk y x := by rw [Bool.eq_iff_iff, alk_one, alk_one, hy]
    rw [addP_at, List.map_append, List.map_cons, List.map_nil, addR_at, hc]
    split
    · rename_i ha
      have ho : one (hs (g ++ [y] ++ [x])) = one (hs (g ++ [y])) := by rw [hs_snoc]; rfl
      refine ⟨?_, fun g' hg' => ?_⟩
      · rw [List.map_append, List.map_cons, List.map_nil, hs_snoc, hs_len]
      · rcases List.mem_append.1 hg' with hg' | hg'
        · exact h g' (List.mem_append_left _ hg')
        · simp only [List.mem_singleton] at hg'
          subst hg'
          refine ⟨by simp, fun a ha' => ?_⟩
          rw [ho]
          rcases List.mem_append.1 ha' with ha' | ha'
          · exact hal a ha'
          · simp at ha'
            rw [ha', ← hy]
            exact ((alk_one y x).1 ha).symm
    · refine ⟨by simp [hx], fun g' hg' => ?_⟩
      rcases List.mem_append.1 hg' with hg' | hg'
      · exact h g' hg'
      · simp only [List.mem_singleton] at hg'; subst hg'; exact ⟨by simp, fun a ha => by simp at ha; rw [ha, hx]⟩
theorem grp_fold : ∀ (ps : List Piece) (gs : List (List Piece)), (∀ g ∈ gs, g ≠ [] ∧ ∀ a ∈ g, one a = one (hs g)) →
    (ps.foldl addP gs).map hs = ps.foldl addR (gs.map hs) ∧ ∀ g ∈ ps.foldl addP gs, g ≠ [] ∧ ∀ a ∈ g, one a = one (hs g)
  | [], _, h => ⟨rfl, h⟩
  | p :: ps, gs, h => by
    obtain ⟨h1, h2⟩ := grp_step gs p h
    obtain ⟨h3, h4⟩ := grp_fold ps _ h2
    rw [List.foldl_cons, List.foldl_cons, ← h1]
    exact ⟨h3, h4⟩
theorem grp_mrg (ps : List Piece) : (grpP ps).map hs = mrgR ps := (grp_fold ps [] (fun _ h => by cases h)).1
theorem grpP_ne {ps g : List Piece} (h : g ∈ grpP ps) : g ≠ [] := ((grp_fold ps [] (fun _ h => by cases h)).2 g h).1
end Go.Proofs.YtijcbfhlhgjedaaGreatDoor

/- The piece at a place, by unit pieces. -/
namespace Go.Proofs.YtijcbfhlhgjedaaGreatDoor
open Go.RowKit Go.Shelf Go.Sort Go.Proofs

theorem at_units {ps : List Piece} (h : ∀ q ∈ ps, 0 ≤ q.len) {x : Int} {i : Nat} {p : Piece} (h0 : 0 ≤ x) (ha : At ps x i) (hp : ps[i]? = some p) : (units ps)[x.toNat]? = some (one p) := by
  obtain ⟨hi, h1, h2⟩ := ha
  have hpe : ps[i] = p := by rw [List.getElem?_eq_getElem hi] at hp; exact Option.some.inj hp
  have e := (List.take_append_drop i ps).symm
  rw [List.drop_eq_getElem_cons hi, hpe] at e
  have h3 : (units ps)[x.toNat]? = (units (ps.take i ++ p :: ps.drop (i + 1)))[x.toNat]? := congrArg (fun l => (units l)[x.toNat]?) e
  have h4 := units_len (ps := ps.take i) (fun q hq => h q (List.mem_of_mem_take hq))
  have h5 := sumL_take ps i hi
  rw [hpe] at h5
  rw [h3, units_append, units_cons, List.getElem?_append_right (by omega), List.getElem?_append_left (by rw [List.length_replicate]; omega), List.getElem?_replicate, if_pos (by omega)]
end Go.Proofs.YtijcbfhlhgjedaaGreatDoor

/- Where two surveys differ, plainly: place by place, and by stretches. -/
namespace Go.Proofs.YtijcbfhlhgjedaaGreatDoor
open Go.RowKit Go.Shelf Go.Sort Go.Proofs

end Go.Proofs.YtijcbfhlhgjedaaGreatDoor

/- The stretches of two surveys, plainly. -/
namespace Go.Proofs.YtijcbfhlhgjedaaGreatDoor
open Go.RowKit Go.Shelf Go.Sort Go.Proofs

theorem Lie.end_ {ps : List Piece} {i : Nat} {fr : Int} (hl : Lie ps i fr) (hi : ¬ i < ps.length) : fr = sumL ps := by
  have h1 := hl.lo
  rw [List.take_of_length_le (by omega)] at h1
  have := hl.up
  omega
end Go.Proofs.YtijcbfhlhgjedaaGreatDoor

/- stretches: the range over the stretches of two surveys. -/
namespace Go.Proofs.YtijcbfhlhgjedaaGreatDoor
open Go.RowKit Go.Shelf Go.Proofs

/-- stretches(a, b): a function value that has captured the boxes of both. -/
theorem stretches_any (g g2 : Nat) (w : World) :
    Calls Tryz.prog 27 #[.pointer (some ⟨g, 0, none⟩), .pointer (some ⟨g2, 0, none⟩)] w fun e w' => e = .returned (.func (.func 67) #[] #[.pointer (some ⟨w.heap.size, 0, none⟩), .pointer (some ⟨w.heap.size + 1, 0, none⟩)]) ∧
      w' = (w.alloc (.cells #[.pointer (some ⟨g, 0, none⟩)] 86)).alloc (.cells #[.pointer (some ⟨g2, 0, none⟩)] 86) := by
  go_enter Tryz.func27, Tryz.ntmps27
  go_wp2
  go_ret
  exact ⟨rfl, rfl⟩
/-- A stretch in range. -/
abbrev BS := { x : Str // pOk x.p = true ∧ pOk x.q = true ∧ 0 ≤ x.fr ∧ x.fr ≤ x.til ∧ x.til ≤ 500000000 }
def bsV (x : BS) : Array Value := #[.agg #[.int .i64 x.1.fr, .int .i64 x.1.til, .int .i64 x.1.p.len, .int .i64 x.1.p.turn, .int .i64 x.1.p.rad, .int .i64 x.1.p.wid, .int .i64 x.1.p.sur, .int .i64 x.1.q.len, .int .i64 x.1.q.turn, .int .i64 x.1.q.rad, .int .i64 x.1.q.wid, .int .i64 x.1.q.sur]]
end Go.Proofs.YtijcbfhlhgjedaaGreatDoor

/- stretches: the range over the stretches of two surveys: what the iterator hands to a loop's body. -/
namespace Go.Proofs.YtijcbfhlhgjedaaGreatDoor
open Go.RowKit Go.Shelf Go.Proofs

attribute [local go_sem] Oper.semAt_some

theorem strs_end {ps qs : List Piece} {f i j : Nat} {fr : Int} (h : ¬ i < ps.length) : strs ps qs f i j fr = [] := by
  have hn : ps[i]? = none := List.getElem?_eq_none (by omega)
  cases f with
  | zero => rfl
  | succ f => rw [strs, hn]
theorem At2.pre_ {ps qs : List Piece} {pre : List Str} {i j f : Nat} {fr : Int} (h : At2 ps qs pre i j fr f) : pre <+: strL ps qs := ⟨_, h.all⟩
set_option maxRecDepth 100000 in
set_option maxHeartbeats 4000000 in
theorem stretches1_in (n : Nat) (hn : 1 ≤ n) (l bm bm2 n0 g g2 : Nat) (pa : Option Addr) (pn pc : Nat) (ca : Option Addr) (cn cc : Nat) (ja : Option Addr) (jn jc : Nat) (ba : Option Addr) (bq : Nat) (R : Road)
    (pa2 : Option Addr) (pn2 pc2 : Nat) (ca2 : Option Addr) (cn2 cc2 : Nat) (ja2 : Option Addr) (jn2 jc2 : Nat) (ba2 : Option Addr) (bq2 : Nat) (R2 : Road)
    (hl : pn ≤ 2000) (hl2 : pn2 ≤ 2000) (hk : ∀ p ∈ R.ps, pOk p = true) (hk2 : ∀ p ∈ R2.ps, pOk p = true) (hs : sumL R.ps = sumL R2.ps) (J Jx : List BS → World → Prop)
    (hJA : ∀ (s : List BS) (A B : World), J s A → A.grownBy B none → J s B)
    (hY : ∀ pre x W, J pre W → pre.length < pn + pn2 → YieldAt Fence.wide (n - 1) Tryz.prog l (bsV x) W fun e W' =>
      (e = .returned (.bool true) ∧ J (pre ++ [x]) W' ∧ KB2 n0 bm bm2 W W') ∨ (e = .returned (.bool false) ∧ Jx (pre ++ [x]) W'))
    (W : World) (hm : W.cell? ⟨bm, 0, none⟩ = some (.pointer (some ⟨g, 0, none⟩))) (hm2 : W.cell? ⟨bm2, 0, none⟩ = some (.pointer (some ⟨g2, 0, none⟩))) (hbm : bm < W.heap.size) (hbm2 : bm2 < W.heap.size) (hn0 : n0 ≤ W.heap.size)
    (h : MS W n0 g pa pn pc ca cn cc ja jn jc ba bq R) (h2 : MS W n0 g2 pa2 pn2 pc2 ca2 cn2 cc2 ja2 jn2 jc2 ba2 bq2 R2) (h0 : J [] W) :
    CallsIn Fence.wide n Tryz.prog 67 #[.func (.yield l) #[] #[], .pointer (some ⟨bm, 0, none⟩), .pointer (some ⟨bm2, 0, none⟩)] W fun e W' => (∃ v, e = .returned v) ∧
      ((∃ ys : List BS, ys.map (·.1) = strL R.ps R2.ps ∧ J ys W') ∨ (∃ pre : List BS, pre.map (·.1) <+: strL R.ps R2.ps ∧ Jx pre W')) := by
  have hlp := Lib.hid h.r.p.1
  have hlp2 := Lib.hid h2.r.p.1
  have hM := Lib.hid h
  have hM2 := Lib.hid h2
  have g0 := h.c0
  have g1 := h.lt
  have g20 := h2.c0
  have g21 := h2.lt
  have hk' := Lib.hid hk
  have hk2' := Lib.hid hk2
  have hs' := Lib.hid hs
  have hp1 := Lib.hid (fun q (hq : q ∈ R.ps) => (pOk_len (hk q hq)).1)
  have hp2 := Lib.hid (fun q (hq : q ∈ R2.ps) => (pOk_len (hk2 q hq)).1)
  have hsb : sumL R.ps ≤ 500000000 := by have h1 := sumL_bd R.ps hk; have h2 := hlp.out; omega
  have hSB := Lib.hid hsb
  clear h h2 hk hk2 hs hsb
  have hat0 : Hid (At2 R.ps R2.ps [] 0 0 0 (R.ps.length + R2.ps.length)) := ⟨Lie.start hp1.out, Lie.start hp2.out, rfl, by omega⟩
  have hmo : Tryz.prog.follows .mixedOrders = true := by kernel_rfl
  refine callsIn_of_wp Tryz.func67 rfl trivial ?_ rfl
  simp only [Tryz.ntmps67, List.size_toArray, List.length_cons, List.length_nil, Nat.reduceAdd, Nat.reduceSub, Array.replicate_succ, Array.replicate_zero, List.push_toArray, List.append_toArray, List.nil_append, List.cons_append]
  gi_wp2
  gi_loopw [4, 5, 6] (fun i j fr wr => ∃ (ki kj f : Nat) (fi : Int) (pre : List BS), i = .int .i64 ki ∧ j = .int .i64 kj ∧ fr = .int .i64 fi ∧ Hid (At2 R.ps R2.ps (pre.map (·.1)) ki kj fi f) ∧ J pre wr ∧ KB2 n0 bm bm2 W wr ∧ W.heap.size ≤ wr.heap.size)
    (fun i j _ _ => (pn + pn2) - ((intOf i).toNat + (intOf j).toNat))
  case atStart => exact ⟨0, 0, _, 0, [], rfl, rfl, rfl, hat0, h0, KB2.refl _ _ _ _, Nat.le_refl _⟩
  case round =>
    obtain ⟨k, kj, f, fi, pre, rfl, rfl, rfl, hat, hJs, hnx, hsz⟩ := hrel
    have hkle := hat.out.l1.le
    have hkpn : k ≤ pn := by rw [hlp.out]; exact hkle
    have hkjle := hat.out.l2.le
    by_cases hlt : k < pn
    · have hkl : k < R.ps.length := by rw [← hlp.out]; exact hlt
      have hkjl : kj < R2.ps.length := hat.out.l1.both hat.out.l2 hs'.out hp1.out hkl
      have hltj : kj < pn2 := by have := hlp2.out; omega
      have hMw := hM.out.grow hnx.1 (Nat.le_refl _)
      have hMw2 := hM2.out.grow hnx.1 (Nat.le_refl _)
      have m0 := hMw.c0
      have m3 := hMw.c3
      have m20 := hMw2.c0
      have m23 := hMw2.c3
      have hmw : wr.cell? ⟨bm, 0, none⟩ = _ := (World.cell?_of_block hnx.2.1).trans hm
      have hmw2 : wr.cell? ⟨bm2, 0, none⟩ = _ := (World.cell?_of_block hnx.2.2).trans hm2
      obtain ⟨b, off, hA, hbB, c0, c1, c2, c3', c4⟩ := PS.at_ hMw.r.p (k := k) hkl
      obtain ⟨b2, off2, hA2, hbB2, d0, d1, d2, d3, d4⟩ := PS.at_ hMw2.r.p (k := kj) hkjl
      obtain ⟨b3, off3, hA3, hbB3, e0⟩ := IS.at_ hMw.b (k := k + 1) (by rw [bgk_len]; omega)
      obtain ⟨b4, off4, hA4, hbB4, e1⟩ := IS.at_ hMw2.b (k := kj + 1) (by rw [bgk_len]; omega)
      rw [bgk_at] at e0 e1
      have hpk := hk'.out _ (List.getElem_mem hkl)
      have hqk := hk2'.out _ (List.getElem_mem hkjl)
      obtain ⟨s1, hs1⟩ : ∃ s, s = sumL (R.ps.take (k + 1)) := ⟨_, rfl⟩
      obtain ⟨s2, hs2⟩ : ∃ s, s = sumL (R2.ps.take (kj + 1)) := ⟨_, rfl⟩
      obtain ⟨t, ht⟩ : ∃ t, t = min s1 s2 := ⟨_, rfl⟩
      obtain ⟨ht1, ht2, ht0, f', hf, hat1⟩ := hat.out.next hp1.out hp2.out hkl hkjl (t := t) (by rw [ht, hs1, hs2])
      have hlen := hat.out.len hkl hkjl
      rw [List.length_map, ← hlp.out, ← hlp2.out] at hlen
      have hn1 : Hid (nxI R.ps k t = if s1 = t then k + 1 else k) := by rw [hs1]; exact rfl
      have hn2 : Hid (nxI R2.ps kj t = if s2 = t then kj + 1 else kj) := by rw [hs2]; exact rfl
      have hite : (if s2 < s1 then s2 else s1) = t := by rw [ht]; split <;> omega
      rw [← hs1] at e0
      rw [← hs2] at e1
      generalize R.ps[k]'hkl = p at c0 c1 c2 c3' c4 hpk hat1
      generalize R2.ps[kj]'hkjl = q at d0 d1 d2 d3 d4 hqk hat1
      have htm : t ≤ 500000000 := by have := hSB.out; omega
      have X : ∃ x : BS, x.1 = ⟨fi, t, p, q⟩ := ⟨⟨⟨fi, t, p, q⟩, hpk, hqk, ht0, ht1, htm⟩, rfl⟩
      obtain ⟨x, hx⟩ := X
      have hz1 : bm < wr.heap.size := by omega
      have hz2 : bm2 < wr.heap.size := by omega
      have hi1 : (0 : Int) ≤ (k : Int) := by omega
      have hi2 : (k : Int) + 1 < (pn : Int) + 1 := by omega
      have hi3 : (0 : Int) ≤ (kj : Int) := by omega
      have hi4 : (kj : Int) + 1 < (pn2 : Int) + 1 := by omega
      have hAT1 : Hid (At2 R.ps R2.ps ((pre ++ [x]).map (·.1)) (nxI R.ps k t) (nxI R2.ps kj t) t f') := by
        rw [List.map_append, List.map_cons, List.map_nil, hx]; exact hat1
      have HPX := Lib.hid hat1.pre_
      have hYx := Lib.hid (fun W' hJ' => hY pre x W' hJ' (by omega))
      have HJs := Lib.hid hJs
      have HKB := Lib.hid hnx
      clear hat1 hMw hMw2 hY hat hf ht hs1 hs2 hkle hkjle ht1 ht2 hJs hnx hM hM2 hat0
      subst hA
      subst hA2
      subst hA3
      subst hA4
      have hwk : IntKind.i64.wrap ((k : Int) + 1) = (k : Int) + 1 := IntWalk.i64_in _ (by omega)
      have hwkj : IntKind.i64.wrap ((kj : Int) + 1) = (kj : Int) + 1 := IntWalk.i64_in _ (by omega)
      have htk : ((k : Int) + 1).toNat = k + 1 := by omega
      have htkj : ((kj : Int) + 1).toNat = kj + 1 := by omega
      have hi5 : (0 : Int) ≤ (k : Int) + 1 := by omega
      have hi6 : (0 : Int) ≤ (kj : Int) + 1 := by omega
      gi_wp2
      refine wpWIn_region_qt 17 hmo (by kernel_rfl) ?_
      simp only [List.take_succ_cons, List.take_zero, List.drop_succ_cons, List.drop_zero]
      have k1 := fun d os => cell_regrown hmw d os
      have k2 := fun d os => cell_regrown hmw2 d os
      have k3 := fun d os => cell_regrown m3 d os
      have k4 := fun d os => cell_regrown m23 d os
      have k5 := fun d os => cell_regrown e0 d os
      have k6 := fun d os => cell_regrown e1 d os
      repeat (quiet_step (fail))
      refine wpQuiet_nil ?_
      intro w1 hb1
      clear k1 k2 k3 k4 k5 k6
      gi_wp2
      have hB1 := Lib.hid hb1
      have q1 := (bc hb1 hz1).trans hmw
      have q2 := (bc hb1 hz2).trans hmw2
      have q3 := (bc hb1 (show g < wr.heap.size by omega)).trans m0
      have q4 := (bc hb1 (show g2 < wr.heap.size by omega)).trans m20
      have v0 := (bc hb1 (show b < wr.heap.size by omega)).trans c0
      have v1 := (bc hb1 (show b < wr.heap.size by omega)).trans c1
      have v2 := (bc hb1 (show b < wr.heap.size by omega)).trans c2
      have v3 := (bc hb1 (show b < wr.heap.size by omega)).trans c3'
      have v4 := (bc hb1 (show b < wr.heap.size by omega)).trans c4
      have u0 := (bc hb1 (show b2 < wr.heap.size by omega)).trans d0
      have u1 := (bc hb1 (show b2 < wr.heap.size by omega)).trans d1
      have u2 := (bc hb1 (show b2 < wr.heap.size by omega)).trans d2
      have u3 := (bc hb1 (show b2 < wr.heap.size by omega)).trans d3
      have u4 := (bc hb1 (show b2 < wr.heap.size by omega)).trans d4
      refine wpWIn_region_qt 21 hmo (by kernel_rfl) ?_
      simp only [List.take_succ_cons, List.take_zero, List.drop_succ_cons, List.drop_zero]
      have kq1 := fun d os => cell_regrown q1 d os
      have kq2 := fun d os => cell_regrown q2 d os
      have kq3 := fun d os => cell_regrown q3 d os
      have kq4 := fun d os => cell_regrown q4 d os
      have kv0 := fun d os => cell_regrown v0 d os
      have kv1 := fun d os => cell_regrown v1 d os
      have kv2 := fun d os => cell_regrown v2 d os
      have kv3 := fun d os => cell_regrown v3 d os
      have kv4 := fun d os => cell_regrown v4 d os
      have ku0 := fun d os => cell_regrown u0 d os
      have ku1 := fun d os => cell_regrown u1 d os
      have ku2 := fun d os => cell_regrown u2 d os
      have ku3 := fun d os => cell_regrown u3 d os
      have ku4 := fun d os => cell_regrown u4 d os
      repeat (quiet_step (fail))
      refine wpQuiet_nil ?_
      intro w2 hb2
      clear kq1 kq2 kq3 kq4 kv0 kv1 kv2 kv3 kv4 ku0 ku1 ku2 ku3 ku4 q1 q2 q3 q4 v0 v1 v2 v3 v4 u0 u1 u2 u3 u4
      have hbw := hb1.trans (hb2.mono hb1.size)
      have hJ2 : J pre w2 := hJA pre wr w2 HJs.out (grownBy_of_below hbw)
      have hy2 := hYx.out w2 hJ2
      have hbA : KB2 n0 bm bm2 wr w2 := KB2.of_below hbw (by omega) (by omega) (by omega)
      have hy3 := hy2.mono (R' := fun e W' => ∃ b : Bool, e = .returned (.bool b) ∧ (b = true → J (pre ++ [x]) W' ∧ KB2 n0 bm bm2 wr W' ∧ wr.heap.size ≤ W'.heap.size) ∧ (b = false → Jx (pre ++ [x]) W')) (by
        rintro e W' (⟨rfl, h1, h2⟩ | ⟨rfl, h1⟩)
        · exact ⟨true, rfl, fun _ => ⟨h1, hbA.t h2, by have := h2.1.size; have := hbw.size; omega⟩, (fun h => by cases h)⟩
        · exact ⟨false, rfl, (fun h => by cases h), fun _ => h1⟩)
      obtain ⟨fn, tmps, assign, body, hy, hR⟩ := hy3
      have HR := Lib.hid hR
      simp only [bsV, hx] at hy
      clear hR hy2 hJ2 hYx hb1 hb2 hbw hbA
      gi_upto_if 55 with (refine HR.out.mono ?_; rintro e W3 ⟨b, rfl, hpost⟩; have hpost' := Lib.hid hpost; clear hpost)
      cases b
      · gi_wp2
        refine bodyPost_ret (results_none rfl _ _ _) rfl ?_
        exact ⟨⟨_, rfl⟩, .inr ⟨pre ++ [x], hAT1.out.pre_, hpost'.out.2 (by trivial)⟩⟩
      · have h1 := (hpost'.out.1 (by trivial)).1
        have h2 := (hpost'.out.1 (by trivial)).2.1
        have h3 := (hpost'.out.1 (by trivial)).2.2
        have r1 : W3.cell? ⟨bm, 0, none⟩ = _ := (World.cell?_of_block h2.2.1).trans hmw
        have r2 : W3.cell? ⟨bm2, 0, none⟩ = _ := (World.cell?_of_block h2.2.2).trans hmw2
        have r3 := (bc h2.1 g1).trans m3
        have r4 := (bc h2.1 g21).trans m23
        have r5 := (bc h2.1 hbB3).trans e0
        have r6 := (bc h2.1 hbB4).trans e1
        have hor : s1 = t ∨ s2 = t := by omega
        by_cases c1 : s1 = t
        · by_cases c2 : s2 = t
          case pos =>
            have eas1 : (s1 == t) = true := by simpa using c1
            have eas2 : (s2 == t) = true := by simpa using c2
            have hk1 : Hid (nxI R.ps k t = k + 1) := by rw [hn1.out, if_pos c1]; exact rfl
            have hk2 : Hid (nxI R2.ps kj t = kj + 1) := by rw [hn2.out, if_pos c2]; exact rfl
            clear c1 c2 hn1 hn2
            gi_wp2
            go_roundw
            case rel => exact ⟨nxI R.ps k t, nxI R2.ps kj t, f', t, pre ++ [x], by rw [hk1.out]; try go_num, by rw [hk2.out]; try go_num, rfl, hAT1, h1, HKB.out.t h2, by omega⟩
            case measure => simp [intOf]; omega
          case neg =>
            have ebs1 : (s1 == t) = true := by simpa using c1
            have ebs2 : (s2 == t) = false := by simpa using c2
            have hk1 : Hid (nxI R.ps k t = k + 1) := by rw [hn1.out, if_pos c1]; exact rfl
            have hk2 : Hid (nxI R2.ps kj t = kj) := by rw [hn2.out, if_neg c2]; exact rfl
            clear c1 c2 hn1 hn2
            gi_wp2
            go_roundw
            case rel => exact ⟨nxI R.ps k t, nxI R2.ps kj t, f', t, pre ++ [x], by rw [hk1.out]; try go_num, by rw [hk2.out]; try go_num, rfl, hAT1, h1, HKB.out.t h2, by omega⟩
            case measure => simp [intOf]; omega
        · have c2 : s2 = t := by omega
          have ecs1 : (s1 == t) = false := by simpa using c1
          have ecs2 : (s2 == t) = true := by simpa using c2
          have hk1 : Hid (nxI R.ps k t = k) := by rw [hn1.out, if_neg c1]; exact rfl
          have hk2 : Hid (nxI R2.ps kj t = kj + 1) := by rw [hn2.out, if_pos c2]; exact rfl
          clear c1 c2 hn1 hn2
          gi_wp2
          go_roundw
          case rel => exact ⟨nxI R.ps k t, nxI R2.ps kj t, f', t, pre ++ [x], by rw [hk1.out]; try go_num, by rw [hk2.out]; try go_num, rfl, hAT1, h1, HKB.out.t h2, by omega⟩
          case measure => simp [intOf]; omega
    · obtain rfl : k = pn := by omega
      have hall : Hid (pre.map (·.1) = strL R.ps R2.ps) := by
        have h1 := hat.out.all
        rw [strs_end (by rw [← hlp.out]; omega), List.append_nil] at h1
        exact h1
      have hMw := hM.out.grow hnx.1 (Nat.le_refl _)
      have m0 := hMw.c0
      have hmw : wr.cell? ⟨bm, 0, none⟩ = _ := (World.cell?_of_block hnx.2.1).trans hm
      have HKB := Lib.hid hnx
      clear hMw
      gi_wp2
      go_end0
      exact ⟨⟨_, rfl⟩, .inl ⟨pre, hall.out, hJs⟩⟩
/-- The iterator's contract. -/
theorem stretches_stops (n : Nat) (hn : 1 ≤ n) (bm bm2 n0 g g2 : Nat) (pa : Option Addr) (pn pc : Nat) (ca : Option Addr) (cn cc : Nat) (ja : Option Addr) (jn jc : Nat) (ba : Option Addr) (bq : Nat) (R : Road)
    (pa2 : Option Addr) (pn2 pc2 : Nat) (ca2 : Option Addr) (cn2 cc2 : Nat) (ja2 : Option Addr) (jn2 jc2 : Nat) (ba2 : Option Addr) (bq2 : Nat) (R2 : Road)
    (hl : pn ≤ 2000) (hl2 : pn2 ≤ 2000) (hk : ∀ p ∈ R.ps, pOk p = true) (hk2 : ∀ p ∈ R2.ps, pOk p = true) (hs : sumL R.ps = sumL R2.ps) (w : World)
    (hm : w.cell? ⟨bm, 0, none⟩ = some (.pointer (some ⟨g, 0, none⟩))) (hm2 : w.cell? ⟨bm2, 0, none⟩ = some (.pointer (some ⟨g2, 0, none⟩))) (hbm : bm < w.heap.size) (hbm2 : bm2 < w.heap.size) (hn0 : n0 ≤ w.heap.size)
    (h : MS w n0 g pa pn pc ca cn cc ja jn jc ba bq R) (h2 : MS w n0 g2 pa2 pn2 pc2 ca2 cn2 cc2 ja2 jn2 jc2 ba2 bq2 R2) :
    SeqStopsK Fence.wide n Tryz.prog 67 #[.pointer (some ⟨bm, 0, none⟩), .pointer (some ⟨bm2, 0, none⟩)] bsV (KB2 n0 bm bm2) (fun ys => ys.map (·.1) = strL R.ps R2.ps) (fun pre => pre.map (·.1) <+: strL R.ps R2.ps) (pn + pn2) w := by
  intro l J Jx W hW hJ hJx hY h0
  have hb := hW.mono hn0
  exact stretches1_in n hn l bm bm2 n0 g g2 pa pn pc ca cn cc ja jn jc ba bq R pa2 pn2 pc2 ca2 cn2 cc2 ja2 jn2 jc2 ba2 bq2 R2 hl hl2 hk hk2 hs J Jx (fun s A B hs hg => hJ s A B none hs hg (fun r e => by cases e)) hY W ((bc hW hbm).trans hm) ((bc hW hbm2).trans hm2)
    (Nat.lt_of_lt_of_le hbm hW.size) (Nat.lt_of_lt_of_le hbm2 hW.size) (Nat.le_trans hn0 hW.size) (h.grow hb (Nat.le_refl _)) (h2.grow hb (Nat.le_refl _)) h0
end Go.Proofs.YtijcbfhlhgjedaaGreatDoor

/- A reversed road is as defined. Plain; no program in sight. -/
namespace Go.Proofs.YtijcbfhlhgjedaaGreatDoor
open Go.RowKit Go.Proofs

theorem getE_pw {α : Type} (f : α → Int) : ∀ (l : List α), (∀ i, i < l.length → ∀ c d, l[i]? = some c → 0 < i → l[i-1]? = some d → f d < f c) → l.Pairwise fun a b => f a < f b
  | [], _ => List.Pairwise.nil
  | [_], _ => List.pairwise_singleton ..
  | a :: b :: l, h => by
    have ih := getE_pw f (b :: l) (fun i hi c d hc h0 hd => h (i + 1) (by simp at hi ⊢; omega) c d (by simpa using hc) (by omega) (by
      obtain ⟨j, rfl⟩ : ∃ j, i = j + 1 := ⟨i - 1, by omega⟩
      simpa using hd))
    have hab := h 1 (by simp) b a rfl (by omega) rfl
    refine List.pairwise_cons.2 ⟨fun x hx => ?_, ih⟩
    rcases List.mem_cons.1 hx with rfl | hx
    · exact hab
    · have := (List.pairwise_cons.1 ih).1 x hx; omega
theorem pw_getE {α : Type} {f : α → Int} {l : List α} (h : l.Pairwise fun a b => f a < f b) (i : Nat) {c d : α} (hc : l[i]? = some c) (h0 : 0 < i) (hd : l[i-1]? = some d) : f d < f c := by
  obtain ⟨h1, rfl⟩ := List.getElem?_eq_some_iff.1 hc
  obtain ⟨h2, rfl⟩ := List.getElem?_eq_some_iff.1 hd
  exact List.pairwise_iff_getElem.1 h (i-1) i h2 h1 (by omega)
theorem crests_iff (n : Int) (cs : List Crest) : (∀ i, i < cs.length → cAt n cs i) ↔ (∀ c ∈ cs, inR c.pos 0 n = true ∧ inR c.siz 1 3 = true) ∧ cs.Pairwise fun a b => a.pos < b.pos := by
  constructor
  · intro h
    refine ⟨fun c hc => ?_, getE_pw Crest.pos cs (fun i hi c d hc h0 hd => (h i hi c hc).2.2 d h0 hd)⟩
    obtain ⟨i, hi, rfl⟩ := List.getElem_of_mem hc
    have := h i hi _ (List.getElem?_eq_getElem hi)
    exact ⟨this.1, this.2.1⟩
  · rintro ⟨h1, h2⟩ i hi c hc
    have hm := h1 c (List.mem_of_getElem? hc)
    exact ⟨hm.1, hm.2, fun d h0 hd => pw_getE (f := Crest.pos) h2 i hc h0 hd⟩
theorem juncs_iff (n : Int) (js : List Junc) : (∀ i, i < js.length → jAt n js i) ↔ (∀ c ∈ js, inR c.pos 0 n = true ∧ inR c.arms 2 6 = true ∧ inR c.way 1 c.arms = true) ∧ js.Pairwise fun a b => a.pos < b.pos := by
  constructor
  · intro h
    refine ⟨fun c hc => ?_, getE_pw Junc.pos js (fun i hi c d hc h0 hd => (h i hi c hc).2.2.2 d h0 hd)⟩
    obtain ⟨i, hi, rfl⟩ := List.getElem_of_mem hc
    have := h i hi _ (List.getElem?_eq_getElem hi)
    exact ⟨this.1, this.2.1, this.2.2.1⟩
  · rintro ⟨h1, h2⟩ i hi c hc
    have hm := h1 c (List.mem_of_getElem? hc)
    exact ⟨hm.1, hm.2.1, hm.2.2, fun d h0 hd => pw_getE (f := Junc.pos) h2 i hc h0 hd⟩
end Go.Proofs.YtijcbfhlhgjedaaGreatDoor
