/- The range over a road's pieces: what the iterator of a measured road hands to a loop's body, for every body that keeps old memory. -/
import Derived.Test.YtijcbfhlhgjedaaDoorCAll
import Derived.RangeFuncNested
import Derived.RangeFuncBound
import Derived.RangeFuncCalls
import Derived.RangeFuncLeaves
import Derived.Shelf.Abstract
import Derived.Shelf.RegionOpen
import Derived.OwnWalkIn
import Derived.TacticsInMore
import Derived.LoopNIn
import Derived.LoopIn
import Derived.BigRegionIn
import Derived.Test.YtijcbfhlhgjedaaDoorProg
import Derived.WalkKit
import Derived.WalkSpells
import Derived.Deep.Draws
import Derived.Lib.Hide
import Derived.Maps.AppendAt
import Derived.WalkLawsBesides
import Derived.Deep.QuietTactic
import Derived.BigQuiet
import Derived.BigGuardPart
import Derived.Deep.RegionHeld3
import Derived.StillTail
import Derived.OrdersIn
import Derived.TacticsIn
import Derived.Lib.QuietBelow
import Derived.Deep.CutBlock
import Derived.Deep.AppendLies
import Derived.Deep.RegionLaw
import Derived.Maps.OwnIn
import Derived.RegionTactic
import Derived.BigRegion
import Derived.Lib.AppendZeros
namespace Go.Proofs.YtijcbfhlhgjedaaDoor
open Go.RowKit Go.Shelf Go.Proofs

attribute [local go_sem] Oper.semAt_some

/-- A piece with its beginning, both in range. -/
abbrev BP := { x : Int × Piece // pOk x.2 = true ∧ 0 ≤ x.1 ∧ x.1 ≤ 500000000 }
def bpV (x : BP) : Array Value := #[.int .i64 x.1.1, .agg #[.int .i64 x.1.2.len, .int .i64 x.1.2.turn, .int .i64 x.1.2.rad, .int .i64 x.1.2.wid, .int .i64 x.1.2.sur]]
theorem its_len : ∀ (b : Int) (ps : List Piece), (its b ps).length = ps.length
  | _, [] => rfl
  | b, p :: ps => by simp [its, its_len (b + p.len) ps]
theorem its_at : ∀ (b : Int) (ps : List Piece) (k : Nat) (h : k < ps.length), (its b ps)[k]? = some (b + sumL (ps.take k), ps[k])
  | _, [], k, h => by simp at h
  | b, p :: ps, 0, _ => by simp [its, sumL]
  | b, p :: ps, k + 1, h => by
    have := its_at (b + p.len) ps k (by simpa using h)
    simp only [its, List.getElem?_cons_succ, this, List.take_succ_cons, List.getElem_cons_succ]
    simp [sumL]; omega
theorem its_take (ps : List Piece) (k : Nat) (h : k < ps.length) : (its 0 ps).take (k + 1) = (its 0 ps).take k ++ [(sumL (ps.take k), ps[k])] := by
  have h1 := its_at 0 ps k h
  rw [Int.zero_add] at h1
  rw [List.take_add_one, h1]
  rfl
set_option maxRecDepth 100000 in
set_option maxHeartbeats 2000000 in
theorem all1_in (n : Nat) (hn : 1 ≤ n) (l bm n0 g : Nat) (pa : Option Addr) (pn pc : Nat) (ca : Option Addr) (cn cc : Nat) (ja : Option Addr) (jn jc : Nat) (ba : Option Addr) (bq : Nat) (R : Road)
    (hl : pn ≤ 100000) (hk : ∀ p ∈ R.ps, pOk p = true) (J Jx : List BP → World → Prop)
    (hJA : ∀ (s : List BP) (A B : World), J s A → A.grownBy B none → J s B)
    (hY : ∀ pre x W, J pre W → pre.length < pn → YieldAt Fence.wide (n - 1) Tryd.prog l (bpV x) W fun e W' =>
      (e = .returned (.bool true) ∧ J (pre ++ [x]) W' ∧ KB n0 bm W W') ∨ (e = .returned (.bool false) ∧ Jx (pre ++ [x]) W'))
    (W : World) (hm : W.cell? ⟨bm, 0, none⟩ = some (.pointer (some ⟨g, 0, none⟩))) (hbm : bm < W.heap.size) (hn0 : n0 ≤ W.heap.size) (h : MS W n0 g pa pn pc ca cn cc ja jn jc ba bq R) (h0 : J [] W) :
    CallsIn Fence.wide n Tryd.prog 111 #[.func (.yield l) #[] #[], .pointer (some ⟨bm, 0, none⟩)] W fun e W' => (∃ v, e = .returned v) ∧
      ((∃ ys : List BP, ys.map (·.1) = its 0 R.ps ∧ J ys W') ∨ (∃ pre : List BP, (∃ k, k ≤ pn ∧ pre.map (·.1) = (its 0 R.ps).take k) ∧ Jx pre W')) := by
  have hlp := Lib.hid h.r.p.1
  have hM := Lib.hid h
  have g0 := h.c0
  have g1 := h.lt
  have hk' := Lib.hid hk
  clear h hk
  refine callsIn_of_wp Tryd.func111 rfl trivial ?_ rfl
  simp only [Tryd.ntmps111, List.size_toArray, List.length_cons, List.length_nil, Nat.reduceAdd, Nat.reduceSub, Array.replicate_succ, Array.replicate_zero, List.push_toArray, List.append_toArray, List.nil_append, List.cons_append]
  gi_wp2
  gi_loopw [11] (fun i wr => ∃ (k : Nat) (pre : List BP), k ≤ pn ∧ i = .int .i64 k ∧ Hid (pre.map (·.1) = (its 0 R.ps).take k) ∧ J pre wr ∧ KB n0 bm W wr ∧ W.heap.size ≤ wr.heap.size)
    (fun i _ => pn - (intOf i).toNat)
  case atStart => exact ⟨0, [], Nat.zero_le _, rfl, rfl, h0, KB.refl _ _ _, Nat.le_refl _⟩
  case round =>
    obtain ⟨k, pre, hkn, rfl, hpre, hJs, hnx, hsz⟩ := hrel
    by_cases hlt : k < pn
    · have hkl : k < R.ps.length := by rw [← hlp.out]; exact hlt
      have hMw := hM.out.grow hnx.1 (Nat.le_refl _)
      have c3 := hMw.c3
      have hmw := hnx.cell.trans hm
      obtain ⟨b, off, hA, hbB, c0, c1, c2, c3', c4⟩ := PS.at_ hMw.r.p (k := k) hkl
      obtain ⟨b2, off2, hA2, hbB2, d0⟩ := IS.at_ hMw.b (k := k) (by rw [bgk_len]; omega)
      rw [bgk_at] at d0
      have hpk := hk'.out _ (List.getElem_mem hkl)
      have hpl : pre.length = k := by
        have := congrArg List.length hpre.out
        rw [List.length_map, List.length_take, its_len] at this
        omega
      have hbd : 0 ≤ sumL (R.ps.take k) ∧ sumL (R.ps.take k) ≤ 500000000 := by
        have h1 := sumL_bd (R.ps.take k) (fun p hp => hk'.out p (List.mem_of_mem_take hp))
        have h2 : (R.ps.take k).length ≤ k := List.length_take_le ..
        omega
      have hst := Lib.hid (its_take R.ps k hkl)
      generalize R.ps[k]'hkl = p at c0 c1 c2 c3' c4 hpk hst
      have X : ∃ x : BP, x.1 = (sumL (R.ps.take k), p) := ⟨⟨(sumL (R.ps.take k), p), hpk, hbd⟩, rfl⟩
      obtain ⟨x, hx⟩ := X
      have hbd1 := hbd.1
      have hbd2 := hbd.2
      have hz1 : bm < wr.heap.size := by omega
      have hz2 : g < wr.heap.size := by omega
      have hz3 : b < wr.heap.size := by omega
      have hz4 : b2 < wr.heap.size := by omega
      have hi1 : (0 : Int) ≤ (k : Int) := by omega
      have hi2 : (k : Int) < (pn : Int) + 1 := by omega
      have hYx := Lib.hid (fun W' hJ' => hY pre x W' hJ' (by omega))
      have hpx : (pre ++ [x]).map (·.1) = (its 0 R.ps).take (k + 1) := by rw [List.map_append, hpre.out, hst.out]; simp [hx]
      have HPX := Lib.hid hpx
      clear hpx
      clear hMw hbd hY
      subst hA
      subst hA2
      have hmo : Tryd.prog.follows .mixedOrders = true := by kernel_rfl
      have hJ2 : J pre ((wr.alloc (.cells #[.int .i64 p.len, .int .i64 p.turn, .int .i64 p.rad, .int .i64 p.wid, .int .i64 p.sur] 105)).drew) :=
        hJA pre wr _ hJs ⟨rfl, rfl, rfl, by simp, fun i hi _ => Below.heap_alloc wr _ i hi⟩
      have hy2 := hYx.out _ hJ2
      have hbA : KB n0 bm wr ((wr.alloc (.cells #[.int .i64 p.len, .int .i64 p.turn, .int .i64 p.rad, .int .i64 p.wid, .int .i64 p.sur] 105)).drew) := KB.of_below ((Below.refl wr.heap.size wr).alloc (Nat.le_refl _) _).drew (by omega) (by omega)
      have hy3 := hy2.mono (R' := fun e W' => ∃ b : Bool, e = .returned (.bool b) ∧ (b = true → J (pre ++ [x]) W' ∧ KB n0 bm wr W' ∧ wr.heap.size ≤ W'.heap.size) ∧ (b = false → Jx (pre ++ [x]) W')) (by
        rintro e W' (⟨rfl, h1, h2⟩ | ⟨rfl, h1⟩)
        · exact ⟨true, rfl, fun _ => ⟨h1, hbA.t h2, by have := h2.1.size; simp at this; omega⟩, (fun h => by cases h)⟩
        · exact ⟨false, rfl, (fun h => by cases h), fun _ => h1⟩)
      obtain ⟨fn, tmps, assign, body, hy, hR⟩ := hy3
      have HR := Lib.hid hR
      simp only [bpV, hx] at hy
      clear hR hy2 hJ2 hYx
      gi_wp2
      gi_region_with_o ((refine HR.out.mono ?_; rintro e W3 ⟨b, rfl, hpost⟩; have hpost' := Lib.hid hpost; clear hpost))
      all_goals
        cases b
        · gi_wp2
          refine bodyPost_ret (results_none rfl _ _ _) rfl ?_
          exact ⟨⟨_, rfl⟩, .inr ⟨pre ++ [x], ⟨k + 1, by omega, HPX.out⟩, hpost'.out.2 (by trivial)⟩⟩
        · have h1 := (hpost'.out.1 (by trivial)).1
          have h2 := (hpost'.out.1 (by trivial)).2.1
          have h3 := (hpost'.out.1 (by trivial)).2.2
          gi_wp2
          go_roundw
          case rel => exact ⟨k + 1, pre ++ [x], by omega, by go_num, HPX, h1, hnx.t h2, by omega⟩
          case measure => simp [intOf]; omega
    · obtain rfl : k = pn := by omega
      have hall : Hid (pre.map (·.1) = its 0 R.ps) := by
        have := hpre.out
        rw [hlp.out, List.take_of_length_le (by rw [its_len]; exact Nat.le_refl _)] at this
        exact this
      gi_wp2
      go_end0
      exact ⟨⟨_, rfl⟩, .inl ⟨pre, hall.out, hJs⟩⟩
/-- The iterator's contract. -/
theorem all_stops (n : Nat) (hn : 1 ≤ n) (bm n0 g : Nat) (pa : Option Addr) (pn pc : Nat) (ca : Option Addr) (cn cc : Nat) (ja : Option Addr) (jn jc : Nat) (ba : Option Addr) (bq : Nat) (R : Road)
    (hl : pn ≤ 100000) (hk : ∀ p ∈ R.ps, pOk p = true) (w : World) (hm : w.cell? ⟨bm, 0, none⟩ = some (.pointer (some ⟨g, 0, none⟩))) (hbm : bm < w.heap.size) (hn0 : n0 ≤ w.heap.size)
    (h : MS w n0 g pa pn pc ca cn cc ja jn jc ba bq R) :
    SeqStopsK Fence.wide n Tryd.prog 111 #[.pointer (some ⟨bm, 0, none⟩)] bpV (KB n0 bm) (fun ys => ys.map (·.1) = its 0 R.ps) (fun pre => ∃ k, k ≤ pn ∧ pre.map (·.1) = (its 0 R.ps).take k) pn w := by
  intro l J Jx W hW hJ hJx hY h0
  have hb := hW.mono hn0
  exact all1_in n hn l bm n0 g pa pn pc ca cn cc ja jn jc ba bq R hl hk J Jx (fun s A B hs hg => hJ s A B none hs hg (fun r e => by cases e)) hY W ((bc hW hbm).trans hm) (Nat.lt_of_lt_of_le hbm hW.size) (Nat.le_trans hn0 hW.size) (h.grow hb (Nat.le_refl _)) h0
/-- m.all(): a function value that has captured the box of m. -/
theorem all_any (g : Nat) (w : World) :
    Calls Tryd.prog 99 #[.pointer (some ⟨g, 0, none⟩)] w fun e w' => e = .returned (.func (.func 111) #[] #[.pointer (some ⟨w.heap.size, 0, none⟩)]) ∧ w' = w.alloc (.cells #[.pointer (some ⟨g, 0, none⟩)] 143) := by
  go_enter Tryd.func99, Tryd.ntmps99
  go_wp2
  go_ret
  exact ⟨rfl, rfl⟩
end Go.Proofs.YtijcbfhlhgjedaaDoor

/- A region that draws its order: its first operations only read or make quiet calls, in any order; the rest comes last, in one forced order. One walk of the text's order serves every order. Plain theorems over any program, outside a fence and inside a loop's round. -/
namespace Go.Proofs.YtijcbfhlhgjedaaDoor
open Go.RowKit Go.Sort

section
variable {P : Program} {ops : Array Oper} {md : Region.Mode} {C : World → Prop}

/-! ### Inside a round of a loop over an iterator (the wide fence) -/
variable {lp m : Nat}
end
section
variable {P : Program}
end
end Go.Proofs.YtijcbfhlhgjedaaDoor

/- A drawn region with a new block among its operations: quiet operations 0 .. n - 1, an allocation at n that may come up at any time, and a tail in one forced order. One walk serves every order. Plain theorems over any program. -/
namespace Go.Proofs.YtijcbfhlhgjedaaDoor
open Go.RowKit Go.Sort

section
variable {P : Program} {ops : Array Oper} {md : Region.Mode} {C : World → Prop}
variable {n : Nat} {d : Tmp} {t : TypeId} {zs : Array Value} {B : Nat} {oa : Oper}
end
attribute [go_sem] tame tAt tUpon
end Go.Proofs.YtijcbfhlhgjedaaDoor

/- A drawn region whose head reads, calls (the calls in one forced chain; each may make memory) and makes at most one block: one walk of the text's order serves every order. Plain theorems over any program. -/
namespace Go.Proofs.YtijcbfhlhgjedaaDoor
open Go.RowKit Go.Sort

section
variable {P : Program} {ops : Array Oper} {md : Region.Mode} {C : World → Prop}
/-! ### Steps -/
variable {k : Nat} {ns ks : List Nat} {Lq : Act → Fact → Prop} {o : Oper} {rest : List Oper} {a : Act} {Φ : Fact}
end
attribute [go_sem] qAt qUpon
end Go.Proofs.YtijcbfhlhgjedaaDoor

/- The laws of Reg3 for a region inside a loop's round. Plain theorems over any program. -/
namespace Go.Proofs.YtijcbfhlhgjedaaDoor
open Go.RowKit Go.Sort

section
variable {P : Program} {ops : Array Oper} {md : Region.Mode} {C : World → Prop} {lp mr : Nat}
end
/-! ### Under the wide fence, outside a round -/
section
variable {P : Program} {ops : Array Oper} {md : Region.Mode} {C : World → Prop} {m : Nat}
end
end Go.Proofs.YtijcbfhlhgjedaaDoor

/- The laws of Reg3, with blocks that float and are filled by a store of their own, which floats too. Printed by genreg5.py. Plain theorems over any program. -/
namespace Go.Proofs.YtijcbfhlhgjedaaDoor
open Go.RowKit Go.Sort

section
variable {P : Program} {ops : Array Oper} {md : Region.Mode} {C : World → Prop} {st : Fact → Prop} {G : Nat → Act → Prop}
section
variable {lp mr : Nat}
end

/-! ### Steps -/
variable {k : Nat} {ns ks : List Nat} {Lq : Act → Fact → Prop} {o : Oper} {rest : List Oper} {a : Act} {Φ : Fact}
end
end Go.Proofs.YtijcbfhlhgjedaaDoor

/- The turning up to a place: the plain function, and the road package's loop over its iterator. -/
namespace Go.Proofs.YtijcbfhlhgjedaaDoor
open Go.RowKit Go.Shelf Go.Sort Go.Proofs

attribute [local go_sem] Oper.semAt_some

end Go.Proofs.YtijcbfhlhgjedaaDoor

/- How far one sees: what the answer is, and the reference's walk. -/
namespace Go.Proofs.YtijcbfhlhgjedaaDoor
open Go.RowKit Go.Shelf Go.Sort Go.Proofs

theorem OK.cpos {R : Road} (h : OK R) : ∀ c ∈ R.cs, 0 ≤ c.pos ∧ c.pos ≤ sumL R.ps := by
  intro c hc
  obtain ⟨i, hi, rfl⟩ := List.getElem_of_mem hc
  have := (h.ck i hi _ (List.getElem?_eq_getElem hi)).1
  simpa [inR] using this
end Go.Proofs.YtijcbfhlhgjedaaDoor

/- The search for sight, piece by piece: that what the loop gathers is the sight. Plain; no program. -/
namespace Go.Proofs.YtijcbfhlhgjedaaDoor
open Go.RowKit Go.Proofs

section
variable (pl M an bg : Int)
end
section
variable {ps : List Piece} {pl M an : Int}
end
end Go.Proofs.YtijcbfhlhgjedaaDoor

/- road.Sight: the search piece by piece, over the iterator. -/
namespace Go.Proofs.YtijcbfhlhgjedaaDoor
open Go.RowKit Go.Shelf Go.Sort Go.Proofs

attribute [local go_sem] Oper.semAt_some

end Go.Proofs.YtijcbfhlhgjedaaDoor

/- road.Sight: what is refused. -/
namespace Go.Proofs.YtijcbfhlhgjedaaDoor
open Go.RowKit Go.Shelf Go.Sort Go.Proofs

end Go.Proofs.YtijcbfhlhgjedaaDoor

/- Bends: their groups, plainly; the test whether two of them lie together. -/
namespace Go.Proofs.YtijcbfhlhgjedaaDoor
open Go.RowKit Go.Shelf Go.Sort Go.Proofs

end Go.Proofs.YtijcbfhlhgjedaaDoor

/- append of one element onto a row of the call's own, with the place where the new row lies: in a plain region, and at a step of a region that draws. Plain theorems over any program. -/
namespace Go.Proofs.YtijcbfhlhgjedaaDoor
open Go.RowKit Go.Proofs

section
variable {α : Type} {P : Program} {f : α → List Value} {sz : Nat} {e : TypeId} {base : Nat} {W : World} {A : Option Addr} {n c : Nat} {xs : List α} {y : α}
end
end Go.Proofs.YtijcbfhlhgjedaaDoor

/- Groups of bends: plainly, and how they lie in memory. -/
namespace Go.Proofs.YtijcbfhlhgjedaaDoor
open Go.RowKit Go.Shelf Go.Sort Go.Proofs

section
variable {w w' : World} {base n c : Nat} {A : Option Addr} {gs ds : List (Hdr × List Bd)} {q : Hdr × List Bd}
end
end Go.Proofs.YtijcbfhlhgjedaaDoor

/- grouped, for bends that lie together. -/
namespace Go.Proofs.YtijcbfhlhgjedaaDoor
open Go.RowKit Go.Shelf Go.Sort Go.Proofs

end Go.Proofs.YtijcbfhlhgjedaaDoor

/- append of one element, inside a fence. Plain theorem over any program. -/
namespace Go.Proofs.YtijcbfhlhgjedaaDoor
open Go.RowKit Go.Proofs

theorem wpListIn_app {F : Fence} {nF : Nat} {α : Type} {P : Program} {W : World} {ops : Array Oper} {rest : List Oper} {o : Oper} {a : Act} {Q : Exit → Act → World → Prop} (hgd : o.guard = none) (s x : Operand) (t : TypeId)
    (ho : o.op = .call { callee := .builtin .append, args := #[s, x], argTypes := #[t, t] })
    (base : Nat) (e : TypeId) (z : Value) (sz bytes : Nat) (ht : P.underlying t = some (.slice e)) (hi : (P.info? e).map (fun i => (i.zero, i.size, i.bytes)) = some (some z, sz, bytes))
    (hzs : z.cells.size = sz) (hsz : 0 < sz) (f : α → List Value) (A : Option Addr) (n c : Nat) (xs : List α) (hs : a.eval s = .slice A n c) (hown : OW f sz e base W A n c xs)
    (y : α) (cs : Array Value) (hcs : cs.toList = f y) (hcl : (f y).length = sz) (ty : TypeId) (N : Nat) (hx : a.eval x = .slice (some ⟨N, 0, none⟩) 1 1) (hN : BK W N ty cs) (h1 : ∀ u ∈ f y, u.oneCell' = true)
    (hbytes : (n + 1) * bytes ≤ 140737488355328) (hby : 1 ≤ bytes) (hbase : base ≤ W.heap.size)
    (h : ∀ g c' w', App1 f sz e base W A n c xs y g c' w' → wpListIn F nF P ops Q rest (a.put o.dst (.slice (some ⟨g, 0, none⟩) (n + 1) c')) w') :
    wpListIn F nF P ops Q (o :: rest) a W := by
  obtain ⟨i, hi', hz, hsize, hbytes'⟩ := info_parts hi
  have h63 : n + 1 ≤ maxLen := by
    unfold maxLen
    have : n + 1 ≤ (n + 1) * bytes := Nat.le_mul_of_pos_right _ (by omega)
    omega
  refine wpListIn_plain hgd fun K hK => ?_
  obtain ⟨g, cap, w', hr, h2, h3, h4, _⟩ := run_append_lies (P := P) W t o.type base e i z sz bytes ht hi' hz hsize hbytes' hzs hsz _ n (xs.flatMap f) hown.1 ⟨N, 0, none⟩ 1 1 (f y) (by rw [hcl, Nat.one_mul]) (news1 hN hcs) h1 (by omega) h63 hbytes hbase W.heap.size rfl
  unfold Oper.wpIn
  refine ⟨by simp [Oper.about, ho, resolve, Target.leads, Sem.run_pure], ?_⟩
  rw [Oper.semAt_plain F _ _ (by rw [ho]; intro c hc'; cases hc')]
  simp [execOp, ho, resolve, invoke, builtin, hs, hx, hr, Result.andThen]
  exact hK _ _ (h g cap w' (app1_of hown hbase h2 h3 h4))
end Go.Proofs.YtijcbfhlhgjedaaDoor

/- road.Corners: the bends, their groups, the corners. -/
namespace Go.Proofs.YtijcbfhlhgjedaaDoor
open Go.RowKit Go.Shelf Go.Sort Go.Proofs

attribute [local go_sem] Oper.semAt_some

end Go.Proofs.YtijcbfhlhgjedaaDoor

/- Corners, plainly: the reference's groups are the groups of bends; the turning between a group's ends is its angle. No program in sight. -/
namespace Go.Proofs.YtijcbfhlhgjedaaDoor
open Go.RowKit Go.Proofs

end Go.Proofs.YtijcbfhlhgjedaaDoor

/- road.Corners: what is refused. -/
namespace Go.Proofs.YtijcbfhlhgjedaaDoor
open Go.RowKit Go.Shelf Go.Sort Go.Proofs

end Go.Proofs.YtijcbfhlhgjedaaDoor

/- SameCorners: two lists of corners that are one list. -/
namespace Go.Proofs.YtijcbfhlhgjedaaDoor
open Go.RowKit Go.Shelf Go.Sort Go.Proofs

end Go.Proofs.YtijcbfhlhgjedaaDoor

/- The reference's Corners, walked. -/
namespace Go.Proofs.YtijcbfhlhgjedaaDoor
open Go.RowKit Go.Shelf Go.Sort Go.Proofs

theorem flat_setF {α : Type} {f : α → List Value} {sz : Nat} (hf : ∀ x, (f x).length = sz) : ∀ (xs : List α) (i j : Nat) (x y : α) (v : Value), xs[i]? = some x → j < sz → f y = (f x).set j v → (xs.set i y).flatMap f = (xs.flatMap f).set (i * sz + j) v
  | [], i, _, _, _, _, h, _, _ => by simp at h
  | a :: xs, 0, j, x, y, v, h, hj, hy => by
    simp at h; subst h
    rw [List.set_cons_zero, List.flatMap_cons, List.flatMap_cons, hy, Nat.zero_mul, Nat.zero_add, List.set_append_left _ _ (by rw [hf]; exact hj)]
  | a :: xs, i + 1, j, x, y, v, h, hj, hy => by
    have e : (i + 1) * sz + j = sz + (i * sz + j) := by rw [Nat.succ_mul]; omega
    rw [List.set_cons_succ, List.flatMap_cons, List.flatMap_cons, flat_setF hf xs i j x y v (by simpa using h) hj hy, e, List.set_append_right _ _ (by rw [hf]; omega), hf, Nat.add_sub_cancel_left]
/-- One cell of an element of an own row is written. -/
theorem OW.setF {α : Type} {f : α → List Value} {sz : Nat} {e : TypeId} {base : Nat} {w : World} {b n c : Nat} {xs : List α} (h : OW f sz e base w (some ⟨b, 0, none⟩) n c xs) (hf : ∀ x, (f x).length = sz) (i j : Nat) {x y : α} {v : Value}
    (hx : xs[i]? = some x) (hj : j < sz) (hy : f y = (f x).set j v) : OW f sz e base (w.setCell ⟨b, i * sz + j, none⟩ v) (some ⟨b, 0, none⟩) n c (xs.set i y) := by
  refine ⟨⟨by rw [flat_setF hf xs i j x y v hx hj hy]; simpa using h.1.1, ?_⟩, by simpa using h.2⟩
  rcases h.1.2 with ⟨h3, _⟩ | ⟨g, cap, cur, h3, hb, hg, hn, hc, hs, ht⟩
  · cases h3
  · injection h3 with h3 h4 h5
    injection h3 with h3
    injection h3 with h3
    subst h3 h5
    refine .inr ⟨b, c, cur.setIfInBounds (i * sz + j) v, rfl, hb, ?_, hn, hc, by simpa using hs, ?_⟩
    · simp [World.setCell, Array.getElem?_modify, hg]
    · rw [Array.toList_setIfInBounds, List.take_set, ht, flat_setF hf xs i j x y v hx hj hy]
end Go.Proofs.YtijcbfhlhgjedaaDoor

/- append of a whole slice onto a row of the call's own. Plain theorems over any program. -/
namespace Go.Proofs.YtijcbfhlhgjedaaDoor
open Go.RowKit Go.Proofs

section
variable {α : Type} {P : Program} {f : α → List Value} {sz : Nat} {e : TypeId} {base : Nat} {W : World} {A A2 : Option Addr} {n c m c2 B : Nat} {xs ys : List α}
/-- What an append of a slice leaves. -/
structure AppS (f : α → List Value) (sz : Nat) (e : TypeId) (base : Nat) (W : World) (A : Option Addr) (n c m : Nat) (xs ys : List α) (A' : Option Addr) (c' : Nat) (w' : World) : Prop where
  own : OW f sz e base w' A' (n + m) c' (xs ++ ys)
  bel : Below base W w'
  at_ : (∀ b, A' = some b → (∃ b', A = some b' ∧ b'.block = b.block) ∨ b.block = W.heap.size)
  far : ∀ k, k < W.heap.size → (∀ b, A = some b → b.block ≠ k) → w'.heap[k]? = W.heap[k]?
  size : W.heap.size ≤ w'.heap.size
theorem run_append_of_nil (t ty : TypeId) (i : TypeInfo) (ht : P.underlying t = some (.slice e)) (hi : P.info? e = some i)
    (v : Value) (cs : List Value) (hown : W.ownsRow base e sz v n cs) (q : Nat) : (Builtin.append_ #[t, t] ty #[v, .slice none 0 q]).run P W = .ok v W := by
  rcases hown.2 with ⟨rfl, rfl⟩ | ⟨g, cap, cur, rfl, _, _, hnc, _⟩
  · simp [Builtin.append_, run_underlying ht, sizeOf, typeInfo, hi, Builtin.lenOf, Builtin.firstCells]
  · simp [Builtin.append_, run_underlying ht, sizeOf, typeInfo, hi, Builtin.lenOf, Builtin.firstCells, hnc, storeCells]
theorem flat_len {f : α → List Value} (hf : ∀ x, (f x).length = sz) : ∀ ys : List α, (ys.flatMap f).length = ys.length * sz
  | [] => by simp
  | y :: ys => by rw [List.flatMap_cons, List.length_append, hf, List.length_cons, Nat.succ_mul, flat_len hf ys]; omega
theorem run_appS (t ty : TypeId) (i : TypeInfo) (z : Value) (bytes : Nat) (ht : P.underlying t = some (.slice e)) (hi : P.info? e = some i) (hz : i.zero = some z)
    (hsize : i.size = sz) (hby : i.bytes = bytes) (hzs : z.cells.size = sz) (hsz : 0 < sz) (hown : OW f sz e base W A n c xs)
    (hy : SL f sz W B A2 m ys) (hf : ∀ x, (f x).length = sz) (h1 : ∀ x, ∀ u ∈ f x, u.oneCell' = true)
    (hbytes : (n + m) * bytes ≤ 140737488355328) (hb1 : 1 ≤ bytes) (hbase : base ≤ W.heap.size) :
    ∃ A' c' w', (Builtin.append_ #[t, t] ty #[.slice A n c, .slice A2 m c2]).run P W = .ok (.slice A' (n + m) c') w' ∧ AppS f sz e base W A n c m xs ys A' c' w' := by
  have hlen : (ys.flatMap f).length = m * sz := by rw [hy.1]; exact flat_len hf ys
  have hone : ∀ u ∈ ys.flatMap f, u.oneCell' = true := fun u hu => by
    obtain ⟨y, _, hyu⟩ := List.mem_flatMap.1 hu
    exact h1 y u hyu
  have h63 : n + m ≤ maxLen := by
    unfold maxLen
    have : n + m ≤ (n + m) * bytes := Nat.le_mul_of_pos_right _ (by omega)
    omega
  rcases A2 with _ | ad
  · have hm : m = 0 := by
      rcases Nat.eq_zero_or_pos m with h0 | h0
      · exact h0
      · obtain ⟨_, _, h, _⟩ := hy.2 h0; cases h
    subst hm
    have hys : ys = [] := List.eq_nil_of_length_eq_zero hy.1.symm
    subst hys
    exact ⟨A, c, W, run_append_of_nil t ty i ht hi _ _ hown.1 c2, ⟨by rw [List.append_nil]; exact hown, Below.refl _ _, fun b hb => .inl ⟨b, hb, rfl⟩, fun _ _ _ => rfl, Nat.le_refl _⟩⟩
  · obtain ⟨v', w', hrun, h2, h3, h4, h5⟩ := run_append_own_at (P := P) W base t ty e i z sz bytes ht hi hz hsize hby hzs hsz _ n _ hown.1 ad m c2 _ hlen (hy.cells hf hsz rfl) hone h63 hbytes hbase
    have hv : ∃ A' c', v' = .slice A' (n + m) c' := by
      rcases h2.2 with ⟨rfl, h0⟩ | ⟨g, cap, cur, rfl, _⟩
      · exact ⟨none, 0, by rw [h0]⟩
      · exact ⟨_, _, rfl⟩
    obtain ⟨A', c', rfl⟩ := hv
    refine ⟨A', c', w', hrun, ⟨⟨by rw [List.flatMap_append]; exact h2, by simp [hown.2, hy.1]⟩, ⟨h3.os, h3.tape, h3.output, h3.size, fun k hk => h3.block k (by omega) (fun e => ?_)⟩, fun b hb => ?_, fun k hk hne => h3.block k hk (fun e => ?_), h3.size⟩⟩
    · rcases A with _ | g'
      · simp [Value.ownBlock] at e
      · simp [Value.ownBlock] at e
        have := (hown.lt rfl).1
        omega
    · subst hb
      rcases h5 with h5 | h5
      · rcases A with _ | g'
        · simp [Value.ownBlock] at h5
        · simp [Value.ownBlock] at h5
          exact .inl ⟨g', rfl, h5.symm⟩
      · simp [Value.ownBlock] at h5
        exact .inr h5
    · rcases A with _ | g'
      · simp [Value.ownBlock] at e
      · simp [Value.ownBlock] at e
        exact hne g' rfl e.symm
/-- In a plain region. -/
theorem wpList_appS {ops : Array Oper} {rest : List Oper} {o : Oper} {a : Act} {Q : Exit → Act → World → Prop} (hgd : o.guard = none) (s x : Operand) (t : TypeId)
    (ho : o.op = .call { callee := .builtin .append, args := #[s, x], argTypes := #[t, t] })
    (base : Nat) (e : TypeId) (z : Value) (sz bytes : Nat) (ht : P.underlying t = some (.slice e)) (hi : (P.info? e).map (fun i => (i.zero, i.size, i.bytes)) = some (some z, sz, bytes))
    (hzs : z.cells.size = sz) (hsz : 0 < sz) (f : α → List Value) (A : Option Addr) (n c : Nat) (xs : List α) (hs : a.eval s = .slice A n c) (hown : OW f sz e base W A n c xs)
    (B : Nat) (A2 : Option Addr) (m c2 : Nat) (ys : List α) (hx : a.eval x = .slice A2 m c2) (hy : SL f sz W B A2 m ys) (hf : ∀ x, (f x).length = sz) (h1 : ∀ x, ∀ u ∈ f x, u.oneCell' = true)
    (hbytes : (n + m) * bytes ≤ 140737488355328) (hby : 1 ≤ bytes) (hbase : base ≤ W.heap.size)
    (h : ∀ A' c' w', AppS f sz e base W A n c m xs ys A' c' w' → wpList P ops Q rest (a.put o.dst (.slice A' (n + m) c')) w') :
    wpList P ops Q (o :: rest) a W := by
  obtain ⟨i, hi', hz, hsize, hbytes'⟩ := info_parts hi
  refine wpList_plain hgd fun K hK => ?_
  obtain ⟨A', c', w', hrun, hap⟩ := run_appS (P := P) (c2 := c2) t o.type i z bytes ht hi' hz hsize hbytes' hzs hsz hown hy hf h1 hbytes hby hbase
  unfold Oper.wp execOp
  simp only [ho, resolve, invoke, builtin, Sem.run_bind, Sem.run_pure, Result.andThen_ok, List.map_toArray, List.map_cons, List.map_nil, hs, hx, hrun]
  exact hK _ _ (h A' c' w' hap)
end
end Go.Proofs.YtijcbfhlhgjedaaDoor

/- slices.Clone at pieces, crests and junctions. -/
namespace Go.Proofs.YtijcbfhlhgjedaaDoor
open Go.RowKit Go.Shelf Go.Sort Go.Proofs

theorem infoP : (Tryd.prog.info? 105).map (fun i => (i.zero, i.size, i.bytes)) = some (some (.agg #[.int .i64 0, .int .i64 0, .int .i64 0, .int .i64 0, .int .i64 0]), 5, 40) := by kernel_rfl
theorem oneP (x : Piece) : ∀ u ∈ pC x, u.oneCell' = true := by intro u hu; simp [pC] at hu; rcases hu with rfl | rfl | rfl | rfl | rfl <;> rfl
set_option maxRecDepth 100000 in
set_option maxHeartbeats 1000000 in
theorem CloneP_any (A : Option Addr) (n c : Nat) (xs : List Piece) (w : World) (h : SL pC 5 w w.heap.size A n xs) (hn : n ≤ 100000) :
    Calls Tryd.prog 93 #[.slice A n c] w fun e w' => ∃ A' c', e = .returned (.slice A' n c') ∧ OW pC 5 105 w.heap.size w' A' n c' xs ∧ Below w.heap.size w w' := by
  rcases A with _ | ad
  · have hn0 : n = 0 := by
      rcases Nat.eq_zero_or_pos n with h0 | h0
      · exact h0
      · obtain ⟨_, _, h, _⟩ := h.2 h0; cases h
    subst hn0
    have hx : xs = [] := List.eq_nil_of_length_eq_zero h.1.symm
    subst hx
    have hq := fun (W : World) => Lib.run_eql_slice_nil (P := Tryd.prog) W 22 105 none 0 c 0 0 Tryd.underlying22
    go_enter Tryd.func93, Tryd.ntmps93
    go_wp2_with fail
    go_ret
    exact ⟨_, _, rfl, OW.nil_, Below.refl _ _⟩
  · have HH := Lib.hid h
    clear h
    have hq := fun (W : World) => Lib.run_eql_slice_nil (P := Tryd.prog) W 22 105 (some ad) n c 0 0 Tryd.underlying22
    have hb0 : BK (w.alloc (.cells #[] 105)) w.heap.size 105 #[] := BK.new _ _ _
    have ho : OW pC 5 105 w.heap.size (w.alloc (.cells #[] 105)) (some ⟨w.heap.size, 0, none⟩) 0 0 [] := OW.zero hb0 (Nat.le_refl _)
    have hba : Below w.heap.size w (w.alloc (.cells #[] 105)) := (Below.refl _ _).alloc (Nat.le_refl _) _
    go_enter Tryd.func93, Tryd.ntmps93
    go_wp2_with (at_builtin; refine wpList_appS rfl _ _ 22 rfl w.heap.size 105 _ 5 40 Tryd.underlying22 infoP rfl (by decide) pC _ 0 0 [] rfl ho w.heap.size (some ad) n c xs rfl (HH.out.below hba) pC_len oneP (by omega) (by omega) (by simp) ?_; intro A' c' w' hap; have HAP := Lib.hid hap; clear hap)
    go_ret
    have hap := HAP.out
    have h1 := hap.own
    rw [List.nil_append] at h1
    simp only [Nat.zero_add] at h1
    exact ⟨_, _, rfl, h1, hba.trans hap.bel⟩
theorem infoC : (Tryd.prog.info? 134).map (fun i => (i.zero, i.size, i.bytes)) = some (some (.agg #[.int .i64 0, .int .i64 0]), 2, 16) := by kernel_rfl
theorem oneC (x : Crest) : ∀ u ∈ cC x, u.oneCell' = true := by intro u hu; simp [cC] at hu; rcases hu with rfl | rfl <;> rfl
set_option maxRecDepth 100000 in
set_option maxHeartbeats 1000000 in
theorem CloneC_any (A : Option Addr) (n c : Nat) (xs : List Crest) (w : World) (h : SL cC 2 w w.heap.size A n xs) (hn : n ≤ 100000) :
    Calls Tryd.prog 94 #[.slice A n c] w fun e w' => ∃ A' c', e = .returned (.slice A' n c') ∧ OW cC 2 134 w.heap.size w' A' n c' xs ∧ Below w.heap.size w w' := by
  rcases A with _ | ad
  · have hn0 : n = 0 := by
      rcases Nat.eq_zero_or_pos n with h0 | h0
      · exact h0
      · obtain ⟨_, _, h, _⟩ := h.2 h0; cases h
    subst hn0
    have hx : xs = [] := List.eq_nil_of_length_eq_zero h.1.symm
    subst hx
    have hq := fun (W : World) => Lib.run_eql_slice_nil (P := Tryd.prog) W 23 134 none 0 c 0 0 Tryd.underlying23
    go_enter Tryd.func94, Tryd.ntmps94
    go_wp2_with fail
    go_ret
    exact ⟨_, _, rfl, OW.nil_, Below.refl _ _⟩
  · have HH := Lib.hid h
    clear h
    have hq := fun (W : World) => Lib.run_eql_slice_nil (P := Tryd.prog) W 23 134 (some ad) n c 0 0 Tryd.underlying23
    have hb0 : BK (w.alloc (.cells #[] 134)) w.heap.size 134 #[] := BK.new _ _ _
    have ho : OW cC 2 134 w.heap.size (w.alloc (.cells #[] 134)) (some ⟨w.heap.size, 0, none⟩) 0 0 [] := OW.zero hb0 (Nat.le_refl _)
    have hba : Below w.heap.size w (w.alloc (.cells #[] 134)) := (Below.refl _ _).alloc (Nat.le_refl _) _
    go_enter Tryd.func94, Tryd.ntmps94
    go_wp2_with (at_builtin; refine wpList_appS rfl _ _ 23 rfl w.heap.size 134 _ 2 16 Tryd.underlying23 infoC rfl (by decide) cC _ 0 0 [] rfl ho w.heap.size (some ad) n c xs rfl (HH.out.below hba) cC_len oneC (by omega) (by omega) (by simp) ?_; intro A' c' w' hap; have HAP := Lib.hid hap; clear hap)
    go_ret
    have hap := HAP.out
    have h1 := hap.own
    rw [List.nil_append] at h1
    simp only [Nat.zero_add] at h1
    exact ⟨_, _, rfl, h1, hba.trans hap.bel⟩
theorem infoJ : (Tryd.prog.info? 136).map (fun i => (i.zero, i.size, i.bytes)) = some (some (.agg #[.int .i64 0, .int .i64 0, .int .i64 0]), 3, 24) := by kernel_rfl
theorem oneJ (x : Junc) : ∀ u ∈ jC x, u.oneCell' = true := by intro u hu; simp [jC] at hu; rcases hu with rfl | rfl | rfl <;> rfl
set_option maxRecDepth 100000 in
set_option maxHeartbeats 1000000 in
theorem CloneJ_any (A : Option Addr) (n c : Nat) (xs : List Junc) (w : World) (h : SL jC 3 w w.heap.size A n xs) (hn : n ≤ 100000) :
    Calls Tryd.prog 95 #[.slice A n c] w fun e w' => ∃ A' c', e = .returned (.slice A' n c') ∧ OW jC 3 136 w.heap.size w' A' n c' xs ∧ Below w.heap.size w w' := by
  rcases A with _ | ad
  · have hn0 : n = 0 := by
      rcases Nat.eq_zero_or_pos n with h0 | h0
      · exact h0
      · obtain ⟨_, _, h, _⟩ := h.2 h0; cases h
    subst hn0
    have hx : xs = [] := List.eq_nil_of_length_eq_zero h.1.symm
    subst hx
    have hq := fun (W : World) => Lib.run_eql_slice_nil (P := Tryd.prog) W 24 136 none 0 c 0 0 Tryd.underlying24
    go_enter Tryd.func95, Tryd.ntmps95
    go_wp2_with fail
    go_ret
    exact ⟨_, _, rfl, OW.nil_, Below.refl _ _⟩
  · have HH := Lib.hid h
    clear h
    have hq := fun (W : World) => Lib.run_eql_slice_nil (P := Tryd.prog) W 24 136 (some ad) n c 0 0 Tryd.underlying24
    have hb0 : BK (w.alloc (.cells #[] 136)) w.heap.size 136 #[] := BK.new _ _ _
    have ho : OW jC 3 136 w.heap.size (w.alloc (.cells #[] 136)) (some ⟨w.heap.size, 0, none⟩) 0 0 [] := OW.zero hb0 (Nat.le_refl _)
    have hba : Below w.heap.size w (w.alloc (.cells #[] 136)) := (Below.refl _ _).alloc (Nat.le_refl _) _
    go_enter Tryd.func95, Tryd.ntmps95
    go_wp2_with (at_builtin; refine wpList_appS rfl _ _ 24 rfl w.heap.size 136 _ 3 24 Tryd.underlying24 infoJ rfl (by decide) jC _ 0 0 [] rfl ho w.heap.size (some ad) n c xs rfl (HH.out.below hba) jC_len oneJ (by omega) (by omega) (by simp) ?_; intro A' c' w' hap; have HAP := Lib.hid hap; clear hap)
    go_ret
    have hap := HAP.out
    have h1 := hap.own
    rw [List.nil_append] at h1
    simp only [Nat.zero_add] at h1
    exact ⟨_, _, rfl, h1, hba.trans hap.bel⟩
end Go.Proofs.YtijcbfhlhgjedaaDoor

/- slices.Reverse at pieces, crests and junctions, of a row of the caller's own. -/
namespace Go.Proofs.YtijcbfhlhgjedaaDoor
open Go.RowKit Go.Shelf Go.Sort Go.Proofs

theorem only_drew {a w : World} {row : Option Nat} (h : a.grownBy w row) : a.grownBy w.drew row := ⟨h.os, h.tape, h.output, h.size, h.block⟩
theorem only_set {a w : World} {g o : Nat} (h : a.grownBy w (some g)) (u : Value) : a.grownBy (w.setCell ⟨g, o, none⟩ u) (some g) :=
  ⟨h.os, h.tape, h.output, by simpa [World.setCell] using h.size, fun i hi hne => (Below.heap_setCell w _ u i (by rintro rfl; exact hne rfl)).trans (h.block i hi hne)⟩
theorem only_trans {a b c : World} {row : Option Nat} (h : a.grownBy b row) (k : b.grownBy c row) : a.grownBy c row :=
  ⟨k.os.trans h.os, k.tape.trans h.tape, k.output.trans h.output, Nat.le_trans h.size k.size, fun i hi hne => (k.block i (Nat.lt_of_lt_of_le hi h.size) hne).trans (h.block i hi hne)⟩
section
variable {α : Type}
def swp (xs : List α) (i j : Nat) : List α := match xs[i]?, xs[j]? with
  | some a, some b => (xs.set i b).set j a
  | _, _ => xs
theorem swp_len (xs : List α) (i j : Nat) : (swp xs i j).length = xs.length := by unfold swp; split <;> simp
def revK (xs : List α) : Nat → List α
  | 0 => xs
  | k + 1 => swp (revK xs k) k (xs.length - 1 - k)
theorem revK_len (xs : List α) : ∀ k, (revK xs k).length = xs.length
  | 0 => rfl
  | k + 1 => by rw [revK, swp_len, revK_len xs k]
theorem revK_at (xs : List α) : ∀ k, 2 * k ≤ xs.length → ∀ i, i < xs.length → (revK xs k)[i]? = if i < k ∨ xs.length - k ≤ i then xs[xs.length - 1 - i]? else xs[i]?
  | 0, _, i, hi => by rw [if_neg (by omega)]; rfl
  | k + 1, hk, i, hi => by
    have ih := revK_at xs k (by omega)
    have hl := revK_len xs k
    have h1 := ih k (by omega)
    have h2 := ih (xs.length - 1 - k) (by omega)
    rw [if_neg (by omega)] at h1 h2
    rw [List.getElem?_eq_getElem (by omega : k < xs.length)] at h1
    rw [List.getElem?_eq_getElem (by omega : xs.length - 1 - k < xs.length)] at h2
    rw [revK, swp, h1, h2]
    simp only [List.getElem?_set, List.length_set, hl]
    by_cases e1 : xs.length - 1 - k = i
    · subst e1
      rw [if_pos rfl, if_pos (by omega), if_pos (by omega), List.getElem?_eq_getElem (by omega)]
      congr 2
      omega
    · rw [if_neg e1]
      by_cases e2 : k = i
      · subst e2
        rw [if_pos rfl, if_pos (by omega), if_pos (by omega), List.getElem?_eq_getElem (by omega)]
      · rw [if_neg e2, ih i hi]
        by_cases e3 : i < k ∨ xs.length - k ≤ i
        · rw [if_pos e3, if_pos (by omega)]
        · rw [if_neg e3, if_neg (by omega)]
theorem revK_done (xs : List α) (k : Nat) (h1 : 2 * k ≤ xs.length) (h2 : xs.length ≤ 2 * k + 1) : revK xs k = xs.reverse := by
  apply List.ext_getElem?
  intro i
  rcases Nat.lt_or_ge i xs.length with hi | hi
  · rw [revK_at xs k h1 i hi, List.getElem?_reverse hi]
    split
    · rfl
    · congr 1; omega
  · rw [List.getElem?_eq_none (by rw [revK_len]; exact hi), List.getElem?_eq_none (by simpa using hi)]
end

set_option maxRecDepth 100000 in
set_option maxHeartbeats 4000000 in
theorem RevP_any (base b n c : Nat) (xs : List Piece) (w : World) (h : OW pC 5 105 base w (some ⟨b, 0, none⟩) n c xs) (hn : n ≤ 100000) :
    Calls Tryd.prog 96 #[.slice (some ⟨b, 0, none⟩) n c] w fun e w' => (∃ v, e = .returned v) ∧ OW pC 5 105 base w' (some ⟨b, 0, none⟩) n c xs.reverse ∧ w.grownBy w' (some b) := by
  have hmo : Tryd.prog.follows .mixedOrders = true := by kernel_rfl
  have HH := Lib.hid h
  have hnl := h.2
  have HN := Lib.hid hnl
  clear h hnl
  go_enter Tryd.func96, Tryd.ntmps96
  go_wp2_with fail
  go_loopw [2, 3] (fun iv jv wr => ∃ k : Nat, iv = .int .i64 k ∧ jv = .int .i64 ((n : Int) - 1 - k) ∧ 2 * k ≤ n ∧ OW pC 5 105 base wr (some ⟨b, 0, none⟩) n c (revK xs k) ∧ w.grownBy wr (some b))
    (fun iv _ _ => n - (intOf iv).toNat)
  case atStart => exact ⟨0, rfl, by simp, Nat.zero_le _, HH.out, World.grownBy.refl w _⟩
  case round =>
    obtain ⟨k, rfl, rfl, hk, hO, hg⟩ := hrel
    by_cases hlt : 2 * k + 1 < n
    · have hlt' : (k : Int) < (n : Int) - 1 - k := by omega
      obtain ⟨b', hb', hbl, _, hfz, hrow⟩ := hO.at_ pC_len _ rfl
      cases hb'
      have hrl := revK_len xs k
      have hkl : k < (revK xs k).length := by have := HN.out; omega
      have hjl : n - 1 - k < (revK xs k).length := by have := HN.out; omega
      have hkx : (revK xs k)[k]? = some (revK xs k)[k] := List.getElem?_eq_getElem hkl
      have hky : (revK xs k)[n - 1 - k]? = some (revK xs k)[n - 1 - k] := List.getElem?_eq_getElem hjl
      generalize (revK xs k)[k]'hkl = x at hkx
      generalize (revK xs k)[n - 1 - k]'hjl = y at hky
      have x0 := hrow k x hkx 0 _ rfl
      have x1 := hrow k x hkx 1 _ rfl
      have x2 := hrow k x hkx 2 _ rfl
      have x3 := hrow k x hkx 3 _ rfl
      have x4 := hrow k x hkx 4 _ rfl
      have y0 := hrow (n - 1 - k) y hky 0 _ rfl
      have y1 := hrow (n - 1 - k) y hky 1 _ rfl
      have y2 := hrow (n - 1 - k) y hky 2 _ rfl
      have y3 := hrow (n - 1 - k) y hky 3 _ rfl
      have y4 := hrow (n - 1 - k) y hky 4 _ rfl
      have hax : ∀ q, 0 + k * 5 + q = k * 5 + q := fun q => by omega
      have hay : ∀ q, 0 + (n - 1 - k) * 5 + q = (n - 1 - k) * 5 + q := fun q => by omega
      rw [hax] at x0 x1 x2 x3 x4
      rw [hay] at y0 y1 y2 y3 y4
      rw [Nat.add_zero] at x0 y0
      have hi1 : (0 : Int) ≤ (k : Int) := by omega
      have hi2 : (k : Int) < (n : Int) := by omega
      have hi3 : (0 : Int) ≤ (n : Int) - 1 - k := by omega
      have hi4 : (n : Int) - 1 - k < (n : Int) := by omega
      have hi5 : ((n : Int) - 1 - k).toNat = n - 1 - k := by omega
      have hnew : Hid (revK xs (k + 1) = ((revK xs k).set k y).set (n - 1 - k) x) := by
        rw [revK, ← HN.out, swp, hkx, hky]; exact rfl
      have HKX := Lib.hid hkx
      have HKY := Lib.hid hky
      have HKL := Lib.hid hkl
      have HJL := Lib.hid hjl
      clear hrow hax hay hkx hky hkl hjl hrl
      go_wp2_with fail
      go_region
      go_wp2_with fail
      go_roundw
      case rel =>
        have hkx := HKX.out
        have hky := HKY.out
        have hkl := HKL.out
        have hjl := HJL.out
        have s0 := OW.setF hO pC_len k 0 (x := x) (y := { x with len := y.len }) (v := .int .i64 y.len) hkx (by omega) rfl
        have e0 : ((revK xs k).set k { x with len := y.len })[k]? = some { x with len := y.len } := by simp [hkl]
        have s1 := OW.setF s0 pC_len k 1 (x := { x with len := y.len }) (y := { x with len := y.len, turn := y.turn }) (v := .int .i64 y.turn) e0 (by omega) rfl
        rw [List.set_set] at s1
        have e1 : ((revK xs k).set k { x with len := y.len, turn := y.turn })[k]? = some { x with len := y.len, turn := y.turn } := by simp [hkl]
        have s2 := OW.setF s1 pC_len k 2 (x := { x with len := y.len, turn := y.turn }) (y := { x with len := y.len, turn := y.turn, rad := y.rad }) (v := .int .i64 y.rad) e1 (by omega) rfl
        rw [List.set_set] at s2
        have e2 : ((revK xs k).set k { x with len := y.len, turn := y.turn, rad := y.rad })[k]? = some { x with len := y.len, turn := y.turn, rad := y.rad } := by simp [hkl]
        have s3 := OW.setF s2 pC_len k 3 (x := { x with len := y.len, turn := y.turn, rad := y.rad }) (y := { x with len := y.len, turn := y.turn, rad := y.rad, wid := y.wid }) (v := .int .i64 y.wid) e2 (by omega) rfl
        rw [List.set_set] at s3
        have e3 : ((revK xs k).set k { x with len := y.len, turn := y.turn, rad := y.rad, wid := y.wid })[k]? = some { x with len := y.len, turn := y.turn, rad := y.rad, wid := y.wid } := by simp [hkl]
        have s4 := OW.setF s3 pC_len k 4 (x := { x with len := y.len, turn := y.turn, rad := y.rad, wid := y.wid }) (y := { x with len := y.len, turn := y.turn, rad := y.rad, wid := y.wid, sur := y.sur }) (v := .int .i64 y.sur) e3 (by omega) rfl
        rw [List.set_set] at s4
        have e4 : ((revK xs k).set k { x with len := y.len, turn := y.turn, rad := y.rad, wid := y.wid, sur := y.sur })[k]? = some { x with len := y.len, turn := y.turn, rad := y.rad, wid := y.wid, sur := y.sur } := by simp [hkl]
        have hky2 : ((revK xs k).set k { x with len := y.len, turn := y.turn, rad := y.rad, wid := y.wid, sur := y.sur })[n - 1 - k]? = some y := by rw [List.getElem?_set, if_neg (by omega)]; exact hky
        have t0 := OW.setF s4 pC_len (n - 1 - k) 0 (x := y) (y := { y with len := x.len }) (v := .int .i64 x.len) hky2 (by omega) rfl
        have d0 : (((revK xs k).set k { x with len := y.len, turn := y.turn, rad := y.rad, wid := y.wid, sur := y.sur }).set (n - 1 - k) { y with len := x.len })[n - 1 - k]? = some { y with len := x.len } := by simp [hjl]
        have t1 := OW.setF t0 pC_len (n - 1 - k) 1 (x := { y with len := x.len }) (y := { y with len := x.len, turn := x.turn }) (v := .int .i64 x.turn) d0 (by omega) rfl
        rw [List.set_set] at t1
        have d1 : (((revK xs k).set k { x with len := y.len, turn := y.turn, rad := y.rad, wid := y.wid, sur := y.sur }).set (n - 1 - k) { y with len := x.len, turn := x.turn })[n - 1 - k]? = some { y with len := x.len, turn := x.turn } := by simp [hjl]
        have t2 := OW.setF t1 pC_len (n - 1 - k) 2 (x := { y with len := x.len, turn := x.turn }) (y := { y with len := x.len, turn := x.turn, rad := x.rad }) (v := .int .i64 x.rad) d1 (by omega) rfl
        rw [List.set_set] at t2
        have d2 : (((revK xs k).set k { x with len := y.len, turn := y.turn, rad := y.rad, wid := y.wid, sur := y.sur }).set (n - 1 - k) { y with len := x.len, turn := x.turn, rad := x.rad })[n - 1 - k]? = some { y with len := x.len, turn := x.turn, rad := x.rad } := by simp [hjl]
        have t3 := OW.setF t2 pC_len (n - 1 - k) 3 (x := { y with len := x.len, turn := x.turn, rad := x.rad }) (y := { y with len := x.len, turn := x.turn, rad := x.rad, wid := x.wid }) (v := .int .i64 x.wid) d2 (by omega) rfl
        rw [List.set_set] at t3
        have d3 : (((revK xs k).set k { x with len := y.len, turn := y.turn, rad := y.rad, wid := y.wid, sur := y.sur }).set (n - 1 - k) { y with len := x.len, turn := x.turn, rad := x.rad, wid := x.wid })[n - 1 - k]? = some { y with len := x.len, turn := x.turn, rad := x.rad, wid := x.wid } := by simp [hjl]
        have t4 := OW.setF t3 pC_len (n - 1 - k) 4 (x := { y with len := x.len, turn := x.turn, rad := x.rad, wid := x.wid }) (y := { y with len := x.len, turn := x.turn, rad := x.rad, wid := x.wid, sur := x.sur }) (v := .int .i64 x.sur) d3 (by omega) rfl
        rw [List.set_set] at t4
        have d4 : (((revK xs k).set k { x with len := y.len, turn := y.turn, rad := y.rad, wid := y.wid, sur := y.sur }).set (n - 1 - k) { y with len := x.len, turn := x.turn, rad := x.rad, wid := x.wid, sur := x.sur })[n - 1 - k]? = some { y with len := x.len, turn := x.turn, rad := x.rad, wid := x.wid, sur := x.sur } := by simp [hjl]
        exact ⟨k + 1, by go_num, by congr 1; omega, by omega, by rw [hnew.out]; exact OW.drew t4, only_drew (only_set (only_set (only_set (only_set (only_set (only_set (only_set (only_set (only_set (only_set hg _) _) _) _) _) _) _) _) _) _)⟩
      case measure => simp [intOf]; omega
    · have hres : Hid (revK xs k = xs.reverse) := revK_done xs k (by rw [← HN.out]; exact hk) (by rw [← HN.out]; omega)
      have hnl : ¬ (k : Int) < (n : Int) - 1 - k := by omega
      rw [hres.out] at hO
      go_wp2_with fail
      go_end0
      exact ⟨⟨_, rfl⟩, hO, hg⟩
set_option maxRecDepth 100000 in
set_option maxHeartbeats 4000000 in
theorem RevC_any (base b n c : Nat) (xs : List Crest) (w : World) (h : OW cC 2 134 base w (some ⟨b, 0, none⟩) n c xs) (hn : n ≤ 100000) :
    Calls Tryd.prog 97 #[.slice (some ⟨b, 0, none⟩) n c] w fun e w' => (∃ v, e = .returned v) ∧ OW cC 2 134 base w' (some ⟨b, 0, none⟩) n c xs.reverse ∧ w.grownBy w' (some b) := by
  have hmo : Tryd.prog.follows .mixedOrders = true := by kernel_rfl
  have HH := Lib.hid h
  have hnl := h.2
  have HN := Lib.hid hnl
  clear h hnl
  go_enter Tryd.func97, Tryd.ntmps97
  go_wp2_with fail
  go_loopw [2, 3] (fun iv jv wr => ∃ k : Nat, iv = .int .i64 k ∧ jv = .int .i64 ((n : Int) - 1 - k) ∧ 2 * k ≤ n ∧ OW cC 2 134 base wr (some ⟨b, 0, none⟩) n c (revK xs k) ∧ w.grownBy wr (some b))
    (fun iv _ _ => n - (intOf iv).toNat)
  case atStart => exact ⟨0, rfl, by simp, Nat.zero_le _, HH.out, World.grownBy.refl w _⟩
  case round =>
    obtain ⟨k, rfl, rfl, hk, hO, hg⟩ := hrel
    by_cases hlt : 2 * k + 1 < n
    · have hlt' : (k : Int) < (n : Int) - 1 - k := by omega
      obtain ⟨b', hb', hbl, _, hfz, hrow⟩ := hO.at_ cC_len _ rfl
      cases hb'
      have hrl := revK_len xs k
      have hkl : k < (revK xs k).length := by have := HN.out; omega
      have hjl : n - 1 - k < (revK xs k).length := by have := HN.out; omega
      have hkx : (revK xs k)[k]? = some (revK xs k)[k] := List.getElem?_eq_getElem hkl
      have hky : (revK xs k)[n - 1 - k]? = some (revK xs k)[n - 1 - k] := List.getElem?_eq_getElem hjl
      generalize (revK xs k)[k]'hkl = x at hkx
      generalize (revK xs k)[n - 1 - k]'hjl = y at hky
      have x0 := hrow k x hkx 0 _ rfl
      have x1 := hrow k x hkx 1 _ rfl
      have y0 := hrow (n - 1 - k) y hky 0 _ rfl
      have y1 := hrow (n - 1 - k) y hky 1 _ rfl
      have hax : ∀ q, 0 + k * 2 + q = k * 2 + q := fun q => by omega
      have hay : ∀ q, 0 + (n - 1 - k) * 2 + q = (n - 1 - k) * 2 + q := fun q => by omega
      rw [hax] at x0 x1
      rw [hay] at y0 y1
      rw [Nat.add_zero] at x0 y0
      have hi1 : (0 : Int) ≤ (k : Int) := by omega
      have hi2 : (k : Int) < (n : Int) := by omega
      have hi3 : (0 : Int) ≤ (n : Int) - 1 - k := by omega
      have hi4 : (n : Int) - 1 - k < (n : Int) := by omega
      have hi5 : ((n : Int) - 1 - k).toNat = n - 1 - k := by omega
      have hnew : Hid (revK xs (k + 1) = ((revK xs k).set k y).set (n - 1 - k) x) := by
        rw [revK, ← HN.out, swp, hkx, hky]; exact rfl
      have HKX := Lib.hid hkx
      have HKY := Lib.hid hky
      have HKL := Lib.hid hkl
      have HJL := Lib.hid hjl
      clear hrow hax hay hkx hky hkl hjl hrl
      go_wp2_with fail
      go_region
      go_wp2_with fail
      go_roundw
      case rel =>
        have hkx := HKX.out
        have hky := HKY.out
        have hkl := HKL.out
        have hjl := HJL.out
        have s0 := OW.setF hO cC_len k 0 (x := x) (y := { x with pos := y.pos }) (v := .int .i64 y.pos) hkx (by omega) rfl
        have e0 : ((revK xs k).set k { x with pos := y.pos })[k]? = some { x with pos := y.pos } := by simp [hkl]
        have s1 := OW.setF s0 cC_len k 1 (x := { x with pos := y.pos }) (y := { x with pos := y.pos, siz := y.siz }) (v := .int .i64 y.siz) e0 (by omega) rfl
        rw [List.set_set] at s1
        have e1 : ((revK xs k).set k { x with pos := y.pos, siz := y.siz })[k]? = some { x with pos := y.pos, siz := y.siz } := by simp [hkl]
        have hky2 : ((revK xs k).set k { x with pos := y.pos, siz := y.siz })[n - 1 - k]? = some y := by rw [List.getElem?_set, if_neg (by omega)]; exact hky
        have t0 := OW.setF s1 cC_len (n - 1 - k) 0 (x := y) (y := { y with pos := x.pos }) (v := .int .i64 x.pos) hky2 (by omega) rfl
        have d0 : (((revK xs k).set k { x with pos := y.pos, siz := y.siz }).set (n - 1 - k) { y with pos := x.pos })[n - 1 - k]? = some { y with pos := x.pos } := by simp [hjl]
        have t1 := OW.setF t0 cC_len (n - 1 - k) 1 (x := { y with pos := x.pos }) (y := { y with pos := x.pos, siz := x.siz }) (v := .int .i64 x.siz) d0 (by omega) rfl
        rw [List.set_set] at t1
        have d1 : (((revK xs k).set k { x with pos := y.pos, siz := y.siz }).set (n - 1 - k) { y with pos := x.pos, siz := x.siz })[n - 1 - k]? = some { y with pos := x.pos, siz := x.siz } := by simp [hjl]
        exact ⟨k + 1, by go_num, by congr 1; omega, by omega, by rw [hnew.out]; exact OW.drew t1, only_drew (only_set (only_set (only_set (only_set hg _) _) _) _)⟩
      case measure => simp [intOf]; omega
    · have hres : Hid (revK xs k = xs.reverse) := revK_done xs k (by rw [← HN.out]; exact hk) (by rw [← HN.out]; omega)
      have hnl : ¬ (k : Int) < (n : Int) - 1 - k := by omega
      rw [hres.out] at hO
      go_wp2_with fail
      go_end0
      exact ⟨⟨_, rfl⟩, hO, hg⟩
set_option maxRecDepth 100000 in
set_option maxHeartbeats 4000000 in
theorem RevJ_any (base b n c : Nat) (xs : List Junc) (w : World) (h : OW jC 3 136 base w (some ⟨b, 0, none⟩) n c xs) (hn : n ≤ 100000) :
    Calls Tryd.prog 98 #[.slice (some ⟨b, 0, none⟩) n c] w fun e w' => (∃ v, e = .returned v) ∧ OW jC 3 136 base w' (some ⟨b, 0, none⟩) n c xs.reverse ∧ w.grownBy w' (some b) := by
  have hmo : Tryd.prog.follows .mixedOrders = true := by kernel_rfl
  have HH := Lib.hid h
  have hnl := h.2
  have HN := Lib.hid hnl
  clear h hnl
  go_enter Tryd.func98, Tryd.ntmps98
  go_wp2_with fail
  go_loopw [2, 3] (fun iv jv wr => ∃ k : Nat, iv = .int .i64 k ∧ jv = .int .i64 ((n : Int) - 1 - k) ∧ 2 * k ≤ n ∧ OW jC 3 136 base wr (some ⟨b, 0, none⟩) n c (revK xs k) ∧ w.grownBy wr (some b))
    (fun iv _ _ => n - (intOf iv).toNat)
  case atStart => exact ⟨0, rfl, by simp, Nat.zero_le _, HH.out, World.grownBy.refl w _⟩
  case round =>
    obtain ⟨k, rfl, rfl, hk, hO, hg⟩ := hrel
    by_cases hlt : 2 * k + 1 < n
    · have hlt' : (k : Int) < (n : Int) - 1 - k := by omega
      obtain ⟨b', hb', hbl, _, hfz, hrow⟩ := hO.at_ jC_len _ rfl
      cases hb'
      have hrl := revK_len xs k
      have hkl : k < (revK xs k).length := by have := HN.out; omega
      have hjl : n - 1 - k < (revK xs k).length := by have := HN.out; omega
      have hkx : (revK xs k)[k]? = some (revK xs k)[k] := List.getElem?_eq_getElem hkl
      have hky : (revK xs k)[n - 1 - k]? = some (revK xs k)[n - 1 - k] := List.getElem?_eq_getElem hjl
      generalize (revK xs k)[k]'hkl = x at hkx
      generalize (revK xs k)[n - 1 - k]'hjl = y at hky
      have x0 := hrow k x hkx 0 _ rfl
      have x1 := hrow k x hkx 1 _ rfl
      have x2 := hrow k x hkx 2 _ rfl
      have y0 := hrow (n - 1 - k) y hky 0 _ rfl
      have y1 := hrow (n - 1 - k) y hky 1 _ rfl
      have y2 := hrow (n - 1 - k) y hky 2 _ rfl
      have hax : ∀ q, 0 + k * 3 + q = k * 3 + q := fun q => by omega
      have hay : ∀ q, 0 + (n - 1 - k) * 3 + q = (n - 1 - k) * 3 + q := fun q => by omega
      rw [hax] at x0 x1 x2
      rw [hay] at y0 y1 y2
      rw [Nat.add_zero] at x0 y0
      have hi1 : (0 : Int) ≤ (k : Int) := by omega
      have hi2 : (k : Int) < (n : Int) := by omega
      have hi3 : (0 : Int) ≤ (n : Int) - 1 - k := by omega
      have hi4 : (n : Int) - 1 - k < (n : Int) := by omega
      have hi5 : ((n : Int) - 1 - k).toNat = n - 1 - k := by omega
      have hnew : Hid (revK xs (k + 1) = ((revK xs k).set k y).set (n - 1 - k) x) := by
        rw [revK, ← HN.out, swp, hkx, hky]; exact rfl
      have HKX := Lib.hid hkx
      have HKY := Lib.hid hky
      have HKL := Lib.hid hkl
      have HJL := Lib.hid hjl
      clear hrow hax hay hkx hky hkl hjl hrl
      go_wp2_with fail
      go_region
      go_wp2_with fail
      go_roundw
      case rel =>
        have hkx := HKX.out
        have hky := HKY.out
        have hkl := HKL.out
        have hjl := HJL.out
        have s0 := OW.setF hO jC_len k 0 (x := x) (y := { x with pos := y.pos }) (v := .int .i64 y.pos) hkx (by omega) rfl
        have e0 : ((revK xs k).set k { x with pos := y.pos })[k]? = some { x with pos := y.pos } := by simp [hkl]
        have s1 := OW.setF s0 jC_len k 1 (x := { x with pos := y.pos }) (y := { x with pos := y.pos, arms := y.arms }) (v := .int .i64 y.arms) e0 (by omega) rfl
        rw [List.set_set] at s1
        have e1 : ((revK xs k).set k { x with pos := y.pos, arms := y.arms })[k]? = some { x with pos := y.pos, arms := y.arms } := by simp [hkl]
        have s2 := OW.setF s1 jC_len k 2 (x := { x with pos := y.pos, arms := y.arms }) (y := { x with pos := y.pos, arms := y.arms, way := y.way }) (v := .int .i64 y.way) e1 (by omega) rfl
        rw [List.set_set] at s2
        have e2 : ((revK xs k).set k { x with pos := y.pos, arms := y.arms, way := y.way })[k]? = some { x with pos := y.pos, arms := y.arms, way := y.way } := by simp [hkl]
        have hky2 : ((revK xs k).set k { x with pos := y.pos, arms := y.arms, way := y.way })[n - 1 - k]? = some y := by rw [List.getElem?_set, if_neg (by omega)]; exact hky
        have t0 := OW.setF s2 jC_len (n - 1 - k) 0 (x := y) (y := { y with pos := x.pos }) (v := .int .i64 x.pos) hky2 (by omega) rfl
        have d0 : (((revK xs k).set k { x with pos := y.pos, arms := y.arms, way := y.way }).set (n - 1 - k) { y with pos := x.pos })[n - 1 - k]? = some { y with pos := x.pos } := by simp [hjl]
        have t1 := OW.setF t0 jC_len (n - 1 - k) 1 (x := { y with pos := x.pos }) (y := { y with pos := x.pos, arms := x.arms }) (v := .int .i64 x.arms) d0 (by omega) rfl
        rw [List.set_set] at t1
        have d1 : (((revK xs k).set k { x with pos := y.pos, arms := y.arms, way := y.way }).set (n - 1 - k) { y with pos := x.pos, arms := x.arms })[n - 1 - k]? = some { y with pos := x.pos, arms := x.arms } := by simp [hjl]
        have t2 := OW.setF t1 jC_len (n - 1 - k) 2 (x := { y with pos := x.pos, arms := x.arms }) (y := { y with pos := x.pos, arms := x.arms, way := x.way }) (v := .int .i64 x.way) d1 (by omega) rfl
        rw [List.set_set] at t2
        have d2 : (((revK xs k).set k { x with pos := y.pos, arms := y.arms, way := y.way }).set (n - 1 - k) { y with pos := x.pos, arms := x.arms, way := x.way })[n - 1 - k]? = some { y with pos := x.pos, arms := x.arms, way := x.way } := by simp [hjl]
        exact ⟨k + 1, by go_num, by congr 1; omega, by omega, by rw [hnew.out]; exact OW.drew t2, only_drew (only_set (only_set (only_set (only_set (only_set (only_set hg _) _) _) _) _) _)⟩
      case measure => simp [intOf]; omega
    · have hres : Hid (revK xs k = xs.reverse) := revK_done xs k (by rw [← HN.out]; exact hk) (by rw [← HN.out]; omega)
      have hnl : ¬ (k : Int) < (n : Int) - 1 - k := by omega
      rw [hres.out] at hO
      go_wp2_with fail
      go_end0
      exact ⟨⟨_, rfl⟩, hO, hg⟩
set_option maxRecDepth 100000 in
theorem RevP_ow (base : Nat) (A : Option Addr) (n c : Nat) (xs : List Piece) (w : World) (h : OW pC 5 105 base w A n c xs) (hn : n ≤ 100000) :
    Calls Tryd.prog 96 #[.slice A n c] w fun e w' => (∃ v, e = .returned v) ∧ OW pC 5 105 base w' A n c xs.reverse ∧ w.grownBy w' (A.map (·.block)) := by
  rcases A with _ | a
  · obtain ⟨rfl, rfl, rfl⟩ := h.none_
    go_enter Tryd.func96, Tryd.ntmps96
    go_wp2_with fail
    go_loop [2, 3] (fun i j => i = .int .i64 0 ∧ j = .int .i64 (-1)) (fun _ _ => 0)
    case atStart => exact ⟨rfl, rfl⟩
    case round =>
      obtain ⟨rfl, rfl⟩ := hrel
      go_wp2_with fail
      go_end0
      exact ⟨⟨_, rfl⟩, OW.nil_, World.grownBy.refl w _⟩
  · rcases h.1.2 with ⟨h3, _⟩ | ⟨g', cap, cur, h3, _⟩
    · cases h3
    · injection h3 with h3
      injection h3 with h3
      subst h3
      exact RevP_any base g' n c xs w h hn
set_option maxRecDepth 100000 in
theorem RevC_ow (base : Nat) (A : Option Addr) (n c : Nat) (xs : List Crest) (w : World) (h : OW cC 2 134 base w A n c xs) (hn : n ≤ 100000) :
    Calls Tryd.prog 97 #[.slice A n c] w fun e w' => (∃ v, e = .returned v) ∧ OW cC 2 134 base w' A n c xs.reverse ∧ w.grownBy w' (A.map (·.block)) := by
  rcases A with _ | a
  · obtain ⟨rfl, rfl, rfl⟩ := h.none_
    go_enter Tryd.func97, Tryd.ntmps97
    go_wp2_with fail
    go_loop [2, 3] (fun i j => i = .int .i64 0 ∧ j = .int .i64 (-1)) (fun _ _ => 0)
    case atStart => exact ⟨rfl, rfl⟩
    case round =>
      obtain ⟨rfl, rfl⟩ := hrel
      go_wp2_with fail
      go_end0
      exact ⟨⟨_, rfl⟩, OW.nil_, World.grownBy.refl w _⟩
  · rcases h.1.2 with ⟨h3, _⟩ | ⟨g', cap, cur, h3, _⟩
    · cases h3
    · injection h3 with h3
      injection h3 with h3
      subst h3
      exact RevC_any base g' n c xs w h hn
set_option maxRecDepth 100000 in
theorem RevJ_ow (base : Nat) (A : Option Addr) (n c : Nat) (xs : List Junc) (w : World) (h : OW jC 3 136 base w A n c xs) (hn : n ≤ 100000) :
    Calls Tryd.prog 98 #[.slice A n c] w fun e w' => (∃ v, e = .returned v) ∧ OW jC 3 136 base w' A n c xs.reverse ∧ w.grownBy w' (A.map (·.block)) := by
  rcases A with _ | a
  · obtain ⟨rfl, rfl, rfl⟩ := h.none_
    go_enter Tryd.func98, Tryd.ntmps98
    go_wp2_with fail
    go_loop [2, 3] (fun i j => i = .int .i64 0 ∧ j = .int .i64 (-1)) (fun _ _ => 0)
    case atStart => exact ⟨rfl, rfl⟩
    case round =>
      obtain ⟨rfl, rfl⟩ := hrel
      go_wp2_with fail
      go_end0
      exact ⟨⟨_, rfl⟩, OW.nil_, World.grownBy.refl w _⟩
  · rcases h.1.2 with ⟨h3, _⟩ | ⟨g', cap, cur, h3, _⟩
    · cases h3
    · injection h3 with h3
      injection h3 with h3
      subst h3
      exact RevJ_any base g' n c xs w h hn
end Go.Proofs.YtijcbfhlhgjedaaDoor

/- The way back, plainly: the corners of a reversed road. No program in sight. -/
namespace Go.Proofs.YtijcbfhlhgjedaaDoor
open Go.RowKit Go.Proofs

theorem sumL_neg (ps : List Piece) : sumL (ps.map neg) = sumL ps := by
  unfold sumL
  rw [List.map_map]
  rfl
theorem sumL_rev (ps : List Piece) : sumL ps.reverse = sumL ps := by
  unfold sumL
  rw [List.map_reverse, List.sum_reverse]
def revC (n : Int) (cs : List Crest) : List Crest := (cs.map fun c => ⟨n - c.pos, c.siz⟩).reverse
def revJ (n : Int) (js : List Junc) : List Junc := (js.map fun j => ⟨n - j.pos, j.arms, j.arms + 1 - j.way⟩).reverse
/-- The road the other way round. -/
def revR (R : Road) : Road := ⟨(R.ps.map neg).reverse, revC (sumL R.ps) R.cs, revJ (sumL R.ps) R.js⟩
end Go.Proofs.YtijcbfhlhgjedaaDoor

/- slices.Grow on no slice, slices.Concat of two slices. -/
namespace Go.Proofs.YtijcbfhlhgjedaaDoor
open Go.RowKit Go.Shelf Go.Sort Go.Proofs

theorem OW.empty {α : Type} {f : α → List Value} {sz : Nat} {e : TypeId} {base : Nat} {w : World} {N c : Nat} {cur : Array Value} (hb : BK w N e cur) (hN : base ≤ N) (hc : cur.size = c * sz) (hm : c ≤ maxLen) : OW f sz e base w (some ⟨N, 0, none⟩) 0 c ([] : List α) :=
  ⟨⟨by simp, .inr ⟨N, c, cur, rfl, hN, hb, Nat.zero_le _, hm, hc, by simp⟩⟩, rfl⟩
set_option maxRecDepth 100000 in
set_option maxHeartbeats 2000000 in
theorem GrowP_any (m : Nat) (w : World) (hm : m ≤ 1000000) :
    Calls Tryd.prog 112 #[.slice none 0 0, .int .i64 m] w fun e w' => ∃ A c, e = .returned (.slice A 0 c) ∧ OW pC 5 105 w.heap.size w' A 0 c [] ∧ Below w.heap.size w w' := by
  have hw1 : IntKind.i64.wrap ((m : Int) - 0) = (m : Int) := IntWalk.i64_in _ (by omega)
  have hw2 : IntKind.i64.wrap ((0 : Int) - 0) = 0 := rfl
  by_cases h0 : m = 0
  · subst h0
    clear hw1
    go_enter Tryd.func112, Tryd.ntmps112
    go_wp2_with fail
    go_ret
    exact ⟨_, _, rfl, OW.nil_, Below.refl _ _⟩
  · have hm0 : 0 < m := by omega
    have hmi : (0 : Int) < (m : Int) := by omega
    have hmn : ¬ ((m : Int) < 0) := by omega
    obtain ⟨i, hi', hz, hsize, hbytes'⟩ := info_parts infoP
    have hrun := Lib.run_append_nil_zeros w 22 3 22 105 i (.agg #[.int .i64 0, .int .i64 0, .int .i64 0, .int .i64 0, .int .i64 0]) .i64 .i64 Tryd.underlying22 Tryd.underlying3 hi' hz m hm0 (by rw [hsize]; decide) (by omega) (by rw [hbytes']; omega)
    obtain ⟨G, hG⟩ : ∃ G, G = grownCap w m 0 105 := ⟨_, rfl⟩
    obtain ⟨cur, hcur⟩ : ∃ cur, cur = Builtin.zeroCells (Value.cells (.agg #[.int .i64 0, .int .i64 0, .int .i64 0, .int .i64 0, .int .i64 0])) m ++ Builtin.zeroCells (Value.cells (.agg #[.int .i64 0, .int .i64 0, .int .i64 0, .int .i64 0, .int .i64 0])) (grownCap w m 0 105 - m) := ⟨_, rfl⟩
    have hge := grownCap_ge w m 0 105
    have hle := grownCap_le_maxLen w m 0 105 (by unfold maxLen; omega)
    have hcs : cur.size = G * 5 := by
      rw [hcur, Array.size_append, size_zeroCells, size_zeroCells, hG]
      show m * 5 + (grownCap w m 0 105 - m) * 5 = _
      omega
    rw [← hcur, ← hG] at hrun
    rw [← hG] at hge hle
    have HH := Lib.hid (And.intro hcs hle)
    clear hcur hG hcs hz hsize hbytes' hi' hle h0
    obtain ⟨w', hw'⟩ : ∃ w', w' = w.drew.alloc (.cells cur 105) := ⟨_, rfl⟩
    have hb : BK w' w.heap.size 105 cur := by rw [hw']; exact BK.new w.drew _ _
    have hbel : Below w.heap.size w w' := by rw [hw']; exact (Below.refl w.heap.size w).drew.alloc (Nat.le_refl _) _
    rw [← hw'] at hrun
    clear hw'
    have HRUN := Lib.hid hrun
    clear hrun
    have hgi : (m : Int) ≤ (G : Int) := by omega
    go_enter Tryd.func112, Tryd.ntmps112
    go_wp2_with (at_builtin; refine Lib.wpList_append_run _ rfl _ _ _ _ rfl _ _ rfl rfl _ _ HRUN.out ?_)
    go_ret
    exact ⟨_, _, rfl, OW.empty hb (Nat.le_refl _) HH.out.1 HH.out.2, hbel⟩
set_option maxRecDepth 100000 in
set_option maxHeartbeats 4000000 in
theorem ConcatP_any (b off : Nat) (q : Nat) (A1 : Option Addr) (n1 c1 : Nat) (xs : List Piece) (A2 : Option Addr) (n2 c2 : Nat) (ys : List Piece) (w : World) (hb : b < w.heap.size) (h0 : w.cell? ⟨b, off, none⟩ = some (.slice A1 n1 c1)) (h1 : w.cell? ⟨b, off + 1, none⟩ = some (.slice A2 n2 c2))
    (hx : SL pC 5 w w.heap.size A1 n1 xs) (hy : SL pC 5 w w.heap.size A2 n2 ys) (hn1 : n1 ≤ 100000) (hn2 : n2 ≤ 100000) :
    Calls Tryd.prog 101 #[.slice (some ⟨b, off, none⟩) 2 q] w fun e w' => ∃ A c, e = .returned (.slice A (n1 + n2) c) ∧ OW pC 5 105 w.heap.size w' A (n1 + n2) c (xs ++ ys) ∧ Below w.heap.size w w' := by
  have hX := Lib.hid hx
  have hY := Lib.hid hy
  clear hx hy
  go_enter Tryd.func101, Tryd.ntmps101
  go_wp2_with fail
  go_loopw [3, 11] (fun s i wr => ((i = .int .i64 0 ∧ s = .int .i64 0) ∨ (i = .int .i64 1 ∧ s = .int .i64 n1) ∨ (i = .int .i64 2 ∧ s = .int .i64 (n1 + n2))) ∧ wr = w)
    (fun _ i _ => 2 - (intOf i).toNat)
  case atStart => exact ⟨.inl ⟨rfl, rfl⟩, rfl⟩
  case round =>
    obtain ⟨hor, rfl⟩ := hrel
    rcases hor with ⟨rfl, rfl⟩ | ⟨rfl, rfl⟩ | ⟨rfl, rfl⟩
    · have hw1 : IntKind.i64.wrap (n1 : Int) = (n1 : Int) := IntWalk.i64_in _ (by omega)
      have hng : ¬ ((n1 : Int) < 0) := by omega
      go_wp2_with fail
      go_roundw
      case rel => exact ⟨.inr (.inl ⟨rfl, rfl⟩), by first | rfl | trivial⟩
      case measure => simp [intOf]
    · have hw1 : IntKind.i64.wrap ((n1 : Int) + (n2 : Int)) = (n1 : Int) + (n2 : Int) := IntWalk.i64_in _ (by omega)
      have hng : ¬ ((n1 : Int) + (n2 : Int) < 0) := by omega
      go_wp2_with fail
      go_roundw
      case rel => exact ⟨.inr (.inr ⟨rfl, rfl⟩), by first | rfl | trivial⟩
      case measure => simp [intOf]
    · go_wp2_with fail
      have hg := GrowP_any (n1 + n2) wr (by omega)
      rw [show ((n1 + n2 : Nat) : Int) = (n1 : Int) + (n2 : Int) by omega] at hg
      refine hg.mono ?_
      rintro e w1 ⟨A, c, rfl, ho, hb1⟩
      have d0 := (bc hb1 hb).trans h0
      have d1 := (bc hb1 hb).trans h1
      have HO := Lib.hid ho
      have hz1 := hb1.size
      clear hg ho
      obtain ⟨w0, rfl⟩ : ∃ w0 : World, w0 = wr := ⟨_, rfl⟩
      clear h0 h1
      go_wp2_with fail
      go_loopw [6, 27] (fun s i wv => (∃ A c, (i = .int .i64 0 ∧ s = .slice A 0 c ∧ OW pC 5 105 w0.heap.size wv A 0 c []) ∨ (i = .int .i64 1 ∧ s = .slice A n1 c ∧ OW pC 5 105 w0.heap.size wv A n1 c xs) ∨ (i = .int .i64 2 ∧ s = .slice A (n1 + n2) c ∧ OW pC 5 105 w0.heap.size wv A (n1 + n2) c (xs ++ ys))) ∧ Below w0.heap.size w0 wv ∧ w1.heap.size ≤ wv.heap.size)
        (fun _ i _ => 2 - (intOf i).toNat)
      case atStart => exact ⟨⟨A, c, .inl ⟨rfl, rfl, HO.out⟩⟩, hb1, Nat.le_refl _⟩
      case round =>
        obtain ⟨⟨A, c, hor⟩, hbv, hzv⟩ := hrel
        have e0 := (bc hbv hb).trans ((bc hb1 hb).symm.trans d0)
        have e1 := (bc hbv hb).trans ((bc hb1 hb).symm.trans d1)
        clear d0 d1 HO
        rcases hor with ⟨rfl, rfl, ho⟩ | ⟨rfl, rfl, ho⟩ | ⟨rfl, rfl, ho⟩
        · go_wp2_with (at_builtin; refine wpList_appS rfl _ _ 22 rfl w0.heap.size 105 _ 5 40 Tryd.underlying22 infoP rfl (by decide) pC _ 0 _ [] rfl ho w0.heap.size A1 n1 c1 xs rfl (hX.out.below hbv) pC_len oneP (by omega) (by omega) (by omega) ?_; intro A' c' w2 hap; have HAP := Lib.hid hap; clear hap)
          go_roundw
          case rel =>
            have hap := HAP.out
            have h1 := hap.own
            rw [List.nil_append, Nat.zero_add] at h1
            exact ⟨⟨_, _, .inr (.inl ⟨rfl, rfl, h1⟩)⟩, hbv.trans hap.bel, by have := hap.size; omega⟩
          case measure => simp [intOf]
        · go_wp2_with (at_builtin; refine wpList_appS rfl _ _ 22 rfl w0.heap.size 105 _ 5 40 Tryd.underlying22 infoP rfl (by decide) pC _ n1 _ xs rfl ho w0.heap.size A2 n2 c2 ys rfl (hY.out.below hbv) pC_len oneP (by omega) (by omega) (by omega) ?_; intro A' c' w2 hap; have HAP := Lib.hid hap; clear hap)
          go_roundw
          case rel =>
            have hap := HAP.out
            exact ⟨⟨_, _, .inr (.inr ⟨rfl, rfl, hap.own⟩)⟩, hbv.trans hap.bel, by have := hap.size; omega⟩
          case measure => simp [intOf]
        · have HO := Lib.hid ho
          clear ho
          go_wp2_with fail
          go_ret
          exact ⟨_, _, rfl, HO.out, hbv⟩
end Go.Proofs.YtijcbfhlhgjedaaDoor
