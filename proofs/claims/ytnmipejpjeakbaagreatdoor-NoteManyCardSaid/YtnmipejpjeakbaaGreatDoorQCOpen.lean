/- The range over a road's pieces: what the iterator of a measured road hands to a loop's body, for every body that keeps old memory. -/
import Derived.Test.YtnmipejpjeakbaaGreatDoorPAll
import Derived.RangeFuncNested
import Derived.RangeFuncBound
import Derived.RangeFuncCalls
import Derived.RangeFuncLeaves
import Derived.Shelf.Abstract
import Derived.Shelf.RegionOpen
import Derived.OwnWalkIn
import Derived.TacticsInMore
import Derived.LoopNIn
import Derived.LoopIn
import Derived.BigRegionIn
import Derived.Test.YtnmipejpjeakbaaGreatDoorProg
import Derived.WalkKit
import Derived.WalkSpells
import Derived.Deep.Draws
import Derived.Lib.Hide
import Derived.Maps.AppendAt
import Derived.WalkLawsBesides
import Derived.Deep.QuietTactic
import Derived.BigQuiet
import Derived.BigGuardPart
import Derived.Deep.RegionHeld3
import Derived.StillTail
import Derived.OrdersIn
import Derived.TacticsIn
import Derived.Lib.QuietBelow
import Derived.Deep.CutBlock
import Derived.Deep.AppendLies
import Derived.Deep.RegionLaw
import Derived.Maps.OwnIn
import Derived.Test.YtnmipejpjeakbaaGreatDoorRows
import Derived.ProofKit
import Derived.OpenShut
import Derived.ChangeOld
import Derived.Deep.Slices
import Derived.Deep.Fields
import Derived.Lib.SmallJoins
import Derived.Laws.EntriesVeiled
namespace Go.Proofs.YtnmipejpjeakbaaGreatDoor
open Go.RowKit Go.Shelf Go.Proofs

attribute [local go_sem] Oper.semAt_some

end Go.Proofs.YtnmipejpjeakbaaGreatDoor

/- A region that draws its order: its first operations only read or make quiet calls, in any order; the rest comes last, in one forced order. One walk of the text's order serves every order. Plain theorems over any program, outside a fence and inside a loop's round. -/
namespace Go.Proofs.YtnmipejpjeakbaaGreatDoor
open Go.RowKit Go.Sort

section
variable {P : Program} {ops : Array Oper} {md : Region.Mode} {C : World → Prop}

/-! ### Inside a round of a loop over an iterator (the wide fence) -/
variable {lp m : Nat}
end
section
variable {P : Program}
end
end Go.Proofs.YtnmipejpjeakbaaGreatDoor

/- A drawn region with a new block among its operations: quiet operations 0 .. n - 1, an allocation at n that may come up at any time, and a tail in one forced order. One walk serves every order. Plain theorems over any program. -/
namespace Go.Proofs.YtnmipejpjeakbaaGreatDoor
open Go.RowKit Go.Sort

section
variable {P : Program} {ops : Array Oper} {md : Region.Mode} {C : World → Prop}
variable {n : Nat} {d : Tmp} {t : TypeId} {zs : Array Value} {B : Nat} {oa : Oper}
end
attribute [go_sem] tame tAt tUpon
end Go.Proofs.YtnmipejpjeakbaaGreatDoor

/- A drawn region whose head reads, calls (the calls in one forced chain; each may make memory) and makes at most one block: one walk of the text's order serves every order. Plain theorems over any program. -/
namespace Go.Proofs.YtnmipejpjeakbaaGreatDoor
open Go.RowKit Go.Sort

section
variable {P : Program} {ops : Array Oper} {md : Region.Mode} {C : World → Prop}
/-! ### Steps -/
variable {k : Nat} {ns ks : List Nat} {Lq : Act → Fact → Prop} {o : Oper} {rest : List Oper} {a : Act} {Φ : Fact}
end
attribute [go_sem] qAt qUpon
end Go.Proofs.YtnmipejpjeakbaaGreatDoor

/- The laws of Reg3 for a region inside a loop's round. Plain theorems over any program. -/
namespace Go.Proofs.YtnmipejpjeakbaaGreatDoor
open Go.RowKit Go.Sort

section
variable {P : Program} {ops : Array Oper} {md : Region.Mode} {C : World → Prop} {lp mr : Nat}
end
/-! ### Under the wide fence, outside a round -/
section
variable {P : Program} {ops : Array Oper} {md : Region.Mode} {C : World → Prop} {m : Nat}
end
end Go.Proofs.YtnmipejpjeakbaaGreatDoor

/- The laws of Reg3, with blocks that float and are filled by a store of their own, which floats too. Printed by genreg5.py. Plain theorems over any program. -/
namespace Go.Proofs.YtnmipejpjeakbaaGreatDoor
open Go.RowKit Go.Sort

section
variable {P : Program} {ops : Array Oper} {md : Region.Mode} {C : World → Prop} {st : Fact → Prop} {G : Nat → Act → Prop}
section
variable {lp mr : Nat}
end

/-! ### Steps -/
variable {k : Nat} {ns ks : List Nat} {Lq : Act → Fact → Prop} {o : Oper} {rest : List Oper} {a : Act} {Φ : Fact}
end
end Go.Proofs.YtnmipejpjeakbaaGreatDoor

/- The turning up to a place: the plain function, and the road package's loop over its iterator. -/
namespace Go.Proofs.YtnmipejpjeakbaaGreatDoor
open Go.RowKit Go.Shelf Go.Sort Go.Proofs

attribute [local go_sem] Oper.semAt_some

end Go.Proofs.YtnmipejpjeakbaaGreatDoor

/- How far one sees: what the answer is, and the reference's walk. -/
namespace Go.Proofs.YtnmipejpjeakbaaGreatDoor
open Go.RowKit Go.Shelf Go.Sort Go.Proofs

end Go.Proofs.YtnmipejpjeakbaaGreatDoor

/- The search for sight, piece by piece: that what the loop gathers is the sight. Plain; no program. -/
namespace Go.Proofs.YtnmipejpjeakbaaGreatDoor
open Go.RowKit Go.Proofs

section
variable (pl M an bg : Int)
end
section
variable {ps : List Piece} {pl M an : Int}
end
end Go.Proofs.YtnmipejpjeakbaaGreatDoor

/- road.Sight: the search piece by piece, over the iterator. -/
namespace Go.Proofs.YtnmipejpjeakbaaGreatDoor
open Go.RowKit Go.Shelf Go.Sort Go.Proofs

attribute [local go_sem] Oper.semAt_some

end Go.Proofs.YtnmipejpjeakbaaGreatDoor

/- road.Sight: what is refused. -/
namespace Go.Proofs.YtnmipejpjeakbaaGreatDoor
open Go.RowKit Go.Shelf Go.Sort Go.Proofs

end Go.Proofs.YtnmipejpjeakbaaGreatDoor

/- road.Corners: the bends, their groups, the corners. -/
namespace Go.Proofs.YtnmipejpjeakbaaGreatDoor
open Go.RowKit Go.Shelf Go.Sort Go.Proofs

attribute [local go_sem] Oper.semAt_some

end Go.Proofs.YtnmipejpjeakbaaGreatDoor

/- Corners, plainly: the reference's groups are the groups of bends; the turning between a group's ends is its angle. No program in sight. -/
namespace Go.Proofs.YtnmipejpjeakbaaGreatDoor
open Go.RowKit Go.Proofs

end Go.Proofs.YtnmipejpjeakbaaGreatDoor

/- road.Corners: what is refused. -/
namespace Go.Proofs.YtnmipejpjeakbaaGreatDoor
open Go.RowKit Go.Shelf Go.Sort Go.Proofs

end Go.Proofs.YtnmipejpjeakbaaGreatDoor

/- SameCorners: two lists of corners that are one list. -/
namespace Go.Proofs.YtnmipejpjeakbaaGreatDoor
open Go.RowKit Go.Shelf Go.Sort Go.Proofs

end Go.Proofs.YtnmipejpjeakbaaGreatDoor

/- A road that came in as an argument: its three slices, opened to lists. -/
namespace Go.Proofs.YtnmipejpjeakbaaGreatDoor
open Go.ChangeShapes Go.WideShapes Go.ChangeAt Go.RowKit Go.Deep Go.Joins

section
variable {H : Type} {enc : TypeId × Value → H} {P : Program} {w : World} {base : Nat} {spare : Nat → Bool} {held : Bool}
/-- A slice of structs whose fields are all ints, of whatever number. -/
theorem open_rows {t e : TypeId} {fs : Array Field} {fuel : Nat} {c : Value} {x : DataW H × List MemPlace} (ht : P.underlying t = some (.slice e)) (he : P.underlying e = some (.struct fs))
    (hone : oneCellFields P fs = true) (hC : P.cellsOf e = fs.size) (hint : ∀ (j : Nat) (f : Field), fs[j]? = some f → P.underlying f.type = some (.int .i64)) (hpos : 0 < fs.size) (h : DataW.trod enc P w base spare held fuel t [c] = some x) :
    ∃ (A : Option Addr) (n cp : Nat) (F : Nat → Nat → Int), c = .slice A n cp ∧ (0 < n → ∃ b off, A = some ⟨b, off, none⟩ ∧ b < w.heap.size ∧
      ∀ i, i < n → ∀ j, j < fs.size → w.cell? ⟨b, off + i * fs.size + j, none⟩ = some (.int .i64 (F i j))) := by
  rcases open_slice ht h with ⟨h0, _⟩ | ⟨a, len, cap, m, n, D, Pl, hcs, hb, hl, hm, hmm, hx, hi⟩
  · simp at h0
    exact ⟨none, 0, 0, fun _ _ => 0, h0, fun q => absurd q (by omega)⟩
  · have hlm : len ≤ m := by rw [hmm]; split <;> omega
    have key : ∀ i, i < len → ∃ G : Nat → Int, ∀ j, j < fs.size → w.cell? (a.add (i * fs.size + j)) = some (.int .i64 (G j)) := by
      intro i hil
      obtain ⟨cs', hc, ht'⟩ := hi i (by omega)
      rw [hC] at hc
      obtain ⟨ys, n', hn', hy, hlen, hyl, hf⟩ := DataW.trod_struct he ht'
      obtain ⟨_, hcl, hat⟩ := World.cells?_some hc
      refine choose_lt (α := Int) (p := fun j q => w.cell? (a.add (i * fs.size + j)) = some (.int .i64 q)) fun j hj => ?_
      obtain ⟨ho, hk⟩ := hone_of hone j fs[j] (Array.getElem?_eq_getElem hj)
      have hcell := hat j hj
      have h1 := hf j fs[j] (Array.getElem?_eq_getElem hj)
      rw [ho, hk] at h1
      have hone' : (cs'.drop j).take 1 = [cs'[j]'(by omega)] := by
        rw [List.drop_eq_getElem_cons (by omega)]
        rfl
      rw [hone'] at h1
      have hys : ys[j]? = some (ys[j]'(by omega)) := List.getElem?_eq_getElem (by omega)
      obtain ⟨q, hq, _, _⟩ := DataW.trod_int (hint j _ (Array.getElem?_eq_getElem hj)) (h1.trans hys)
      refine ⟨q, ?_⟩
      rw [← Go.Deep.add_add, hcell, List.getElem?_eq_getElem (by omega)]
      simpa using hq
    obtain ⟨F, hF⟩ := choose_lt (α := Nat → Int) (p := fun i G => ∀ j, j < fs.size → w.cell? (a.add (i * fs.size + j)) = some (.int .i64 (G j))) key
    simp at hcs
    subst hcs
    refine ⟨some a, len, cap, F, rfl, fun hn => ?_⟩
    have h0 := hF 0 hn 0 hpos
    have hbl := block_lt_of_cell h0
    have hsp := World.cell?_spot h0
    obtain ⟨b, off, sp⟩ := a
    simp only [Nat.zero_mul, Nat.add_zero] at h0 hbl hsp
    have hsp' : sp = none := by simpa [Addr.add] using hsp
    subst hsp'
    refine ⟨b, off, rfl, by simpa [Addr.add] using hbl, fun i hi' j hj => ?_⟩
    have := hF i hi' j hj
    have e0 : ((⟨b, off, none⟩ : Addr).add (i * fs.size + j)) = ⟨b, off + i * fs.size + j, none⟩ := by unfold Addr.add; split <;> simp_all [Nat.add_assoc]
    rwa [e0] at this
variable {r : Reach} {b0 : Nat}
theorem sl_of_rows {α : Type} {f : α → List Value} {sz n : Nat} {A : Option Addr} (F : Nat → Nat → Int) (mk : (Nat → Int) → α) (hf : ∀ G, ∀ j v, (f (mk G))[j]? = some v → j < sz ∧ v = .int .i64 (G j))
    (h : 0 < n → ∃ b off, A = some ⟨b, off, none⟩ ∧ b < w.heap.size ∧ ∀ i, i < n → ∀ j, j < sz → w.cell? ⟨b, off + i * sz + j, none⟩ = some (.int .i64 (F i j))) :
    SL f sz w w.heap.size A n ((List.range n).map fun i => mk (F i)) := by
  refine ⟨by simp, fun hn => ?_⟩
  obtain ⟨b, off, e, hb, hc⟩ := h hn
  refine ⟨b, off, e, hb, fun i x hx j v hv => ?_⟩
  have hi : i < n := by have := (List.getElem?_eq_some_iff.1 hx).1; simpa using this
  rw [List.getElem?_map, List.getElem?_range hi] at hx
  cases hx
  obtain ⟨hj, rfl⟩ := hf _ j v hv
  exact hc i hi j hj
end
end Go.Proofs.YtnmipejpjeakbaaGreatDoor

/- A region that draws its order: its first operations only read or make quiet calls, in any order; the rest comes last, in one forced order. One walk of the text's order serves every order. Plain theorems over any program, outside a fence and inside a loop's round. -/
namespace Go.Proofs.YtnmipejpjeakbaaGreatDoor
open Go.RowKit Go.Sort

section
variable {P : Program} {ops : Array Oper} {md : Region.Mode} {C : World → Prop}

/-! ### Inside a round of a loop over an iterator (the wide fence) -/
variable {lp m : Nat}
end
section
variable {P : Program}
end
end Go.Proofs.YtnmipejpjeakbaaGreatDoor

/- A drawn region with a new block among its operations: quiet operations 0 .. n - 1, an allocation at n that may come up at any time, and a tail in one forced order. One walk serves every order. Plain theorems over any program. -/
namespace Go.Proofs.YtnmipejpjeakbaaGreatDoor
open Go.RowKit Go.Sort

section
variable {P : Program} {ops : Array Oper} {md : Region.Mode} {C : World → Prop}
variable {n : Nat} {d : Tmp} {t : TypeId} {zs : Array Value} {B : Nat} {oa : Oper}
end
attribute [go_sem] tame tAt tUpon
end Go.Proofs.YtnmipejpjeakbaaGreatDoor

/- A drawn region whose head reads, calls (the calls in one forced chain; each may make memory) and makes at most one block: one walk of the text's order serves every order. Plain theorems over any program. -/
namespace Go.Proofs.YtnmipejpjeakbaaGreatDoor
open Go.RowKit Go.Sort

section
variable {P : Program} {ops : Array Oper} {md : Region.Mode} {C : World → Prop}
/-! ### Steps -/
variable {k : Nat} {ns ks : List Nat} {Lq : Act → Fact → Prop} {o : Oper} {rest : List Oper} {a : Act} {Φ : Fact}
end
attribute [go_sem] qAt qUpon
end Go.Proofs.YtnmipejpjeakbaaGreatDoor

/- The laws of Reg3 for a region inside a loop's round. Plain theorems over any program. -/
namespace Go.Proofs.YtnmipejpjeakbaaGreatDoor
open Go.RowKit Go.Sort

section
variable {P : Program} {ops : Array Oper} {md : Region.Mode} {C : World → Prop} {lp mr : Nat}
end
/-! ### Under the wide fence, outside a round -/
section
variable {P : Program} {ops : Array Oper} {md : Region.Mode} {C : World → Prop} {m : Nat}
end
end Go.Proofs.YtnmipejpjeakbaaGreatDoor

/- The laws of Reg3, with blocks that float and are filled by a store of their own, which floats too. Printed by genreg5.py. Plain theorems over any program. -/
namespace Go.Proofs.YtnmipejpjeakbaaGreatDoor
open Go.RowKit Go.Sort

section
variable {P : Program} {ops : Array Oper} {md : Region.Mode} {C : World → Prop} {st : Fact → Prop} {G : Nat → Act → Prop}
section
variable {lp mr : Nat}
end

/-! ### Steps -/
variable {k : Nat} {ns ks : List Nat} {Lq : Act → Fact → Prop} {o : Oper} {rest : List Oper} {a : Act} {Φ : Fact}
end
end Go.Proofs.YtnmipejpjeakbaaGreatDoor

/- A region that draws its order: its first operations only read or make quiet calls, in any order; the rest comes last, in one forced order. One walk of the text's order serves every order. Plain theorems over any program, outside a fence and inside a loop's round. -/
namespace Go.Proofs.YtnmipejpjeakbaaGreatDoor
open Go.RowKit Go.Sort

section
variable {P : Program} {ops : Array Oper} {md : Region.Mode} {C : World → Prop}

/-! ### Inside a round of a loop over an iterator (the wide fence) -/
variable {lp m : Nat}
end
section
variable {P : Program}
end
end Go.Proofs.YtnmipejpjeakbaaGreatDoor

/- A drawn region with a new block among its operations: quiet operations 0 .. n - 1, an allocation at n that may come up at any time, and a tail in one forced order. One walk serves every order. Plain theorems over any program. -/
namespace Go.Proofs.YtnmipejpjeakbaaGreatDoor
open Go.RowKit Go.Sort

section
variable {P : Program} {ops : Array Oper} {md : Region.Mode} {C : World → Prop}
variable {n : Nat} {d : Tmp} {t : TypeId} {zs : Array Value} {B : Nat} {oa : Oper}
end
attribute [go_sem] tame tAt tUpon
end Go.Proofs.YtnmipejpjeakbaaGreatDoor

/- A drawn region whose head reads, calls (the calls in one forced chain; each may make memory) and makes at most one block: one walk of the text's order serves every order. Plain theorems over any program. -/
namespace Go.Proofs.YtnmipejpjeakbaaGreatDoor
open Go.RowKit Go.Sort

section
variable {P : Program} {ops : Array Oper} {md : Region.Mode} {C : World → Prop}
/-! ### Steps -/
variable {k : Nat} {ns ks : List Nat} {Lq : Act → Fact → Prop} {o : Oper} {rest : List Oper} {a : Act} {Φ : Fact}
end
attribute [go_sem] qAt qUpon
end Go.Proofs.YtnmipejpjeakbaaGreatDoor

/- The laws of Reg3 for a region inside a loop's round. Plain theorems over any program. -/
namespace Go.Proofs.YtnmipejpjeakbaaGreatDoor
open Go.RowKit Go.Sort

section
variable {P : Program} {ops : Array Oper} {md : Region.Mode} {C : World → Prop} {lp mr : Nat}
end
/-! ### Under the wide fence, outside a round -/
section
variable {P : Program} {ops : Array Oper} {md : Region.Mode} {C : World → Prop} {m : Nat}
end
end Go.Proofs.YtnmipejpjeakbaaGreatDoor

/- The laws of Reg3, with blocks that float and are filled by a store of their own, which floats too. Printed by genreg5.py. Plain theorems over any program. -/
namespace Go.Proofs.YtnmipejpjeakbaaGreatDoor
open Go.RowKit Go.Sort

section
variable {P : Program} {ops : Array Oper} {md : Region.Mode} {C : World → Prop} {st : Fact → Prop} {G : Nat → Act → Prop}
section
variable {lp mr : Nat}
end

/-! ### Steps -/
variable {k : Nat} {ns ks : List Nat} {Lq : Act → Fact → Prop} {o : Oper} {rest : List Oper} {a : Act} {Φ : Fact}
end
end Go.Proofs.YtnmipejpjeakbaaGreatDoor

/- The range over a road's pieces: what the iterator of a measured road hands to a loop's body, for every body that keeps old memory. -/
namespace Go.Proofs.YtnmipejpjeakbaaGreatDoor
open Go.RowKit Go.Shelf Go.Proofs

attribute [local go_sem] Oper.semAt_some

end Go.Proofs.YtnmipejpjeakbaaGreatDoor

/- The turning up to a place: the plain function, and the road package's loop over its iterator. -/
namespace Go.Proofs.YtnmipejpjeakbaaGreatDoor
open Go.RowKit Go.Shelf Go.Sort Go.Proofs

attribute [local go_sem] Oper.semAt_some

end Go.Proofs.YtnmipejpjeakbaaGreatDoor

/- How far one sees: what the answer is, and the reference's walk. -/
namespace Go.Proofs.YtnmipejpjeakbaaGreatDoor
open Go.RowKit Go.Shelf Go.Sort Go.Proofs

end Go.Proofs.YtnmipejpjeakbaaGreatDoor

/- The search for sight, piece by piece: that what the loop gathers is the sight. Plain; no program. -/
namespace Go.Proofs.YtnmipejpjeakbaaGreatDoor
open Go.RowKit Go.Proofs

section
variable (pl M an bg : Int)
end
section
variable {ps : List Piece} {pl M an : Int}
end
end Go.Proofs.YtnmipejpjeakbaaGreatDoor

/- road.Sight: the search piece by piece, over the iterator. -/
namespace Go.Proofs.YtnmipejpjeakbaaGreatDoor
open Go.RowKit Go.Shelf Go.Sort Go.Proofs

attribute [local go_sem] Oper.semAt_some

end Go.Proofs.YtnmipejpjeakbaaGreatDoor

/- road.Sight: what is refused. -/
namespace Go.Proofs.YtnmipejpjeakbaaGreatDoor
open Go.RowKit Go.Shelf Go.Sort Go.Proofs

end Go.Proofs.YtnmipejpjeakbaaGreatDoor

/- road.Corners: the bends, their groups, the corners. -/
namespace Go.Proofs.YtnmipejpjeakbaaGreatDoor
open Go.RowKit Go.Shelf Go.Sort Go.Proofs

attribute [local go_sem] Oper.semAt_some

end Go.Proofs.YtnmipejpjeakbaaGreatDoor

/- Corners, plainly: the reference's groups are the groups of bends; the turning between a group's ends is its angle. No program in sight. -/
namespace Go.Proofs.YtnmipejpjeakbaaGreatDoor
open Go.RowKit Go.Proofs

end Go.Proofs.YtnmipejpjeakbaaGreatDoor

/- road.Corners: what is refused. -/
namespace Go.Proofs.YtnmipejpjeakbaaGreatDoor
open Go.RowKit Go.Shelf Go.Sort Go.Proofs

end Go.Proofs.YtnmipejpjeakbaaGreatDoor

/- SameCorners: two lists of corners that are one list. -/
namespace Go.Proofs.YtnmipejpjeakbaaGreatDoor
open Go.RowKit Go.Shelf Go.Sort Go.Proofs

end Go.Proofs.YtnmipejpjeakbaaGreatDoor
