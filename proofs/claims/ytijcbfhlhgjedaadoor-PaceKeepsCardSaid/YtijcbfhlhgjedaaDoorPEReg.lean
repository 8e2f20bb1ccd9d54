/- A region that draws its order: its first operations only read or make quiet calls, in any order; the rest comes last, in one forced order. One walk of the text's order serves every order. Plain theorems over any program, outside a fence and inside a loop's round. -/
import Derived.Test.YtijcbfhlhgjedaaDoorPCBBase
import Derived.Test.YtijcbfhlhgjedaaDoorPCBRoad
import Derived.Test.YtijcbfhlhgjedaaDoorPCBLeaf
import Derived.Test.YtijcbfhlhgjedaaDoorPCBCheck
import Derived.Test.YtijcbfhlhgjedaaDoorPCBValid
import Derived.Test.YtijcbfhlhgjedaaDoorPCBFind
import Derived.Test.YtijcbfhlhgjedaaDoorPCBReg
import Derived.Test.YtijcbfhlhgjedaaDoorPCBGrouped
import Derived.Test.YtijcbfhlhgjedaaDoorPCBPG
import Derived.Test.YtijcbfhlhgjedaaDoorPCBBackM
import Derived.Test.YtijcbfhlhgjedaaDoorPCBStr
import Derived.Test.YtijcbfhlhgjedaaDoorPCBOpen
import Derived.Test.YtijcbfhlhgjedaaDoorPCBReg7
import Derived.Test.YtijcbfhlhgjedaaDoorPCSpd
import Derived.Test.YtijcbfhlhgjedaaDoorPCPRow
import Derived.Test.YtijcbfhlhgjedaaDoorPCMtr
import Derived.Test.YtijcbfhlhgjedaaDoorPCReg8
import Derived.Test.YtijcbfhlhgjedaaDoorPCSpCk
import Derived.Test.YtijcbfhlhgjedaaDoorPCPlanM
import Derived.Test.YtijcbfhlhgjedaaDoorPCLast
import Derived.Test.YtijcbfhlhgjedaaDoorPCBeg
import Derived.Test.YtijcbfhlhgjedaaDoorPCBegB
import Derived.Test.YtijcbfhlhgjedaaDoorPCRoom
import Derived.Test.YtijcbfhlhgjedaaDoorPCCallsB
import Derived.Test.YtijcbfhlhgjedaaDoorPCPlan
import Derived.Test.YtijcbfhlhgjedaaDoorPCBetw
import Derived.Test.YtijcbfhlhgjedaaDoorPCKn03P
import Derived.Test.YtijcbfhlhgjedaaDoorPCRef3
import Derived.Test.YtijcbfhlhgjedaaDoorPCRCallsB
import Derived.StillTail
import Derived.OrdersIn
import Derived.TacticsIn
import Derived.RangeFuncCalls
import Derived.RangeFuncNested
import Derived.Lib.QuietBelow
import Derived.WalkKit
import Derived.WalkSpells
import Derived.Deep.Draws
import Derived.Lib.Hide
import Derived.Maps.AppendAt
namespace Go.Proofs.YtijcbfhlhgjedaaDoor
open Go.RowKit Go.Sort

section
variable {P : Program} {ops : Array Oper} {md : Region.Mode} {C : World → Prop}

/-! ### Inside a round of a loop over an iterator (the wide fence) -/
variable {lp m : Nat}
end
section
variable {P : Program}
end
end Go.Proofs.YtijcbfhlhgjedaaDoor

/- A drawn region with a new block among its operations: quiet operations 0 .. n - 1, an allocation at n that may come up at any time, and a tail in one forced order. One walk serves every order. Plain theorems over any program. -/
namespace Go.Proofs.YtijcbfhlhgjedaaDoor
open Go.RowKit Go.Sort

section
variable {P : Program} {ops : Array Oper} {md : Region.Mode} {C : World → Prop}
variable {n : Nat} {d : Tmp} {t : TypeId} {zs : Array Value} {B : Nat} {oa : Oper}
end
attribute [go_sem] tame tAt tUpon
end Go.Proofs.YtijcbfhlhgjedaaDoor

/- A drawn region whose head reads, calls (the calls in one forced chain; each may make memory) and makes at most one block: one walk of the text's order serves every order. Plain theorems over any program. -/
namespace Go.Proofs.YtijcbfhlhgjedaaDoor
open Go.RowKit Go.Sort

section
variable {P : Program} {ops : Array Oper} {md : Region.Mode} {C : World → Prop}
/-! ### Steps -/
variable {k : Nat} {ns ks : List Nat} {Lq : Act → Fact → Prop} {o : Oper} {rest : List Oper} {a : Act} {Φ : Fact}
end
attribute [go_sem] qAt qUpon
end Go.Proofs.YtijcbfhlhgjedaaDoor

/- The laws of Reg3 for a region inside a loop's round. Plain theorems over any program. -/
namespace Go.Proofs.YtijcbfhlhgjedaaDoor
open Go.RowKit Go.Sort

section
variable {P : Program} {ops : Array Oper} {md : Region.Mode} {C : World → Prop} {lp mr : Nat}
end
/-! ### Under the wide fence, outside a round -/
section
variable {P : Program} {ops : Array Oper} {md : Region.Mode} {C : World → Prop} {m : Nat}
end
end Go.Proofs.YtijcbfhlhgjedaaDoor

/- The laws of Reg3, with blocks that float and are filled by a store of their own, which floats too. Printed by genreg5.py. Plain theorems over any program. -/
namespace Go.Proofs.YtijcbfhlhgjedaaDoor
open Go.RowKit Go.Sort

section
variable {P : Program} {ops : Array Oper} {md : Region.Mode} {C : World → Prop} {st : Fact → Prop} {G : Nat → Act → Prop}
section
variable {lp mr : Nat}
end

/-! ### Steps -/
variable {k : Nat} {ns ks : List Nat} {Lq : Act → Fact → Prop} {o : Oper} {rest : List Oper} {a : Act} {Φ : Fact}
end
end Go.Proofs.YtijcbfhlhgjedaaDoor
