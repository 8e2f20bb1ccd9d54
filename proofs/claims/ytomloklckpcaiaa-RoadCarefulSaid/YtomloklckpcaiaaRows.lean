/-
  No cell of these rows narrows 'for every input' (looked for: loops, veiled, ifaces, maps, wideKeys, modest, calm, conditions, laid).
  DERIVED. THE GIVEN ROWS OF THIS SEAT. 15 by the template 'for every input the law returns true; each argument reads behind the call as it read before'; 0 by the template 'total and deterministic' (their statements: YtomloklckpcaiaaTotals.lean).
  GIVEN WITH THE SEED: the statements are not yours to turn. If you find one false, say at which input.
  Laid BY PROGRAM, IN A SANDBOX (cutbox-rows.mjs): the forced cells as the released guide's own fill.sh prints them over the translation 3d0dd9c152d643e3… (all of the seat's roots in one cut). By AI agents, Wed Nov 11 2026. No macro, syntax, notation, axiom, sorry.
-/
import Derived.Test.YtomloklckpcaiaaChecked
import GoSem.Claim
import GoSem.ClaimJoined
import GoSem.ClaimMapViews
import Derived.JoinedTies
import Derived.KernelRfl
namespace Go.Proofs.Ytomloklckpcaiaa
/- THE CELL 'sum', in the pinned program and in every row, IS THE sha256 OF THE DUMP (.gsa) THAT YtomloklckpcaiaaProg.lean LOADS. Nothing in Lean hashes anything: it is a label: what it is worth is what the hold of that sum in a sandbox is worth. -/
noncomputable def Try.pinned : Pinned := { name := "ytomloklckpcaiaa", sum := "3d0dd9c152d643e3de4aa27046ca1c4742cf51ce782c49b2f3e7e6b832153a43", checked := Try.checked }
namespace Rows
def none {H : Type} : Left H := { results := [], args := [] }

/-- 'hairpinlaw01.RoadFinds': WHATEVER THE INPUT: true; the input reads as it did. -/
def roadFindsSpec : ChangeSpec := { name := "roadFinds", fn := fun _ => fun
  | [d1, d2] => { results := [.lit (.bool true)], args := [d1, d2] }
  | _ => none }
def roadFindsRow : OpenClaim := { program := "ytomloklckpcaiaa", sum := "3d0dd9c152d643e3de4aa27046ca1c4742cf51ce782c49b2f3e7e6b832153a43", func := "hairpin/hairpinlaw01.RoadFinds", spec := "roadFinds", unfollowed := true, recurses := true, apart := false }
def RoadFindsSaid : Prop := roadFindsRow.holds Try.pinned (OpenSpec.ofChange roadFindsSpec)

/-- ITS FALSE NEIGHBOUR: 'it returns false'. Refute it at one input. -/
def roadFindsWrong : ChangeSpec := { name := "roadFinds", fn := fun _ => fun
  | [d1, d2] => { results := [.lit (.bool false)], args := [d1, d2] }
  | _ => none }
def RoadFindsWrongFalsely : Prop := roadFindsRow.holds Try.pinned (OpenSpec.ofChange roadFindsWrong)

/-- 'hairpinlaw01.RoadTurns': WHATEVER THE INPUT: true; the input reads as it did. -/
def roadTurnsSpec : ChangeSpec := { name := "roadTurns", fn := fun _ => fun
  | [d1, d2, d3, d4] => { results := [.lit (.bool true)], args := [d1, d2, d3, d4] }
  | _ => none }
def roadTurnsRow : OpenClaim := { program := "ytomloklckpcaiaa", sum := "3d0dd9c152d643e3de4aa27046ca1c4742cf51ce782c49b2f3e7e6b832153a43", func := "hairpin/hairpinlaw01.RoadTurns", spec := "roadTurns", unfollowed := true, recurses := true, apart := false }
def RoadTurnsSaid : Prop := roadTurnsRow.holds Try.pinned (OpenSpec.ofChange roadTurnsSpec)

/-- ITS FALSE NEIGHBOUR: 'it returns false'. Refute it at one input. -/
def roadTurnsWrong : ChangeSpec := { name := "roadTurns", fn := fun _ => fun
  | [d1, d2, d3, d4] => { results := [.lit (.bool false)], args := [d1, d2, d3, d4] }
  | _ => none }
def RoadTurnsWrongFalsely : Prop := roadTurnsRow.holds Try.pinned (OpenSpec.ofChange roadTurnsWrong)

/-- 'hairpinlaw01.RoadCorners': WHATEVER THE INPUT: true; the input reads as it did. -/
def roadCornersSpec : ChangeSpec := { name := "roadCorners", fn := fun _ => fun
  | [d1, d2] => { results := [.lit (.bool true)], args := [d1, d2] }
  | _ => none }
def roadCornersRow : OpenClaim := { program := "ytomloklckpcaiaa", sum := "3d0dd9c152d643e3de4aa27046ca1c4742cf51ce782c49b2f3e7e6b832153a43", func := "hairpin/hairpinlaw01.RoadCorners", spec := "roadCorners", unfollowed := true, recurses := true, apart := false }
def RoadCornersSaid : Prop := roadCornersRow.holds Try.pinned (OpenSpec.ofChange roadCornersSpec)

/-- ITS FALSE NEIGHBOUR: 'it returns false'. Refute it at one input. -/
def roadCornersWrong : ChangeSpec := { name := "roadCorners", fn := fun _ => fun
  | [d1, d2] => { results := [.lit (.bool false)], args := [d1, d2] }
  | _ => none }
def RoadCornersWrongFalsely : Prop := roadCornersRow.holds Try.pinned (OpenSpec.ofChange roadCornersWrong)

/-- 'hairpinlaw01.RoadOrder': WHATEVER THE INPUT: true; the input reads as it did. -/
def roadOrderSpec : ChangeSpec := { name := "roadOrder", fn := fun _ => fun
  | [d1, d2, d3] => { results := [.lit (.bool true)], args := [d1, d2, d3] }
  | _ => none }
def roadOrderRow : OpenClaim := { program := "ytomloklckpcaiaa", sum := "3d0dd9c152d643e3de4aa27046ca1c4742cf51ce782c49b2f3e7e6b832153a43", func := "hairpin/hairpinlaw01.RoadOrder", spec := "roadOrder", unfollowed := true, recurses := true, apart := false }
def RoadOrderSaid : Prop := roadOrderRow.holds Try.pinned (OpenSpec.ofChange roadOrderSpec)

/-- ITS FALSE NEIGHBOUR: 'it returns false'. Refute it at one input. -/
def roadOrderWrong : ChangeSpec := { name := "roadOrder", fn := fun _ => fun
  | [d1, d2, d3] => { results := [.lit (.bool false)], args := [d1, d2, d3] }
  | _ => none }
def RoadOrderWrongFalsely : Prop := roadOrderRow.holds Try.pinned (OpenSpec.ofChange roadOrderWrong)

/-- 'hairpinlaw01.RoadSees': WHATEVER THE INPUT: true; the input reads as it did. -/
def roadSeesSpec : ChangeSpec := { name := "roadSees", fn := fun _ => fun
  | [d1, d2, d3, d4, d5] => { results := [.lit (.bool true)], args := [d1, d2, d3, d4, d5] }
  | _ => none }
def roadSeesRow : OpenClaim := { program := "ytomloklckpcaiaa", sum := "3d0dd9c152d643e3de4aa27046ca1c4742cf51ce782c49b2f3e7e6b832153a43", func := "hairpin/hairpinlaw01.RoadSees", spec := "roadSees", unfollowed := true, recurses := true, apart := false }
def RoadSeesSaid : Prop := roadSeesRow.holds Try.pinned (OpenSpec.ofChange roadSeesSpec)

/-- ITS FALSE NEIGHBOUR: 'it returns false'. Refute it at one input. -/
def roadSeesWrong : ChangeSpec := { name := "roadSees", fn := fun _ => fun
  | [d1, d2, d3, d4, d5] => { results := [.lit (.bool false)], args := [d1, d2, d3, d4, d5] }
  | _ => none }
def RoadSeesWrongFalsely : Prop := roadSeesRow.holds Try.pinned (OpenSpec.ofChange roadSeesWrong)

/-- 'hairpinlaw01.RoadBack': WHATEVER THE INPUT: true; the input reads as it did. -/
def roadBackSpec : ChangeSpec := { name := "roadBack", fn := fun _ => fun
  | [d1, d2] => { results := [.lit (.bool true)], args := [d1, d2] }
  | _ => none }
def roadBackRow : OpenClaim := { program := "ytomloklckpcaiaa", sum := "3d0dd9c152d643e3de4aa27046ca1c4742cf51ce782c49b2f3e7e6b832153a43", func := "hairpin/hairpinlaw01.RoadBack", spec := "roadBack", unfollowed := true, recurses := true, apart := false }
def RoadBackSaid : Prop := roadBackRow.holds Try.pinned (OpenSpec.ofChange roadBackSpec)

/-- ITS FALSE NEIGHBOUR: 'it returns false'. Refute it at one input. -/
def roadBackWrong : ChangeSpec := { name := "roadBack", fn := fun _ => fun
  | [d1, d2] => { results := [.lit (.bool false)], args := [d1, d2] }
  | _ => none }
def RoadBackWrongFalsely : Prop := roadBackRow.holds Try.pinned (OpenSpec.ofChange roadBackWrong)

/-- 'hairpinlaw01.RoadNormals': WHATEVER THE INPUT: true; the input reads as it did. -/
def roadNormalsSpec : ChangeSpec := { name := "roadNormals", fn := fun _ => fun
  | [d] => { results := [.lit (.bool true)], args := [d] }
  | _ => none }
def roadNormalsRow : OpenClaim := { program := "ytomloklckpcaiaa", sum := "3d0dd9c152d643e3de4aa27046ca1c4742cf51ce782c49b2f3e7e6b832153a43", func := "hairpin/hairpinlaw01.RoadNormals", spec := "roadNormals", unfollowed := true, recurses := true, apart := false }
def RoadNormalsSaid : Prop := roadNormalsRow.holds Try.pinned (OpenSpec.ofChange roadNormalsSpec)

/-- ITS FALSE NEIGHBOUR: 'it returns false'. Refute it at one input. -/
def roadNormalsWrong : ChangeSpec := { name := "roadNormals", fn := fun _ => fun
  | [d] => { results := [.lit (.bool false)], args := [d] }
  | _ => none }
def RoadNormalsWrongFalsely : Prop := roadNormalsRow.holds Try.pinned (OpenSpec.ofChange roadNormalsWrong)

/-- 'hairpinlaw01.RoadLong': WHATEVER THE INPUT: true; the input reads as it did. -/
def roadLongSpec : ChangeSpec := { name := "roadLong", fn := fun _ => fun
  | [d1, d2] => { results := [.lit (.bool true)], args := [d1, d2] }
  | _ => none }
def roadLongRow : OpenClaim := { program := "ytomloklckpcaiaa", sum := "3d0dd9c152d643e3de4aa27046ca1c4742cf51ce782c49b2f3e7e6b832153a43", func := "hairpin/hairpinlaw01.RoadLong", spec := "roadLong", unfollowed := true, recurses := true, apart := false }
def RoadLongSaid : Prop := roadLongRow.holds Try.pinned (OpenSpec.ofChange roadLongSpec)

/-- ITS FALSE NEIGHBOUR: 'it returns false'. Refute it at one input. -/
def roadLongWrong : ChangeSpec := { name := "roadLong", fn := fun _ => fun
  | [d1, d2] => { results := [.lit (.bool false)], args := [d1, d2] }
  | _ => none }
def RoadLongWrongFalsely : Prop := roadLongRow.holds Try.pinned (OpenSpec.ofChange roadLongWrong)

/-- 'hairpinlaw01.RoadDiffers': WHATEVER THE INPUT: true; the input reads as it did. -/
def roadDiffersSpec : ChangeSpec := { name := "roadDiffers", fn := fun _ => fun
  | [d1, d2, d3] => { results := [.lit (.bool true)], args := [d1, d2, d3] }
  | _ => none }
def roadDiffersRow : OpenClaim := { program := "ytomloklckpcaiaa", sum := "3d0dd9c152d643e3de4aa27046ca1c4742cf51ce782c49b2f3e7e6b832153a43", func := "hairpin/hairpinlaw01.RoadDiffers", spec := "roadDiffers", unfollowed := true, recurses := true, apart := false }
def RoadDiffersSaid : Prop := roadDiffersRow.holds Try.pinned (OpenSpec.ofChange roadDiffersSpec)

/-- ITS FALSE NEIGHBOUR: 'it returns false'. Refute it at one input. -/
def roadDiffersWrong : ChangeSpec := { name := "roadDiffers", fn := fun _ => fun
  | [d1, d2, d3] => { results := [.lit (.bool false)], args := [d1, d2, d3] }
  | _ => none }
def RoadDiffersWrongFalsely : Prop := roadDiffersRow.holds Try.pinned (OpenSpec.ofChange roadDiffersWrong)

/-- 'hairpinlaw01.RoadMany': WHATEVER THE INPUT: true; the input reads as it did. -/
def roadManySpec : ChangeSpec := { name := "roadMany", fn := fun _ => fun
  | [d1, d2, d3] => { results := [.lit (.bool true)], args := [d1, d2, d3] }
  | _ => none }
def roadManyRow : OpenClaim := { program := "ytomloklckpcaiaa", sum := "3d0dd9c152d643e3de4aa27046ca1c4742cf51ce782c49b2f3e7e6b832153a43", func := "hairpin/hairpinlaw01.RoadMany", spec := "roadMany", unfollowed := true, recurses := true, apart := false }
def RoadManySaid : Prop := roadManyRow.holds Try.pinned (OpenSpec.ofChange roadManySpec)

/-- ITS FALSE NEIGHBOUR: 'it returns false'. Refute it at one input. -/
def roadManyWrong : ChangeSpec := { name := "roadMany", fn := fun _ => fun
  | [d1, d2, d3] => { results := [.lit (.bool false)], args := [d1, d2, d3] }
  | _ => none }
def RoadManyWrongFalsely : Prop := roadManyRow.holds Try.pinned (OpenSpec.ofChange roadManyWrong)

/-- 'hairpinlaw01.RoadJoins': WHATEVER THE INPUT: true; the input reads as it did. -/
def roadJoinsSpec : ChangeSpec := { name := "roadJoins", fn := fun _ => fun
  | [d1, d2] => { results := [.lit (.bool true)], args := [d1, d2] }
  | _ => none }
def roadJoinsRow : OpenClaim := { program := "ytomloklckpcaiaa", sum := "3d0dd9c152d643e3de4aa27046ca1c4742cf51ce782c49b2f3e7e6b832153a43", func := "hairpin/hairpinlaw01.RoadJoins", spec := "roadJoins", unfollowed := true, recurses := true, apart := false }
def RoadJoinsSaid : Prop := roadJoinsRow.holds Try.pinned (OpenSpec.ofChange roadJoinsSpec)

/-- ITS FALSE NEIGHBOUR: 'it returns false'. Refute it at one input. -/
def roadJoinsWrong : ChangeSpec := { name := "roadJoins", fn := fun _ => fun
  | [d1, d2] => { results := [.lit (.bool false)], args := [d1, d2] }
  | _ => none }
def RoadJoinsWrongFalsely : Prop := roadJoinsRow.holds Try.pinned (OpenSpec.ofChange roadJoinsWrong)

/-- 'hairpinlaw01.RoadParts': WHATEVER THE INPUT: true; the input reads as it did. -/
def roadPartsSpec : ChangeSpec := { name := "roadParts", fn := fun _ => fun
  | [d1, d2, d3] => { results := [.lit (.bool true)], args := [d1, d2, d3] }
  | _ => none }
def roadPartsRow : OpenClaim := { program := "ytomloklckpcaiaa", sum := "3d0dd9c152d643e3de4aa27046ca1c4742cf51ce782c49b2f3e7e6b832153a43", func := "hairpin/hairpinlaw01.RoadParts", spec := "roadParts", unfollowed := true, recurses := true, apart := false }
def RoadPartsSaid : Prop := roadPartsRow.holds Try.pinned (OpenSpec.ofChange roadPartsSpec)

/-- ITS FALSE NEIGHBOUR: 'it returns false'. Refute it at one input. -/
def roadPartsWrong : ChangeSpec := { name := "roadParts", fn := fun _ => fun
  | [d1, d2, d3] => { results := [.lit (.bool false)], args := [d1, d2, d3] }
  | _ => none }
def RoadPartsWrongFalsely : Prop := roadPartsRow.holds Try.pinned (OpenSpec.ofChange roadPartsWrong)

/-- 'hairpinlaw01.RoadSafer': WHATEVER THE INPUT: true; the input reads as it did. -/
def roadSaferSpec : ChangeSpec := { name := "roadSafer", fn := fun _ => fun
  | [d1, d2] => { results := [.lit (.bool true)], args := [d1, d2] }
  | _ => none }
def roadSaferRow : OpenClaim := { program := "ytomloklckpcaiaa", sum := "3d0dd9c152d643e3de4aa27046ca1c4742cf51ce782c49b2f3e7e6b832153a43", func := "hairpin/hairpinlaw01.RoadSafer", spec := "roadSafer", unfollowed := true, recurses := true, apart := false }
def RoadSaferSaid : Prop := roadSaferRow.holds Try.pinned (OpenSpec.ofChange roadSaferSpec)

/-- ITS FALSE NEIGHBOUR: 'it returns false'. Refute it at one input. -/
def roadSaferWrong : ChangeSpec := { name := "roadSafer", fn := fun _ => fun
  | [d1, d2] => { results := [.lit (.bool false)], args := [d1, d2] }
  | _ => none }
def RoadSaferWrongFalsely : Prop := roadSaferRow.holds Try.pinned (OpenSpec.ofChange roadSaferWrong)

/-- 'hairpinlaw01.RoadCareful': WHATEVER THE INPUT: true; the input reads as it did. -/
def roadCarefulSpec : ChangeSpec := { name := "roadCareful", fn := fun _ => fun
  | [d1, d2] => { results := [.lit (.bool true)], args := [d1, d2] }
  | _ => none }
def roadCarefulRow : OpenClaim := { program := "ytomloklckpcaiaa", sum := "3d0dd9c152d643e3de4aa27046ca1c4742cf51ce782c49b2f3e7e6b832153a43", func := "hairpin/hairpinlaw01.RoadCareful", spec := "roadCareful", unfollowed := true, recurses := true, apart := false }
def RoadCarefulSaid : Prop := roadCarefulRow.holds Try.pinned (OpenSpec.ofChange roadCarefulSpec)

/-- ITS FALSE NEIGHBOUR: 'it returns false'. Refute it at one input. -/
def roadCarefulWrong : ChangeSpec := { name := "roadCareful", fn := fun _ => fun
  | [d1, d2] => { results := [.lit (.bool false)], args := [d1, d2] }
  | _ => none }
def RoadCarefulWrongFalsely : Prop := roadCarefulRow.holds Try.pinned (OpenSpec.ofChange roadCarefulWrong)

/-- 'hairpinlaw01.RoadChecks': WHATEVER THE INPUT: true; the input reads as it did. -/
def roadChecksSpec : ChangeSpec := { name := "roadChecks", fn := fun _ => fun
  | [d] => { results := [.lit (.bool true)], args := [d] }
  | _ => none }
def roadChecksRow : OpenClaim := { program := "ytomloklckpcaiaa", sum := "3d0dd9c152d643e3de4aa27046ca1c4742cf51ce782c49b2f3e7e6b832153a43", func := "hairpin/hairpinlaw01.RoadChecks", spec := "roadChecks", unfollowed := true, recurses := true, apart := false }
def RoadChecksSaid : Prop := roadChecksRow.holds Try.pinned (OpenSpec.ofChange roadChecksSpec)

/-- ITS FALSE NEIGHBOUR: 'it returns false'. Refute it at one input. -/
def roadChecksWrong : ChangeSpec := { name := "roadChecks", fn := fun _ => fun
  | [d] => { results := [.lit (.bool false)], args := [d] }
  | _ => none }
def RoadChecksWrongFalsely : Prop := roadChecksRow.holds Try.pinned (OpenSpec.ofChange roadChecksWrong)

/- THE SECOND FORM. 'bulk': how many values and letters a reading holds, each counted each time it is reached (what is shared counts as often as it is met; a slice's spare places count too). A statement '..UptoSaid' is the law's where the arguments, and the package variables that the reading takes, are together of bulk at most 1048576: NARROWER than '..Said'. Prove '..Said' where nothing that the law and all that it calls make is longer than what came in: it says more and counts as full. Else prove '..UptoSaid'. A law counts once. -/
mutual
def uptoBulk {H : Type} : DataW H → Nat
  | .lit (.string bytes) => bytes.length + 1
  | .lit _ => 1
  | .nil => 1
  | .ptr d => uptoBulk d + 1
  | .slice elems spare => uptoBulkAll elems + uptoBulkAll spare + 1
  | .agg parts => uptoBulkAll parts + 1
  | .iface _ d => uptoBulk d + 1
  | .map entries => uptoBulkEntries entries + 1
  | .held _ => 1
def uptoBulkAll {H : Type} : List (DataW H) → Nat
  | [] => 0
  | d :: r => uptoBulk d + uptoBulkAll r
def uptoBulkEntries {H : Type} : List (Lit × DataW H) → Nat
  | [] => 0
  | x :: r => uptoBulkEntry x + uptoBulkEntries r
def uptoBulkEntry {H : Type} : Lit × DataW H → Nat
  | (.string bytes, d) => bytes.length + uptoBulk d + 1
  | (_, d) => uptoBulk d + 1
 end
def uptoSmall : (H : Type) → List (DataW H) → Bool := fun _ ds => decide (uptoBulkAll ds ≤ 1048576)
def OpenSpec.upto (s : _root_.Go.ChangeSpec) : _root_.Go.OpenSpec := { _root_.Go.OpenSpec.ofChange s with cond := some uptoSmall }

/-- 'hairpinlaw01.RoadFinds', WHERE WHAT IT READS IS OF BULK AT MOST 1048576: true; the input reads as it did. -/
def roadFindsUptoRow : OpenClaim := { program := "ytomloklckpcaiaa", sum := "3d0dd9c152d643e3de4aa27046ca1c4742cf51ce782c49b2f3e7e6b832153a43", func := "hairpin/hairpinlaw01.RoadFinds", spec := "roadFinds", unfollowed := true, recurses := true, apart := false, narrowed := true }
def RoadFindsUptoSaid : Prop := roadFindsUptoRow.holds Try.pinned (OpenSpec.upto roadFindsSpec)

/-- 'hairpinlaw01.RoadTurns', WHERE WHAT IT READS IS OF BULK AT MOST 1048576: true; the input reads as it did. -/
def roadTurnsUptoRow : OpenClaim := { program := "ytomloklckpcaiaa", sum := "3d0dd9c152d643e3de4aa27046ca1c4742cf51ce782c49b2f3e7e6b832153a43", func := "hairpin/hairpinlaw01.RoadTurns", spec := "roadTurns", unfollowed := true, recurses := true, apart := false, narrowed := true }
def RoadTurnsUptoSaid : Prop := roadTurnsUptoRow.holds Try.pinned (OpenSpec.upto roadTurnsSpec)

/-- 'hairpinlaw01.RoadCorners', WHERE WHAT IT READS IS OF BULK AT MOST 1048576: true; the input reads as it did. -/
def roadCornersUptoRow : OpenClaim := { program := "ytomloklckpcaiaa", sum := "3d0dd9c152d643e3de4aa27046ca1c4742cf51ce782c49b2f3e7e6b832153a43", func := "hairpin/hairpinlaw01.RoadCorners", spec := "roadCorners", unfollowed := true, recurses := true, apart := false, narrowed := true }
def RoadCornersUptoSaid : Prop := roadCornersUptoRow.holds Try.pinned (OpenSpec.upto roadCornersSpec)

/-- 'hairpinlaw01.RoadOrder', WHERE WHAT IT READS IS OF BULK AT MOST 1048576: true; the input reads as it did. -/
def roadOrderUptoRow : OpenClaim := { program := "ytomloklckpcaiaa", sum := "3d0dd9c152d643e3de4aa27046ca1c4742cf51ce782c49b2f3e7e6b832153a43", func := "hairpin/hairpinlaw01.RoadOrder", spec := "roadOrder", unfollowed := true, recurses := true, apart := false, narrowed := true }
def RoadOrderUptoSaid : Prop := roadOrderUptoRow.holds Try.pinned (OpenSpec.upto roadOrderSpec)

/-- 'hairpinlaw01.RoadSees', WHERE WHAT IT READS IS OF BULK AT MOST 1048576: true; the input reads as it did. -/
def roadSeesUptoRow : OpenClaim := { program := "ytomloklckpcaiaa", sum := "3d0dd9c152d643e3de4aa27046ca1c4742cf51ce782c49b2f3e7e6b832153a43", func := "hairpin/hairpinlaw01.RoadSees", spec := "roadSees", unfollowed := true, recurses := true, apart := false, narrowed := true }
def RoadSeesUptoSaid : Prop := roadSeesUptoRow.holds Try.pinned (OpenSpec.upto roadSeesSpec)

/-- 'hairpinlaw01.RoadBack', WHERE WHAT IT READS IS OF BULK AT MOST 1048576: true; the input reads as it did. -/
def roadBackUptoRow : OpenClaim := { program := "ytomloklckpcaiaa", sum := "3d0dd9c152d643e3de4aa27046ca1c4742cf51ce782c49b2f3e7e6b832153a43", func := "hairpin/hairpinlaw01.RoadBack", spec := "roadBack", unfollowed := true, recurses := true, apart := false, narrowed := true }
def RoadBackUptoSaid : Prop := roadBackUptoRow.holds Try.pinned (OpenSpec.upto roadBackSpec)

/-- 'hairpinlaw01.RoadNormals', WHERE WHAT IT READS IS OF BULK AT MOST 1048576: true; the input reads as it did. -/
def roadNormalsUptoRow : OpenClaim := { program := "ytomloklckpcaiaa", sum := "3d0dd9c152d643e3de4aa27046ca1c4742cf51ce782c49b2f3e7e6b832153a43", func := "hairpin/hairpinlaw01.RoadNormals", spec := "roadNormals", unfollowed := true, recurses := true, apart := false, narrowed := true }
def RoadNormalsUptoSaid : Prop := roadNormalsUptoRow.holds Try.pinned (OpenSpec.upto roadNormalsSpec)

/-- 'hairpinlaw01.RoadLong', WHERE WHAT IT READS IS OF BULK AT MOST 1048576: true; the input reads as it did. -/
def roadLongUptoRow : OpenClaim := { program := "ytomloklckpcaiaa", sum := "3d0dd9c152d643e3de4aa27046ca1c4742cf51ce782c49b2f3e7e6b832153a43", func := "hairpin/hairpinlaw01.RoadLong", spec := "roadLong", unfollowed := true, recurses := true, apart := false, narrowed := true }
def RoadLongUptoSaid : Prop := roadLongUptoRow.holds Try.pinned (OpenSpec.upto roadLongSpec)

/-- 'hairpinlaw01.RoadDiffers', WHERE WHAT IT READS IS OF BULK AT MOST 1048576: true; the input reads as it did. -/
def roadDiffersUptoRow : OpenClaim := { program := "ytomloklckpcaiaa", sum := "3d0dd9c152d643e3de4aa27046ca1c4742cf51ce782c49b2f3e7e6b832153a43", func := "hairpin/hairpinlaw01.RoadDiffers", spec := "roadDiffers", unfollowed := true, recurses := true, apart := false, narrowed := true }
def RoadDiffersUptoSaid : Prop := roadDiffersUptoRow.holds Try.pinned (OpenSpec.upto roadDiffersSpec)

/-- 'hairpinlaw01.RoadMany', WHERE WHAT IT READS IS OF BULK AT MOST 1048576: true; the input reads as it did. -/
def roadManyUptoRow : OpenClaim := { program := "ytomloklckpcaiaa", sum := "3d0dd9c152d643e3de4aa27046ca1c4742cf51ce782c49b2f3e7e6b832153a43", func := "hairpin/hairpinlaw01.RoadMany", spec := "roadMany", unfollowed := true, recurses := true, apart := false, narrowed := true }
def RoadManyUptoSaid : Prop := roadManyUptoRow.holds Try.pinned (OpenSpec.upto roadManySpec)

/-- 'hairpinlaw01.RoadJoins', WHERE WHAT IT READS IS OF BULK AT MOST 1048576: true; the input reads as it did. -/
def roadJoinsUptoRow : OpenClaim := { program := "ytomloklckpcaiaa", sum := "3d0dd9c152d643e3de4aa27046ca1c4742cf51ce782c49b2f3e7e6b832153a43", func := "hairpin/hairpinlaw01.RoadJoins", spec := "roadJoins", unfollowed := true, recurses := true, apart := false, narrowed := true }
def RoadJoinsUptoSaid : Prop := roadJoinsUptoRow.holds Try.pinned (OpenSpec.upto roadJoinsSpec)

/-- 'hairpinlaw01.RoadParts', WHERE WHAT IT READS IS OF BULK AT MOST 1048576: true; the input reads as it did. -/
def roadPartsUptoRow : OpenClaim := { program := "ytomloklckpcaiaa", sum := "3d0dd9c152d643e3de4aa27046ca1c4742cf51ce782c49b2f3e7e6b832153a43", func := "hairpin/hairpinlaw01.RoadParts", spec := "roadParts", unfollowed := true, recurses := true, apart := false, narrowed := true }
def RoadPartsUptoSaid : Prop := roadPartsUptoRow.holds Try.pinned (OpenSpec.upto roadPartsSpec)

/-- 'hairpinlaw01.RoadSafer', WHERE WHAT IT READS IS OF BULK AT MOST 1048576: true; the input reads as it did. -/
def roadSaferUptoRow : OpenClaim := { program := "ytomloklckpcaiaa", sum := "3d0dd9c152d643e3de4aa27046ca1c4742cf51ce782c49b2f3e7e6b832153a43", func := "hairpin/hairpinlaw01.RoadSafer", spec := "roadSafer", unfollowed := true, recurses := true, apart := false, narrowed := true }
def RoadSaferUptoSaid : Prop := roadSaferUptoRow.holds Try.pinned (OpenSpec.upto roadSaferSpec)

/-- 'hairpinlaw01.RoadCareful', WHERE WHAT IT READS IS OF BULK AT MOST 1048576: true; the input reads as it did. -/
def roadCarefulUptoRow : OpenClaim := { program := "ytomloklckpcaiaa", sum := "3d0dd9c152d643e3de4aa27046ca1c4742cf51ce782c49b2f3e7e6b832153a43", func := "hairpin/hairpinlaw01.RoadCareful", spec := "roadCareful", unfollowed := true, recurses := true, apart := false, narrowed := true }
def RoadCarefulUptoSaid : Prop := roadCarefulUptoRow.holds Try.pinned (OpenSpec.upto roadCarefulSpec)

/-- 'hairpinlaw01.RoadChecks', WHERE WHAT IT READS IS OF BULK AT MOST 1048576: true; the input reads as it did. -/
def roadChecksUptoRow : OpenClaim := { program := "ytomloklckpcaiaa", sum := "3d0dd9c152d643e3de4aa27046ca1c4742cf51ce782c49b2f3e7e6b832153a43", func := "hairpin/hairpinlaw01.RoadChecks", spec := "roadChecks", unfollowed := true, recurses := true, apart := false, narrowed := true }
def RoadChecksUptoSaid : Prop := roadChecksUptoRow.holds Try.pinned (OpenSpec.upto roadChecksSpec)

end Rows
end Go.Proofs.Ytomloklckpcaiaa
