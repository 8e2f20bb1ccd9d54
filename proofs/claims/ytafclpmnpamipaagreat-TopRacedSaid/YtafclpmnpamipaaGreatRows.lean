/-
  No cell of these rows narrows 'for every input' (looked for: loops, veiled, ifaces, maps, wideKeys, modest, calm, conditions, laid).
  DERIVED. THE GIVEN ROWS OF THIS SEAT. 2 by the template 'for every input the law returns true; each argument reads behind the call as it read before'; 0 by the template 'total and deterministic' (their statements: YtafclpmnpamipaaGreatTotals.lean).
  GIVEN WITH THE SEED: the statements are not yours to turn. If you find one false, say at which input.
  Laid BY PROGRAM, IN A SANDBOX (cutbox-rows.mjs): the forced cells as the released guide's own fill.sh prints them over the translation 1aa23b85616af9e6… (all of the seat's roots in one cut). By AI agents, Wed Nov 11 2026. No macro, syntax, notation, axiom, sorry.
-/
import Derived.Test.YtafclpmnpamipaaGreatChecked
import GoSem.Claim
import GoSem.ClaimJoined
import GoSem.ClaimMapViews
import Derived.JoinedTies
import Derived.KernelRfl
namespace Go.Proofs.YtafclpmnpamipaaGreat
/- THE CELL 'sum', in the pinned program and in every row, IS THE sha256 OF THE DUMP (.gsa) THAT YtafclpmnpamipaaGreatProg.lean LOADS. Nothing in Lean hashes anything: it is a label: what it is worth is what the hold of that sum in a sandbox is worth. -/
noncomputable def Tryz.pinned : Pinned := { name := "ytafclpmnpamipaagreat", sum := "1aa23b85616af9e6b17704e630aa27909821a83b67060bfce2f81440cac56cd8", checked := Tryz.checked }
namespace Rows
def none {H : Type} : Left H := { results := [], args := [] }

/-- 'hairpintop.TopRaced': WHATEVER THE INPUT: true; the input reads as it did. -/
def topRacedSpec : ChangeSpec := { name := "topRaced", fn := fun _ => fun
  | [d1, d2, d3] => { results := [.lit (.bool true)], args := [d1, d2, d3] }
  | _ => none }
def topRacedRow : OpenClaim := { program := "ytafclpmnpamipaagreat", sum := "1aa23b85616af9e6b17704e630aa27909821a83b67060bfce2f81440cac56cd8", func := "hairpin/hairpintop.TopRaced", spec := "topRaced", unfollowed := true, recurses := true, plainKeys := false, apart := false }
def TopRacedSaid : Prop := topRacedRow.holds Tryz.pinned (OpenSpec.ofChange topRacedSpec)

/-- ITS FALSE NEIGHBOUR: 'it returns false'. Refute it at one input. -/
def topRacedWrong : ChangeSpec := { name := "topRaced", fn := fun _ => fun
  | [d1, d2, d3] => { results := [.lit (.bool false)], args := [d1, d2, d3] }
  | _ => none }
def TopRacedWrongFalsely : Prop := topRacedRow.holds Tryz.pinned (OpenSpec.ofChange topRacedWrong)

/-- 'hairpintop.TopSettled': WHATEVER THE INPUT: true; the input reads as it did. -/
def topSettledSpec : ChangeSpec := { name := "topSettled", fn := fun _ => fun
  | [d1, d2, d3, d4, d5] => { results := [.lit (.bool true)], args := [d1, d2, d3, d4, d5] }
  | _ => none }
def topSettledRow : OpenClaim := { program := "ytafclpmnpamipaagreat", sum := "1aa23b85616af9e6b17704e630aa27909821a83b67060bfce2f81440cac56cd8", func := "hairpin/hairpintop.TopSettled", spec := "topSettled", inPlace := ["maps.clone"], unfollowed := true, recurses := true, plainKeys := false, apart := false }
def TopSettledSaid : Prop := topSettledRow.holds Tryz.pinned (OpenSpec.ofChange topSettledSpec)

/-- ITS FALSE NEIGHBOUR: 'it returns false'. Refute it at one input. -/
def topSettledWrong : ChangeSpec := { name := "topSettled", fn := fun _ => fun
  | [d1, d2, d3, d4, d5] => { results := [.lit (.bool false)], args := [d1, d2, d3, d4, d5] }
  | _ => none }
def TopSettledWrongFalsely : Prop := topSettledRow.holds Tryz.pinned (OpenSpec.ofChange topSettledWrong)

/- THE SECOND FORM. 'bulk': how many values and letters a reading holds, each counted each time it is reached (what is shared counts as often as it is met; a slice's spare places count too). A statement '..UptoSaid' is the law's where the arguments, and the package variables that the reading takes, are together of bulk at most 1048576: NARROWER than '..Said'. Prove '..Said' where nothing that the law and all that it calls make is longer than what came in: it says more and counts as full. Else prove '..UptoSaid'. A law counts once. -/
mutual
def uptoBulk {H : Type} : DataW H → Nat
  | .lit (.string bytes) => bytes.length + 1
  | .lit _ => 1
  | .nil => 1
  | .ptr d => uptoBulk d + 1
  | .slice elems spare => uptoBulkAll elems + uptoBulkAll spare + 1
  | .agg parts => uptoBulkAll parts + 1
  | .iface _ d => uptoBulk d + 1
  | .map entries => uptoBulkEntries entries + 1
  | .held _ => 1
def uptoBulkAll {H : Type} : List (DataW H) → Nat
  | [] => 0
  | d :: r => uptoBulk d + uptoBulkAll r
def uptoBulkEntries {H : Type} : List (Lit × DataW H) → Nat
  | [] => 0
  | x :: r => uptoBulkEntry x + uptoBulkEntries r
def uptoBulkEntry {H : Type} : Lit × DataW H → Nat
  | (.string bytes, d) => bytes.length + uptoBulk d + 1
  | (_, d) => uptoBulk d + 1
 end
def uptoSmall : (H : Type) → List (DataW H) → Bool := fun _ ds => decide (uptoBulkAll ds ≤ 1048576)
def OpenSpec.upto (s : _root_.Go.ChangeSpec) : _root_.Go.OpenSpec := { _root_.Go.OpenSpec.ofChange s with cond := some uptoSmall }

/-- 'hairpintop.TopRaced', WHERE WHAT IT READS IS OF BULK AT MOST 1048576: true; the input reads as it did. -/
def topRacedUptoRow : OpenClaim := { program := "ytafclpmnpamipaagreat", sum := "1aa23b85616af9e6b17704e630aa27909821a83b67060bfce2f81440cac56cd8", func := "hairpin/hairpintop.TopRaced", spec := "topRaced", unfollowed := true, recurses := true, plainKeys := false, apart := false, narrowed := true }
def TopRacedUptoSaid : Prop := topRacedUptoRow.holds Tryz.pinned (OpenSpec.upto topRacedSpec)

/-- 'hairpintop.TopSettled', WHERE WHAT IT READS IS OF BULK AT MOST 1048576: true; the input reads as it did. -/
def topSettledUptoRow : OpenClaim := { program := "ytafclpmnpamipaagreat", sum := "1aa23b85616af9e6b17704e630aa27909821a83b67060bfce2f81440cac56cd8", func := "hairpin/hairpintop.TopSettled", spec := "topSettled", inPlace := ["maps.clone"], unfollowed := true, recurses := true, plainKeys := false, apart := false, narrowed := true }
def TopSettledUptoSaid : Prop := topSettledUptoRow.holds Tryz.pinned (OpenSpec.upto topSettledSpec)

end Rows
end Go.Proofs.YtafclpmnpamipaaGreat
