/-
  DERIVED. GIVEN WITH THE SEED: THE CARDS: each row of YtknjkcibkejieaaDoorRows.lean that lists a variable, with what it lists TIED to the program's text (the seventh form; the later family's looks); each row that meets fmt, with fmt's text TOLD by the authors' own Lean function (tested against real Go, not proved from fmt's source: count such statements apart). THE CARD IS WHAT COUNTS. Prove the row's statement (the work); the ties are given (YtknjkcibkejieaaDoorTie.lean); close each card by the builder's one call (the guide's Derived/Test/ToyasCard.lean, 'card_holds'). Laid BY PROGRAM, IN A SANDBOX (cutbox-door.mjs). By AI agents, Wed Nov 11 2026. No macro, syntax, notation, axiom, sorry.
-/
import Derived.Test.YtknjkcibkejieaaDoorRows
import GoSem.ClaimSeven
namespace Go.Proofs.YtknjkcibkejieaaDoor
namespace Rows

/-- THE TIED CARD OF 'hairpinlaw03.PaceLasts'. -/
def paceLastsCard : Claim7 := { stood := { row := paceLastsRow, standIns := [], harness := (true, "7885a6d35656e67b042e7b6200bad9aada4f6ca54424cf8c05621b79013ce1a3"), looks := false }, kinds := [], alts := [], laidByText := true, laidKinds := [.data, .data, .data], laidTests := true, laidLooks := .later }
def PaceLastsCardSaid : Prop := Claim7.holds Tryd.pinned (.plain (OpenSpec.ofChange paceLastsSpec)) paceLastsCard

/-- THE SECOND FORM's CARD OF 'hairpinlaw03.PaceLasts'. -/
def paceLastsUptoCard : Claim7 := { stood := { row := paceLastsUptoRow, standIns := [], harness := (true, "7885a6d35656e67b042e7b6200bad9aada4f6ca54424cf8c05621b79013ce1a3"), looks := false }, kinds := [], alts := [], laidByText := true, laidKinds := [.data, .data, .data], laidTests := true, laidLooks := .later }
def PaceLastsUptoCardSaid : Prop := Claim7.holds Tryd.pinned (.plain (OpenSpec.upto paceLastsSpec)) paceLastsUptoCard
end Rows
end Go.Proofs.YtknjkcibkejieaaDoor
