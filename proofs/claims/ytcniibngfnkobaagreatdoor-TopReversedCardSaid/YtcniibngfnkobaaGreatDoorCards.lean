/-
  DERIVED. GIVEN WITH THE SEED: THE CARDS: each row of YtcniibngfnkobaaGreatDoorRows.lean that lists a variable, with what it lists TIED to the program's text (the seventh form; the later family's looks); each row that meets fmt, with fmt's text TOLD by the authors' own Lean function (tested against real Go, not proved from fmt's source: count such statements apart). THE CARD IS WHAT COUNTS. Prove the row's statement (the work); the ties are given (YtcniibngfnkobaaGreatDoorTie.lean); close each card by the builder's one call (the guide's Derived/Test/ToyasCard.lean, 'card_holds'). Laid BY PROGRAM, IN A SANDBOX (cutbox-door.mjs). By AI agents, Wed Nov 11 2026. No macro, syntax, notation, axiom, sorry.
-/
import Derived.Test.YtcniibngfnkobaaGreatDoorRows
import GoSem.ClaimSeven
namespace Go.Proofs.YtcniibngfnkobaaGreatDoor
namespace Rows

/-- THE TIED CARD OF 'hairpintop.TopReversed'. -/
def topReversedCard : Claim7 := { stood := { row := topReversedRow, standIns := [], harness := (true, "22b164f4e647b8c3bba16e0bfcfa363d4a16e0dd6412149f2b4937b384eb13b9"), looks := true }, kinds := [], alts := [], laidByText := true, laidKinds := [.data, .data, .data], laidTests := true, laidLooks := .later }
def TopReversedCardSaid : Prop := Claim7.holds Tryz.pinned (.plain (OpenSpec.ofChange topReversedSpec)) topReversedCard

/-- THE SECOND FORM's CARD OF 'hairpintop.TopReversed'. -/
def topReversedUptoCard : Claim7 := { stood := { row := topReversedUptoRow, standIns := [], harness := (true, "22b164f4e647b8c3bba16e0bfcfa363d4a16e0dd6412149f2b4937b384eb13b9"), looks := true }, kinds := [], alts := [], laidByText := true, laidKinds := [.data, .data, .data], laidTests := true, laidLooks := .later }
def TopReversedUptoCardSaid : Prop := Claim7.holds Tryz.pinned (.plain (OpenSpec.upto topReversedSpec)) topReversedUptoCard
end Rows
end Go.Proofs.YtcniibngfnkobaaGreatDoor
