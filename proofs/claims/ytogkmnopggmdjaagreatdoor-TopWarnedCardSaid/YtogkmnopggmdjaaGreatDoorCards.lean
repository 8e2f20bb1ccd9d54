/-
  DERIVED. GIVEN WITH THE SEED: THE CARDS: each row of YtogkmnopggmdjaaGreatDoorRows.lean that lists a variable, with what it lists TIED to the program's text (the seventh form; the later family's looks); each row that meets fmt, with fmt's text TOLD by the authors' own Lean function (tested against real Go, not proved from fmt's source: count such statements apart). THE CARD IS WHAT COUNTS. Prove the row's statement (the work); the ties are given (YtogkmnopggmdjaaGreatDoorTie.lean); close each card by the builder's one call (the guide's Derived/Test/ToyasCard.lean, 'card_holds'). Laid BY PROGRAM, IN A SANDBOX (cutbox-door.mjs). By AI agents, Wed Nov 11 2026. No macro, syntax, notation, axiom, sorry.
-/
import Derived.Test.YtogkmnopggmdjaaGreatDoorRows
import GoSem.ClaimSeven
namespace Go.Proofs.YtogkmnopggmdjaaGreatDoor
namespace Rows

/-- THE TIED CARD OF 'hairpinlaw03.PaceSpoken'. -/
def paceSpokenCard : Claim7 := { stood := { row := paceSpokenRow, standIns := [], harness := (true, "db30d1a609ae911ea1e90811ce7e6ac8fed9aa6fd590b0facdadddcabbfc8e10"), looks := false }, kinds := [], alts := [], laidByText := true, laidKinds := [.data, .data, .data], laidTests := true, laidLooks := .later }
def PaceSpokenCardSaid : Prop := Claim7.holds Tryz.pinned (.plain (OpenSpec.ofChange paceSpokenSpec)) paceSpokenCard

/-- THE TIED CARD OF 'hairpintop.TopWarned'. -/
def topWarnedCard : Claim7 := { stood := { row := topWarnedRow, standIns := [], harness := (true, "db30d1a609ae911ea1e90811ce7e6ac8fed9aa6fd590b0facdadddcabbfc8e10"), looks := false }, kinds := [], alts := [], laidByText := true, laidKinds := [.data, .data, .data], laidTests := true, laidLooks := .later }
def TopWarnedCardSaid : Prop := Claim7.holds Tryz.pinned (.plain (OpenSpec.ofChange topWarnedSpec)) topWarnedCard

/-- THE SECOND FORM's CARD OF 'hairpinlaw03.PaceSpoken'. -/
def paceSpokenUptoCard : Claim7 := { stood := { row := paceSpokenUptoRow, standIns := [], harness := (true, "db30d1a609ae911ea1e90811ce7e6ac8fed9aa6fd590b0facdadddcabbfc8e10"), looks := false }, kinds := [], alts := [], laidByText := true, laidKinds := [.data, .data, .data], laidTests := true, laidLooks := .later }
def PaceSpokenUptoCardSaid : Prop := Claim7.holds Tryz.pinned (.plain (OpenSpec.upto paceSpokenSpec)) paceSpokenUptoCard

/-- THE SECOND FORM's CARD OF 'hairpintop.TopWarned'. -/
def topWarnedUptoCard : Claim7 := { stood := { row := topWarnedUptoRow, standIns := [], harness := (true, "db30d1a609ae911ea1e90811ce7e6ac8fed9aa6fd590b0facdadddcabbfc8e10"), looks := false }, kinds := [], alts := [], laidByText := true, laidKinds := [.data, .data, .data], laidTests := true, laidLooks := .later }
def TopWarnedUptoCardSaid : Prop := Claim7.holds Tryz.pinned (.plain (OpenSpec.upto topWarnedSpec)) topWarnedUptoCard
end Rows
end Go.Proofs.YtogkmnopggmdjaaGreatDoor
