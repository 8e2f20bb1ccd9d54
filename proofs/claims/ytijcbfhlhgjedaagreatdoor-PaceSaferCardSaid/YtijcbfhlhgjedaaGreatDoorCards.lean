/-
  DERIVED. GIVEN WITH THE SEED: THE CARDS: each row of YtijcbfhlhgjedaaGreatDoorRows.lean that lists a variable, with what it lists TIED to the program's text (the seventh form; the later family's looks); each row that meets fmt, with fmt's text TOLD by the authors' own Lean function (tested against real Go, not proved from fmt's source: count such statements apart). THE CARD IS WHAT COUNTS. Prove the row's statement (the work); the ties are given (YtijcbfhlhgjedaaGreatDoorTie.lean); close each card by the builder's one call (the guide's Derived/Test/ToyasCard.lean, 'card_holds'). Laid BY PROGRAM, IN A SANDBOX (cutbox-door.mjs). By AI agents, Wed Nov 11 2026. No macro, syntax, notation, axiom, sorry.
-/
import Derived.Test.YtijcbfhlhgjedaaGreatDoorRows
import GoSem.ClaimSeven
namespace Go.Proofs.YtijcbfhlhgjedaaGreatDoor
namespace Rows

/-- THE TIED CARD OF 'hairpinlaw03.PaceSafer'. -/
def paceSaferCard : Claim7 := { stood := { row := paceSaferRow, standIns := [], harness := (true, "c8152d5b582a9bfec3252afdb7e2c32a6a6ec448a8aadd51b00875e1f4c9b717"), looks := false }, kinds := [], alts := [], laidByText := true, laidKinds := [.data, .data, .data], laidTests := true, laidLooks := .later }
def PaceSaferCardSaid : Prop := Claim7.holds Tryz.pinned (.plain (OpenSpec.ofChange paceSaferSpec)) paceSaferCard

/-- THE TIED CARD OF 'hairpinlaw03.PaceSpoken'. -/
def paceSpokenCard : Claim7 := { stood := { row := paceSpokenRow, standIns := [], harness := (true, "c8152d5b582a9bfec3252afdb7e2c32a6a6ec448a8aadd51b00875e1f4c9b717"), looks := false }, kinds := [], alts := [], laidByText := true, laidKinds := [.data, .data, .data], laidTests := true, laidLooks := .later }
def PaceSpokenCardSaid : Prop := Claim7.holds Tryz.pinned (.plain (OpenSpec.ofChange paceSpokenSpec)) paceSpokenCard

/-- THE SECOND FORM's CARD OF 'hairpinlaw03.PaceSafer'. -/
def paceSaferUptoCard : Claim7 := { stood := { row := paceSaferUptoRow, standIns := [], harness := (true, "c8152d5b582a9bfec3252afdb7e2c32a6a6ec448a8aadd51b00875e1f4c9b717"), looks := false }, kinds := [], alts := [], laidByText := true, laidKinds := [.data, .data, .data], laidTests := true, laidLooks := .later }
def PaceSaferUptoCardSaid : Prop := Claim7.holds Tryz.pinned (.plain (OpenSpec.upto paceSaferSpec)) paceSaferUptoCard

/-- THE SECOND FORM's CARD OF 'hairpinlaw03.PaceSpoken'. -/
def paceSpokenUptoCard : Claim7 := { stood := { row := paceSpokenUptoRow, standIns := [], harness := (true, "c8152d5b582a9bfec3252afdb7e2c32a6a6ec448a8aadd51b00875e1f4c9b717"), looks := false }, kinds := [], alts := [], laidByText := true, laidKinds := [.data, .data, .data], laidTests := true, laidLooks := .later }
def PaceSpokenUptoCardSaid : Prop := Claim7.holds Tryz.pinned (.plain (OpenSpec.upto paceSpokenSpec)) paceSpokenUptoCard
end Rows
end Go.Proofs.YtijcbfhlhgjedaaGreatDoor
