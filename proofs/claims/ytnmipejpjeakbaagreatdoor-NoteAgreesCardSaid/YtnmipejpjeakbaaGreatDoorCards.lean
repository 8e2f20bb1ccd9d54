/-
  DERIVED. GIVEN WITH THE SEED: THE CARDS: each row of YtnmipejpjeakbaaGreatDoorRows.lean that lists a variable, with what it lists TIED to the program's text (the seventh form; the later family's looks); each row that meets fmt, with fmt's text TOLD by the authors' own Lean function (tested against real Go, not proved from fmt's source: count such statements apart). THE CARD IS WHAT COUNTS. Prove the row's statement (the work); the ties are given (YtnmipejpjeakbaaGreatDoorTie.lean); close each card by the builder's one call (the guide's Derived/Test/ToyasCard.lean, 'card_holds'). Laid BY PROGRAM, IN A SANDBOX (cutbox-door.mjs). By AI agents, Wed Nov 11 2026. No macro, syntax, notation, axiom, sorry.
-/
import Derived.Test.YtnmipejpjeakbaaGreatDoorRows
import GoSem.ClaimSeven
namespace Go.Proofs.YtnmipejpjeakbaaGreatDoor
namespace Rows

/-- THE TIED CARD OF 'hairpinlaw02.NoteReads'. -/
def noteReadsCard : Claim7 := { stood := { row := noteReadsRow, standIns := [], harness := (true, "805e5e8f861c6ad7812ec7bb480e2e00044b02a2234ddeef919a1850af8c9200"), looks := true }, kinds := [], alts := [], laidByText := true, laidKinds := [.data, .data, .data], laidTests := true, laidLooks := .later }
def NoteReadsCardSaid : Prop := Claim7.holds Tryz.pinned (.plain (OpenSpec.ofChange noteReadsSpec)) noteReadsCard

/-- THE TIED CARD OF 'hairpinlaw02.NoteWrites'. -/
def noteWritesCard : Claim7 := { stood := { row := noteWritesRow, standIns := [], harness := (true, "805e5e8f861c6ad7812ec7bb480e2e00044b02a2234ddeef919a1850af8c9200"), looks := true }, kinds := [], alts := [], laidByText := true, laidKinds := [.data, .data, .data], laidTests := true, laidLooks := .later }
def NoteWritesCardSaid : Prop := Claim7.holds Tryz.pinned (.plain (OpenSpec.ofChange noteWritesSpec)) noteWritesCard

/-- THE TIED CARD OF 'hairpinlaw02.NoteMany'. -/
def noteManyCard : Claim7 := { stood := { row := noteManyRow, standIns := [], harness := (true, "805e5e8f861c6ad7812ec7bb480e2e00044b02a2234ddeef919a1850af8c9200"), looks := true }, kinds := [], alts := [], laidByText := true, laidKinds := [.data, .data, .data], laidTests := true, laidLooks := .later }
def NoteManyCardSaid : Prop := Claim7.holds Tryz.pinned (.plain (OpenSpec.ofChange noteManySpec)) noteManyCard

/-- THE TIED CARD OF 'hairpinlaw02.NoteMends'. -/
def noteMendsCard : Claim7 := { stood := { row := noteMendsRow, standIns := [], harness := (true, "805e5e8f861c6ad7812ec7bb480e2e00044b02a2234ddeef919a1850af8c9200"), looks := true }, kinds := [], alts := [], laidByText := true, laidKinds := [.data, .data, .data], laidTests := true, laidLooks := .later }
def NoteMendsCardSaid : Prop := Claim7.holds Tryz.pinned (.plain (OpenSpec.ofChange noteMendsSpec)) noteMendsCard

/-- THE TIED CARD OF 'hairpinlaw02.NoteGrades'. -/
def noteGradesCard : Claim7 := { stood := { row := noteGradesRow, standIns := [], harness := (true, "805e5e8f861c6ad7812ec7bb480e2e00044b02a2234ddeef919a1850af8c9200"), looks := true }, kinds := [], alts := [], laidByText := true, laidKinds := [.data, .data, .data], laidTests := true, laidLooks := .later }
def NoteGradesCardSaid : Prop := Claim7.holds Tryz.pinned (.plain (OpenSpec.ofChange noteGradesSpec)) noteGradesCard

/-- THE TIED CARD OF 'hairpinlaw02.NoteTells'. -/
def noteTellsCard : Claim7 := { stood := { row := noteTellsRow, standIns := [], harness := (true, "805e5e8f861c6ad7812ec7bb480e2e00044b02a2234ddeef919a1850af8c9200"), looks := true }, kinds := [], alts := [], laidByText := true, laidKinds := [.data, .data, .data], laidTests := true, laidLooks := .later }
def NoteTellsCardSaid : Prop := Claim7.holds Tryz.pinned (.plain (OpenSpec.ofChange noteTellsSpec)) noteTellsCard

/-- THE TIED CARD OF 'hairpinlaw02.NoteFewest'. -/
def noteFewestCard : Claim7 := { stood := { row := noteFewestRow, standIns := [], harness := (true, "805e5e8f861c6ad7812ec7bb480e2e00044b02a2234ddeef919a1850af8c9200"), looks := true }, kinds := [], alts := [], laidByText := true, laidKinds := [.data, .data, .data], laidTests := true, laidLooks := .later }
def NoteFewestCardSaid : Prop := Claim7.holds Tryz.pinned (.plain (OpenSpec.ofChange noteFewestSpec)) noteFewestCard

/-- THE TIED CARD OF 'hairpinlaw02.NoteApplies'. -/
def noteAppliesCard : Claim7 := { stood := { row := noteAppliesRow, standIns := [], harness := (true, "805e5e8f861c6ad7812ec7bb480e2e00044b02a2234ddeef919a1850af8c9200"), looks := true }, kinds := [], alts := [], laidByText := true, laidKinds := [.data, .data, .data], laidTests := true, laidLooks := .later }
def NoteAppliesCardSaid : Prop := Claim7.holds Tryz.pinned (.plain (OpenSpec.ofChange noteAppliesSpec)) noteAppliesCard

/-- THE TIED CARD OF 'hairpinlaw02.NoteFull'. -/
def noteFullCard : Claim7 := { stood := { row := noteFullRow, standIns := [], harness := (true, "805e5e8f861c6ad7812ec7bb480e2e00044b02a2234ddeef919a1850af8c9200"), looks := true }, kinds := [], alts := [], laidByText := true, laidKinds := [.data, .data, .data], laidTests := true, laidLooks := .later }
def NoteFullCardSaid : Prop := Claim7.holds Tryz.pinned (.plain (OpenSpec.ofChange noteFullSpec)) noteFullCard

/-- THE TIED CARD OF 'hairpinlaw02.NoteAgrees'. -/
def noteAgreesCard : Claim7 := { stood := { row := noteAgreesRow, standIns := [], harness := (true, "805e5e8f861c6ad7812ec7bb480e2e00044b02a2234ddeef919a1850af8c9200"), looks := true }, kinds := [], alts := [], laidByText := true, laidKinds := [.data, .data, .data], laidTests := true, laidLooks := .later }
def NoteAgreesCardSaid : Prop := Claim7.holds Tryz.pinned (.plain (OpenSpec.ofChange noteAgreesSpec)) noteAgreesCard

/-- THE SECOND FORM's CARD OF 'hairpinlaw02.NoteReads'. -/
def noteReadsUptoCard : Claim7 := { stood := { row := noteReadsUptoRow, standIns := [], harness := (true, "805e5e8f861c6ad7812ec7bb480e2e00044b02a2234ddeef919a1850af8c9200"), looks := true }, kinds := [], alts := [], laidByText := true, laidKinds := [.data, .data, .data], laidTests := true, laidLooks := .later }
def NoteReadsUptoCardSaid : Prop := Claim7.holds Tryz.pinned (.plain (OpenSpec.upto noteReadsSpec)) noteReadsUptoCard

/-- THE SECOND FORM's CARD OF 'hairpinlaw02.NoteWrites'. -/
def noteWritesUptoCard : Claim7 := { stood := { row := noteWritesUptoRow, standIns := [], harness := (true, "805e5e8f861c6ad7812ec7bb480e2e00044b02a2234ddeef919a1850af8c9200"), looks := true }, kinds := [], alts := [], laidByText := true, laidKinds := [.data, .data, .data], laidTests := true, laidLooks := .later }
def NoteWritesUptoCardSaid : Prop := Claim7.holds Tryz.pinned (.plain (OpenSpec.upto noteWritesSpec)) noteWritesUptoCard

/-- THE SECOND FORM's CARD OF 'hairpinlaw02.NoteMany'. -/
def noteManyUptoCard : Claim7 := { stood := { row := noteManyUptoRow, standIns := [], harness := (true, "805e5e8f861c6ad7812ec7bb480e2e00044b02a2234ddeef919a1850af8c9200"), looks := true }, kinds := [], alts := [], laidByText := true, laidKinds := [.data, .data, .data], laidTests := true, laidLooks := .later }
def NoteManyUptoCardSaid : Prop := Claim7.holds Tryz.pinned (.plain (OpenSpec.upto noteManySpec)) noteManyUptoCard

/-- THE SECOND FORM's CARD OF 'hairpinlaw02.NoteMends'. -/
def noteMendsUptoCard : Claim7 := { stood := { row := noteMendsUptoRow, standIns := [], harness := (true, "805e5e8f861c6ad7812ec7bb480e2e00044b02a2234ddeef919a1850af8c9200"), looks := true }, kinds := [], alts := [], laidByText := true, laidKinds := [.data, .data, .data], laidTests := true, laidLooks := .later }
def NoteMendsUptoCardSaid : Prop := Claim7.holds Tryz.pinned (.plain (OpenSpec.upto noteMendsSpec)) noteMendsUptoCard

/-- THE SECOND FORM's CARD OF 'hairpinlaw02.NoteGrades'. -/
def noteGradesUptoCard : Claim7 := { stood := { row := noteGradesUptoRow, standIns := [], harness := (true, "805e5e8f861c6ad7812ec7bb480e2e00044b02a2234ddeef919a1850af8c9200"), looks := true }, kinds := [], alts := [], laidByText := true, laidKinds := [.data, .data, .data], laidTests := true, laidLooks := .later }
def NoteGradesUptoCardSaid : Prop := Claim7.holds Tryz.pinned (.plain (OpenSpec.upto noteGradesSpec)) noteGradesUptoCard

/-- THE SECOND FORM's CARD OF 'hairpinlaw02.NoteTells'. -/
def noteTellsUptoCard : Claim7 := { stood := { row := noteTellsUptoRow, standIns := [], harness := (true, "805e5e8f861c6ad7812ec7bb480e2e00044b02a2234ddeef919a1850af8c9200"), looks := true }, kinds := [], alts := [], laidByText := true, laidKinds := [.data, .data, .data], laidTests := true, laidLooks := .later }
def NoteTellsUptoCardSaid : Prop := Claim7.holds Tryz.pinned (.plain (OpenSpec.upto noteTellsSpec)) noteTellsUptoCard

/-- THE SECOND FORM's CARD OF 'hairpinlaw02.NoteFewest'. -/
def noteFewestUptoCard : Claim7 := { stood := { row := noteFewestUptoRow, standIns := [], harness := (true, "805e5e8f861c6ad7812ec7bb480e2e00044b02a2234ddeef919a1850af8c9200"), looks := true }, kinds := [], alts := [], laidByText := true, laidKinds := [.data, .data, .data], laidTests := true, laidLooks := .later }
def NoteFewestUptoCardSaid : Prop := Claim7.holds Tryz.pinned (.plain (OpenSpec.upto noteFewestSpec)) noteFewestUptoCard

/-- THE SECOND FORM's CARD OF 'hairpinlaw02.NoteApplies'. -/
def noteAppliesUptoCard : Claim7 := { stood := { row := noteAppliesUptoRow, standIns := [], harness := (true, "805e5e8f861c6ad7812ec7bb480e2e00044b02a2234ddeef919a1850af8c9200"), looks := true }, kinds := [], alts := [], laidByText := true, laidKinds := [.data, .data, .data], laidTests := true, laidLooks := .later }
def NoteAppliesUptoCardSaid : Prop := Claim7.holds Tryz.pinned (.plain (OpenSpec.upto noteAppliesSpec)) noteAppliesUptoCard

/-- THE SECOND FORM's CARD OF 'hairpinlaw02.NoteFull'. -/
def noteFullUptoCard : Claim7 := { stood := { row := noteFullUptoRow, standIns := [], harness := (true, "805e5e8f861c6ad7812ec7bb480e2e00044b02a2234ddeef919a1850af8c9200"), looks := true }, kinds := [], alts := [], laidByText := true, laidKinds := [.data, .data, .data], laidTests := true, laidLooks := .later }
def NoteFullUptoCardSaid : Prop := Claim7.holds Tryz.pinned (.plain (OpenSpec.upto noteFullSpec)) noteFullUptoCard

/-- THE SECOND FORM's CARD OF 'hairpinlaw02.NoteAgrees'. -/
def noteAgreesUptoCard : Claim7 := { stood := { row := noteAgreesUptoRow, standIns := [], harness := (true, "805e5e8f861c6ad7812ec7bb480e2e00044b02a2234ddeef919a1850af8c9200"), looks := true }, kinds := [], alts := [], laidByText := true, laidKinds := [.data, .data, .data], laidTests := true, laidLooks := .later }
def NoteAgreesUptoCardSaid : Prop := Claim7.holds Tryz.pinned (.plain (OpenSpec.upto noteAgreesSpec)) noteAgreesUptoCard
end Rows
end Go.Proofs.YtnmipejpjeakbaaGreatDoor
