/-
  DERIVED. GIVEN WITH THE SEED: THE CARDS: each row of YtieenbjncimikaaGreatDoorRows.lean that lists a variable, with what it lists TIED to the program's text (the seventh form; the later family's looks); each row that meets fmt, with fmt's text TOLD by the authors' own Lean function (tested against real Go, not proved from fmt's source: count such statements apart). THE CARD IS WHAT COUNTS. Prove the row's statement (the work); the ties are given (YtieenbjncimikaaGreatDoorTie.lean); close each card by the builder's one call (the guide's Derived/Test/ToyasCard.lean, 'card_holds'). Laid BY PROGRAM, IN A SANDBOX (cutbox-door.mjs). By AI agents, Wed Nov 11 2026. No macro, syntax, notation, axiom, sorry.
-/
import Derived.Test.YtieenbjncimikaaGreatDoorRows
import GoSem.ClaimSeven
namespace Go.Proofs.YtieenbjncimikaaGreatDoor
namespace Rows

/-- THE TIED CARD OF 'haulierlaw42.ScriptLines'. -/
def scriptLinesCard : Claim7 := { stood := { row := scriptLinesRow, standIns := [], harness := (true, "0e2f4c609fd2da8ccd43c3d8258189637f5bd006c4c2eb9077246b07506376a6"), looks := true }, kinds := [], alts := [], laidByText := true, laidKinds := [.data, .data, .data, .sentinel, .sentinel], laidTests := true, laidLooks := .later }
def ScriptLinesCardSaid : Prop := Claim7.holds Tryz.pinned (.plain (OpenSpec.ofChange scriptLinesSpec)) scriptLinesCard

/-- THE TIED CARD OF 'haulierlaw42.ScriptBack'. -/
def scriptBackCard : Claim7 := { stood := { row := scriptBackRow, standIns := [], harness := (true, "0e2f4c609fd2da8ccd43c3d8258189637f5bd006c4c2eb9077246b07506376a6"), looks := true }, kinds := [], alts := [], laidByText := true, laidKinds := [.data, .data, .data, .sentinel, .sentinel], laidTests := true, laidLooks := .later }
def ScriptBackCardSaid : Prop := Claim7.holds Tryz.pinned (.plain (OpenSpec.ofChange scriptBackSpec)) scriptBackCard

/-- THE TIED CARD OF 'haulierlaw31.PaperPrints'. -/
def paperPrintsCard : Claim7 := { stood := { row := paperPrintsRow, standIns := [], harness := (true, "0e2f4c609fd2da8ccd43c3d8258189637f5bd006c4c2eb9077246b07506376a6"), looks := true }, kinds := [], alts := [], laidByText := true, laidKinds := [.data, .data, .data, .sentinel, .sentinel], laidTests := true, laidLooks := .later }
def PaperPrintsCardSaid : Prop := Claim7.holds Tryz.pinned (.plain (OpenSpec.ofChange paperPrintsSpec)) paperPrintsCard

/-- THE TIED CARD OF 'haulierlaw31.PaperReads'. -/
def paperReadsCard : Claim7 := { stood := { row := paperReadsRow, standIns := [], harness := (true, "0e2f4c609fd2da8ccd43c3d8258189637f5bd006c4c2eb9077246b07506376a6"), looks := true }, kinds := [], alts := [], laidByText := true, laidKinds := [.data, .data, .data, .data, .sentinel, .sentinel, .pinned], laidTests := true, laidLooks := .later }
def PaperReadsCardSaid : Prop := Claim7.holds Tryz.pinned (.plain (OpenSpec.ofChange paperReadsSpec)) paperReadsCard

/-- THE TIED CARD OF 'haulierlaw31.PaperCut'. -/
def paperCutCard : Claim7 := { stood := { row := paperCutRow, standIns := [], harness := (true, "0e2f4c609fd2da8ccd43c3d8258189637f5bd006c4c2eb9077246b07506376a6"), looks := true }, kinds := [], alts := [], laidByText := true, laidKinds := [.data, .data, .data, .data, .sentinel, .sentinel, .pinned], laidTests := true, laidLooks := .later }
def PaperCutCardSaid : Prop := Claim7.holds Tryz.pinned (.plain (OpenSpec.ofChange paperCutSpec)) paperCutCard

/-- THE TIED CARD OF 'haulierlaw31.PaperBack'. -/
def paperBackCard : Claim7 := { stood := { row := paperBackRow, standIns := [], harness := (true, "0e2f4c609fd2da8ccd43c3d8258189637f5bd006c4c2eb9077246b07506376a6"), looks := true }, kinds := [], alts := [], laidByText := true, laidKinds := [.data, .data, .data, .data, .sentinel, .sentinel, .pinned], laidTests := true, laidLooks := .later }
def PaperBackCardSaid : Prop := Claim7.holds Tryz.pinned (.plain (OpenSpec.ofChange paperBackSpec)) paperBackCard

/-- THE TIED CARD OF 'haulierlaw31.PaperAgain'. -/
def paperAgainCard : Claim7 := { stood := { row := paperAgainRow, standIns := [], harness := (true, "0e2f4c609fd2da8ccd43c3d8258189637f5bd006c4c2eb9077246b07506376a6"), looks := true }, kinds := [], alts := [], laidByText := true, laidKinds := [.data, .data, .data, .data, .sentinel, .sentinel, .pinned], laidTests := true, laidLooks := .later }
def PaperAgainCardSaid : Prop := Claim7.holds Tryz.pinned (.plain (OpenSpec.ofChange paperAgainSpec)) paperAgainCard

/-- THE SECOND FORM's CARD OF 'haulierlaw42.ScriptLines'. -/
def scriptLinesUptoCard : Claim7 := { stood := { row := scriptLinesUptoRow, standIns := [], harness := (true, "0e2f4c609fd2da8ccd43c3d8258189637f5bd006c4c2eb9077246b07506376a6"), looks := true }, kinds := [], alts := [], laidByText := true, laidKinds := [.data, .data, .data, .sentinel, .sentinel], laidTests := true, laidLooks := .later }
def ScriptLinesUptoCardSaid : Prop := Claim7.holds Tryz.pinned (.plain (OpenSpec.upto scriptLinesSpec)) scriptLinesUptoCard

/-- THE SECOND FORM's CARD OF 'haulierlaw42.ScriptBack'. -/
def scriptBackUptoCard : Claim7 := { stood := { row := scriptBackUptoRow, standIns := [], harness := (true, "0e2f4c609fd2da8ccd43c3d8258189637f5bd006c4c2eb9077246b07506376a6"), looks := true }, kinds := [], alts := [], laidByText := true, laidKinds := [.data, .data, .data, .sentinel, .sentinel], laidTests := true, laidLooks := .later }
def ScriptBackUptoCardSaid : Prop := Claim7.holds Tryz.pinned (.plain (OpenSpec.upto scriptBackSpec)) scriptBackUptoCard

/-- THE SECOND FORM's CARD OF 'haulierlaw31.PaperPrints'. -/
def paperPrintsUptoCard : Claim7 := { stood := { row := paperPrintsUptoRow, standIns := [], harness := (true, "0e2f4c609fd2da8ccd43c3d8258189637f5bd006c4c2eb9077246b07506376a6"), looks := true }, kinds := [], alts := [], laidByText := true, laidKinds := [.data, .data, .data, .sentinel, .sentinel], laidTests := true, laidLooks := .later }
def PaperPrintsUptoCardSaid : Prop := Claim7.holds Tryz.pinned (.plain (OpenSpec.upto paperPrintsSpec)) paperPrintsUptoCard

/-- THE SECOND FORM's CARD OF 'haulierlaw31.PaperReads'. -/
def paperReadsUptoCard : Claim7 := { stood := { row := paperReadsUptoRow, standIns := [], harness := (true, "0e2f4c609fd2da8ccd43c3d8258189637f5bd006c4c2eb9077246b07506376a6"), looks := true }, kinds := [], alts := [], laidByText := true, laidKinds := [.data, .data, .data, .data, .sentinel, .sentinel, .pinned], laidTests := true, laidLooks := .later }
def PaperReadsUptoCardSaid : Prop := Claim7.holds Tryz.pinned (.plain (OpenSpec.upto paperReadsSpec)) paperReadsUptoCard

/-- THE SECOND FORM's CARD OF 'haulierlaw31.PaperCut'. -/
def paperCutUptoCard : Claim7 := { stood := { row := paperCutUptoRow, standIns := [], harness := (true, "0e2f4c609fd2da8ccd43c3d8258189637f5bd006c4c2eb9077246b07506376a6"), looks := true }, kinds := [], alts := [], laidByText := true, laidKinds := [.data, .data, .data, .data, .sentinel, .sentinel, .pinned], laidTests := true, laidLooks := .later }
def PaperCutUptoCardSaid : Prop := Claim7.holds Tryz.pinned (.plain (OpenSpec.upto paperCutSpec)) paperCutUptoCard

/-- THE SECOND FORM's CARD OF 'haulierlaw31.PaperBack'. -/
def paperBackUptoCard : Claim7 := { stood := { row := paperBackUptoRow, standIns := [], harness := (true, "0e2f4c609fd2da8ccd43c3d8258189637f5bd006c4c2eb9077246b07506376a6"), looks := true }, kinds := [], alts := [], laidByText := true, laidKinds := [.data, .data, .data, .data, .sentinel, .sentinel, .pinned], laidTests := true, laidLooks := .later }
def PaperBackUptoCardSaid : Prop := Claim7.holds Tryz.pinned (.plain (OpenSpec.upto paperBackSpec)) paperBackUptoCard

/-- THE SECOND FORM's CARD OF 'haulierlaw31.PaperAgain'. -/
def paperAgainUptoCard : Claim7 := { stood := { row := paperAgainUptoRow, standIns := [], harness := (true, "0e2f4c609fd2da8ccd43c3d8258189637f5bd006c4c2eb9077246b07506376a6"), looks := true }, kinds := [], alts := [], laidByText := true, laidKinds := [.data, .data, .data, .data, .sentinel, .sentinel, .pinned], laidTests := true, laidLooks := .later }
def PaperAgainUptoCardSaid : Prop := Claim7.holds Tryz.pinned (.plain (OpenSpec.upto paperAgainSpec)) paperAgainUptoCard
end Rows
end Go.Proofs.YtieenbjncimikaaGreatDoor
