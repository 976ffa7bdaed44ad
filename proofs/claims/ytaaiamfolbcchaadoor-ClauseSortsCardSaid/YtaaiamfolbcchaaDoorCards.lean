/-
  DERIVED. GIVEN WITH THE SEED: THE CARDS: each row of YtaaiamfolbcchaaDoorRows.lean that lists a variable, with what it lists TIED to the program's text (the seventh form; the later family's looks); each row that meets fmt, with fmt's text TOLD by the authors' own Lean function (tested against real Go, not proved from fmt's source: count such statements apart). THE CARD IS WHAT COUNTS. Prove the row's statement (the work); the ties are given (YtaaiamfolbcchaaDoorTie.lean); close each card by the builder's one call (the guide's Derived/Test/ToyasCard.lean, 'card_holds'). Laid BY PROGRAM, IN A SANDBOX (cutbox-door.mjs). By AI agents, Wed Nov 11 2026. No macro, syntax, notation, axiom, sorry.
-/
import Derived.Test.YtaaiamfolbcchaaDoorRows
import GoSem.ClaimSeven
namespace Go.Proofs.YtaaiamfolbcchaaDoor
namespace Rows

/-- THE TIED CARD OF 'haulierlaw04.WeekCuts'. -/
def weekCutsCard : Claim7 := { stood := { row := weekCutsRow, standIns := [], harness := (true, "e24e93734a5dcdec9eb533fcc512df88ded2262e9fda777b12e1af929dfd4991"), looks := true }, kinds := [], alts := [], laidByText := true, laidKinds := [.data, .data, .data, .data], laidTests := true, laidLooks := .later }
def WeekCutsCardSaid : Prop := Claim7.holds Tryd.pinned (.plain (OpenSpec.ofChange weekCutsSpec)) weekCutsCard

/-- THE TIED CARD OF 'haulierlaw04.WeekOf'. -/
def weekOfCard : Claim7 := { stood := { row := weekOfRow, standIns := [], harness := (true, "e24e93734a5dcdec9eb533fcc512df88ded2262e9fda777b12e1af929dfd4991"), looks := true }, kinds := [], alts := [], laidByText := true, laidKinds := [.data, .data, .data, .data], laidTests := true, laidLooks := .later }
def WeekOfCardSaid : Prop := Claim7.holds Tryd.pinned (.plain (OpenSpec.ofChange weekOfSpec)) weekOfCard

/-- THE TIED CARD OF 'haulierlaw15.ClauseNames'. -/
def clauseNamesCard : Claim7 := { stood := { row := clauseNamesRow, standIns := [], harness := (true, "e24e93734a5dcdec9eb533fcc512df88ded2262e9fda777b12e1af929dfd4991"), looks := true }, kinds := [], alts := [], laidByText := true, laidKinds := [.data, .data, .data, .data, .data], laidTests := true, laidLooks := .later }
def ClauseNamesCardSaid : Prop := Claim7.holds Tryd.pinned (.plain (OpenSpec.ofChange clauseNamesSpec)) clauseNamesCard

/-- THE TIED CARD OF 'haulierlaw04.WeekNames'. -/
def weekNamesCard : Claim7 := { stood := { row := weekNamesRow, standIns := [], harness := (true, "e24e93734a5dcdec9eb533fcc512df88ded2262e9fda777b12e1af929dfd4991"), looks := true }, kinds := [], alts := [], laidByText := true, laidKinds := [.data, .data, .data, .data, .data, .pinned], laidTests := true, laidLooks := .later }
def WeekNamesCardSaid : Prop := Claim7.holds Tryd.pinned (.plain (OpenSpec.ofChange weekNamesSpec)) weekNamesCard

/-- THE TIED CARD OF 'haulierlaw06.WordNumbers'. -/
def wordNumbersCard : Claim7 := { stood := { row := wordNumbersRow, standIns := [], harness := (true, "e24e93734a5dcdec9eb533fcc512df88ded2262e9fda777b12e1af929dfd4991"), looks := true }, kinds := [], alts := [], laidByText := true, laidKinds := [.data, .data, .data, .sentinel, .sentinel], laidTests := true, laidLooks := .later }
def WordNumbersCardSaid : Prop := Claim7.holds Tryd.pinned (.plain (OpenSpec.ofChange wordNumbersSpec)) wordNumbersCard

/-- THE TIED CARD OF 'haulierlaw06.WordBack'. -/
def wordBackCard : Claim7 := { stood := { row := wordBackRow, standIns := [], harness := (true, "e24e93734a5dcdec9eb533fcc512df88ded2262e9fda777b12e1af929dfd4991"), looks := true }, kinds := [], alts := [], laidByText := true, laidKinds := [.data, .data, .data, .sentinel, .sentinel], laidTests := true, laidLooks := .later }
def WordBackCardSaid : Prop := Claim7.holds Tryd.pinned (.plain (OpenSpec.ofChange wordBackSpec)) wordBackCard

/-- THE TIED CARD OF 'haulierlaw15.ClauseSorts'. -/
def clauseSortsCard : Claim7 := { stood := { row := clauseSortsRow, standIns := [], harness := (true, "e24e93734a5dcdec9eb533fcc512df88ded2262e9fda777b12e1af929dfd4991"), looks := true }, kinds := [], alts := [], laidByText := true, laidKinds := [.data, .data, .data, .data, .data], laidTests := true, laidLooks := .later }
def ClauseSortsCardSaid : Prop := Claim7.holds Tryd.pinned (.plain (OpenSpec.ofChange clauseSortsSpec)) clauseSortsCard

/-- THE TIED CARD OF 'haulierlaw15.ClauseLines'. -/
def clauseLinesCard : Claim7 := { stood := { row := clauseLinesRow, standIns := [], harness := (true, "e24e93734a5dcdec9eb533fcc512df88ded2262e9fda777b12e1af929dfd4991"), looks := true }, kinds := [], alts := [], laidByText := true, laidKinds := [.data, .data, .data, .sentinel, .sentinel, .data, .data], laidTests := true, laidLooks := .later }
def ClauseLinesCardSaid : Prop := Claim7.holds Tryd.pinned (.plain (OpenSpec.ofChange clauseLinesSpec)) clauseLinesCard

/-- THE TIED CARD OF 'haulierlaw06.WordLines'. -/
def wordLinesCard : Claim7 := { stood := { row := wordLinesRow, standIns := [], harness := (true, "e24e93734a5dcdec9eb533fcc512df88ded2262e9fda777b12e1af929dfd4991"), looks := true }, kinds := [], alts := [], laidByText := true, laidKinds := [.data, .data, .data, .data, .sentinel, .sentinel, .pinned], laidTests := true, laidLooks := .later }
def WordLinesCardSaid : Prop := Claim7.holds Tryd.pinned (.plain (OpenSpec.ofChange wordLinesSpec)) wordLinesCard

/-- THE TIED CARD OF 'haulierlaw10.TapeLines'. -/
def tapeLinesCard : Claim7 := { stood := { row := tapeLinesRow, standIns := [], harness := (true, "e24e93734a5dcdec9eb533fcc512df88ded2262e9fda777b12e1af929dfd4991"), looks := true }, kinds := [], alts := [], laidByText := true, laidKinds := [.data, .data, .data, .sentinel, .sentinel], laidTests := true, laidLooks := .later }
def TapeLinesCardSaid : Prop := Claim7.holds Tryd.pinned (.plain (OpenSpec.ofChange tapeLinesSpec)) tapeLinesCard

/-- THE TIED CARD OF 'haulierlaw10.TapeTexts'. -/
def tapeTextsCard : Claim7 := { stood := { row := tapeTextsRow, standIns := [], harness := (true, "e24e93734a5dcdec9eb533fcc512df88ded2262e9fda777b12e1af929dfd4991"), looks := true }, kinds := [], alts := [], laidByText := true, laidKinds := [.data, .data, .data, .data, .sentinel, .sentinel, .pinned], laidTests := true, laidLooks := .later }
def TapeTextsCardSaid : Prop := Claim7.holds Tryd.pinned (.plain (OpenSpec.ofChange tapeTextsSpec)) tapeTextsCard

/-- THE TIED CARD OF 'haulierlaw10.TapeBack'. -/
def tapeBackCard : Claim7 := { stood := { row := tapeBackRow, standIns := [], harness := (true, "e24e93734a5dcdec9eb533fcc512df88ded2262e9fda777b12e1af929dfd4991"), looks := true }, kinds := [], alts := [], laidByText := true, laidKinds := [.data, .data, .data, .data, .sentinel, .sentinel, .pinned], laidTests := true, laidLooks := .later }
def TapeBackCardSaid : Prop := Claim7.holds Tryd.pinned (.plain (OpenSpec.ofChange tapeBackSpec)) tapeBackCard

/-- THE SECOND FORM's CARD OF 'haulierlaw04.WeekCuts'. -/
def weekCutsUptoCard : Claim7 := { stood := { row := weekCutsUptoRow, standIns := [], harness := (true, "e24e93734a5dcdec9eb533fcc512df88ded2262e9fda777b12e1af929dfd4991"), looks := true }, kinds := [], alts := [], laidByText := true, laidKinds := [.data, .data, .data, .data], laidTests := true, laidLooks := .later }
def WeekCutsUptoCardSaid : Prop := Claim7.holds Tryd.pinned (.plain (OpenSpec.upto weekCutsSpec)) weekCutsUptoCard

/-- THE SECOND FORM's CARD OF 'haulierlaw04.WeekOf'. -/
def weekOfUptoCard : Claim7 := { stood := { row := weekOfUptoRow, standIns := [], harness := (true, "e24e93734a5dcdec9eb533fcc512df88ded2262e9fda777b12e1af929dfd4991"), looks := true }, kinds := [], alts := [], laidByText := true, laidKinds := [.data, .data, .data, .data], laidTests := true, laidLooks := .later }
def WeekOfUptoCardSaid : Prop := Claim7.holds Tryd.pinned (.plain (OpenSpec.upto weekOfSpec)) weekOfUptoCard

/-- THE SECOND FORM's CARD OF 'haulierlaw15.ClauseNames'. -/
def clauseNamesUptoCard : Claim7 := { stood := { row := clauseNamesUptoRow, standIns := [], harness := (true, "e24e93734a5dcdec9eb533fcc512df88ded2262e9fda777b12e1af929dfd4991"), looks := true }, kinds := [], alts := [], laidByText := true, laidKinds := [.data, .data, .data, .data, .data], laidTests := true, laidLooks := .later }
def ClauseNamesUptoCardSaid : Prop := Claim7.holds Tryd.pinned (.plain (OpenSpec.upto clauseNamesSpec)) clauseNamesUptoCard

/-- THE SECOND FORM's CARD OF 'haulierlaw04.WeekNames'. -/
def weekNamesUptoCard : Claim7 := { stood := { row := weekNamesUptoRow, standIns := [], harness := (true, "e24e93734a5dcdec9eb533fcc512df88ded2262e9fda777b12e1af929dfd4991"), looks := true }, kinds := [], alts := [], laidByText := true, laidKinds := [.data, .data, .data, .data, .data, .pinned], laidTests := true, laidLooks := .later }
def WeekNamesUptoCardSaid : Prop := Claim7.holds Tryd.pinned (.plain (OpenSpec.upto weekNamesSpec)) weekNamesUptoCard

/-- THE SECOND FORM's CARD OF 'haulierlaw06.WordNumbers'. -/
def wordNumbersUptoCard : Claim7 := { stood := { row := wordNumbersUptoRow, standIns := [], harness := (true, "e24e93734a5dcdec9eb533fcc512df88ded2262e9fda777b12e1af929dfd4991"), looks := true }, kinds := [], alts := [], laidByText := true, laidKinds := [.data, .data, .data, .sentinel, .sentinel], laidTests := true, laidLooks := .later }
def WordNumbersUptoCardSaid : Prop := Claim7.holds Tryd.pinned (.plain (OpenSpec.upto wordNumbersSpec)) wordNumbersUptoCard

/-- THE SECOND FORM's CARD OF 'haulierlaw06.WordBack'. -/
def wordBackUptoCard : Claim7 := { stood := { row := wordBackUptoRow, standIns := [], harness := (true, "e24e93734a5dcdec9eb533fcc512df88ded2262e9fda777b12e1af929dfd4991"), looks := true }, kinds := [], alts := [], laidByText := true, laidKinds := [.data, .data, .data, .sentinel, .sentinel], laidTests := true, laidLooks := .later }
def WordBackUptoCardSaid : Prop := Claim7.holds Tryd.pinned (.plain (OpenSpec.upto wordBackSpec)) wordBackUptoCard

/-- THE SECOND FORM's CARD OF 'haulierlaw15.ClauseSorts'. -/
def clauseSortsUptoCard : Claim7 := { stood := { row := clauseSortsUptoRow, standIns := [], harness := (true, "e24e93734a5dcdec9eb533fcc512df88ded2262e9fda777b12e1af929dfd4991"), looks := true }, kinds := [], alts := [], laidByText := true, laidKinds := [.data, .data, .data, .data, .data], laidTests := true, laidLooks := .later }
def ClauseSortsUptoCardSaid : Prop := Claim7.holds Tryd.pinned (.plain (OpenSpec.upto clauseSortsSpec)) clauseSortsUptoCard

/-- THE SECOND FORM's CARD OF 'haulierlaw15.ClauseLines'. -/
def clauseLinesUptoCard : Claim7 := { stood := { row := clauseLinesUptoRow, standIns := [], harness := (true, "e24e93734a5dcdec9eb533fcc512df88ded2262e9fda777b12e1af929dfd4991"), looks := true }, kinds := [], alts := [], laidByText := true, laidKinds := [.data, .data, .data, .sentinel, .sentinel, .data, .data], laidTests := true, laidLooks := .later }
def ClauseLinesUptoCardSaid : Prop := Claim7.holds Tryd.pinned (.plain (OpenSpec.upto clauseLinesSpec)) clauseLinesUptoCard

/-- THE SECOND FORM's CARD OF 'haulierlaw06.WordLines'. -/
def wordLinesUptoCard : Claim7 := { stood := { row := wordLinesUptoRow, standIns := [], harness := (true, "e24e93734a5dcdec9eb533fcc512df88ded2262e9fda777b12e1af929dfd4991"), looks := true }, kinds := [], alts := [], laidByText := true, laidKinds := [.data, .data, .data, .data, .sentinel, .sentinel, .pinned], laidTests := true, laidLooks := .later }
def WordLinesUptoCardSaid : Prop := Claim7.holds Tryd.pinned (.plain (OpenSpec.upto wordLinesSpec)) wordLinesUptoCard

/-- THE SECOND FORM's CARD OF 'haulierlaw10.TapeLines'. -/
def tapeLinesUptoCard : Claim7 := { stood := { row := tapeLinesUptoRow, standIns := [], harness := (true, "e24e93734a5dcdec9eb533fcc512df88ded2262e9fda777b12e1af929dfd4991"), looks := true }, kinds := [], alts := [], laidByText := true, laidKinds := [.data, .data, .data, .sentinel, .sentinel], laidTests := true, laidLooks := .later }
def TapeLinesUptoCardSaid : Prop := Claim7.holds Tryd.pinned (.plain (OpenSpec.upto tapeLinesSpec)) tapeLinesUptoCard

/-- THE SECOND FORM's CARD OF 'haulierlaw10.TapeTexts'. -/
def tapeTextsUptoCard : Claim7 := { stood := { row := tapeTextsUptoRow, standIns := [], harness := (true, "e24e93734a5dcdec9eb533fcc512df88ded2262e9fda777b12e1af929dfd4991"), looks := true }, kinds := [], alts := [], laidByText := true, laidKinds := [.data, .data, .data, .data, .sentinel, .sentinel, .pinned], laidTests := true, laidLooks := .later }
def TapeTextsUptoCardSaid : Prop := Claim7.holds Tryd.pinned (.plain (OpenSpec.upto tapeTextsSpec)) tapeTextsUptoCard

/-- THE SECOND FORM's CARD OF 'haulierlaw10.TapeBack'. -/
def tapeBackUptoCard : Claim7 := { stood := { row := tapeBackUptoRow, standIns := [], harness := (true, "e24e93734a5dcdec9eb533fcc512df88ded2262e9fda777b12e1af929dfd4991"), looks := true }, kinds := [], alts := [], laidByText := true, laidKinds := [.data, .data, .data, .data, .sentinel, .sentinel, .pinned], laidTests := true, laidLooks := .later }
def TapeBackUptoCardSaid : Prop := Claim7.holds Tryd.pinned (.plain (OpenSpec.upto tapeBackSpec)) tapeBackUptoCard
end Rows
end Go.Proofs.YtaaiamfolbcchaaDoor
