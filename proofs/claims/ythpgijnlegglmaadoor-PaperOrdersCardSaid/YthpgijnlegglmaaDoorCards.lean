/-
  DERIVED. GIVEN WITH THE SEED: THE CARDS: each row of YthpgijnlegglmaaDoorRows.lean that lists a variable, with what it lists TIED to the program's text (the seventh form; the later family's looks); each row that meets fmt, with fmt's text TOLD by the authors' own Lean function (tested against real Go, not proved from fmt's source: count such statements apart). THE CARD IS WHAT COUNTS. Prove the row's statement (the work); the ties are given (YthpgijnlegglmaaDoorTie.lean); close each card by the builder's one call (the guide's Derived/Test/ToyasCard.lean, 'card_holds'). Laid BY PROGRAM, IN A SANDBOX (cutbox-door.mjs). By AI agents, Wed Nov 11 2026. No macro, syntax, notation, axiom, sorry.
-/
import Derived.Test.YthpgijnlegglmaaDoorRows
import GoSem.ClaimSeven
namespace Go.Proofs.YthpgijnlegglmaaDoor
namespace Rows

/-- THE TIED CARD OF 'haulierlaw06.WordNumbers'. -/
def wordNumbersCard : Claim7 := { stood := { row := wordNumbersRow, standIns := [], harness := (true, "09edfb2789f7b0be10ed6482eeba4978dc6ce0e3b4d7fd7be32b04e4e0f4e347"), looks := true }, kinds := [], alts := [], laidByText := true, laidKinds := [.data, .data, .data, .sentinel, .sentinel], laidTests := true, laidLooks := .later }
def WordNumbersCardSaid : Prop := Claim7.holds Tryd.pinned (.plain (OpenSpec.ofChange wordNumbersSpec)) wordNumbersCard

/-- THE TIED CARD OF 'haulierlaw31.PaperOrders'. -/
def paperOrdersCard : Claim7 := { stood := { row := paperOrdersRow, standIns := [], harness := (true, "09edfb2789f7b0be10ed6482eeba4978dc6ce0e3b4d7fd7be32b04e4e0f4e347"), looks := true }, kinds := [], alts := [], laidByText := true, laidKinds := [.data, .data, .data, .sentinel, .sentinel], laidTests := true, laidLooks := .later }
def PaperOrdersCardSaid : Prop := Claim7.holds Tryd.pinned (.plain (OpenSpec.ofChange paperOrdersSpec)) paperOrdersCard

/-- THE TIED CARD OF 'haulierlaw06.WordLines'. -/
def wordLinesCard : Claim7 := { stood := { row := wordLinesRow, standIns := [], harness := (true, "09edfb2789f7b0be10ed6482eeba4978dc6ce0e3b4d7fd7be32b04e4e0f4e347"), looks := true }, kinds := [], alts := [], laidByText := true, laidKinds := [.data, .data, .data, .data, .sentinel, .sentinel, .pinned], laidTests := true, laidLooks := .later }
def WordLinesCardSaid : Prop := Claim7.holds Tryd.pinned (.plain (OpenSpec.ofChange wordLinesSpec)) wordLinesCard

/-- THE TIED CARD OF 'haulierlaw10.TapeTexts'. -/
def tapeTextsCard : Claim7 := { stood := { row := tapeTextsRow, standIns := [], harness := (true, "09edfb2789f7b0be10ed6482eeba4978dc6ce0e3b4d7fd7be32b04e4e0f4e347"), looks := true }, kinds := [], alts := [], laidByText := true, laidKinds := [.data, .data, .data, .data, .sentinel, .sentinel, .pinned], laidTests := true, laidLooks := .later }
def TapeTextsCardSaid : Prop := Claim7.holds Tryd.pinned (.plain (OpenSpec.ofChange tapeTextsSpec)) tapeTextsCard

/-- THE SECOND FORM's CARD OF 'haulierlaw06.WordNumbers'. -/
def wordNumbersUptoCard : Claim7 := { stood := { row := wordNumbersUptoRow, standIns := [], harness := (true, "09edfb2789f7b0be10ed6482eeba4978dc6ce0e3b4d7fd7be32b04e4e0f4e347"), looks := true }, kinds := [], alts := [], laidByText := true, laidKinds := [.data, .data, .data, .sentinel, .sentinel], laidTests := true, laidLooks := .later }
def WordNumbersUptoCardSaid : Prop := Claim7.holds Tryd.pinned (.plain (OpenSpec.upto wordNumbersSpec)) wordNumbersUptoCard

/-- THE SECOND FORM's CARD OF 'haulierlaw31.PaperOrders'. -/
def paperOrdersUptoCard : Claim7 := { stood := { row := paperOrdersUptoRow, standIns := [], harness := (true, "09edfb2789f7b0be10ed6482eeba4978dc6ce0e3b4d7fd7be32b04e4e0f4e347"), looks := true }, kinds := [], alts := [], laidByText := true, laidKinds := [.data, .data, .data, .sentinel, .sentinel], laidTests := true, laidLooks := .later }
def PaperOrdersUptoCardSaid : Prop := Claim7.holds Tryd.pinned (.plain (OpenSpec.upto paperOrdersSpec)) paperOrdersUptoCard

/-- THE SECOND FORM's CARD OF 'haulierlaw06.WordLines'. -/
def wordLinesUptoCard : Claim7 := { stood := { row := wordLinesUptoRow, standIns := [], harness := (true, "09edfb2789f7b0be10ed6482eeba4978dc6ce0e3b4d7fd7be32b04e4e0f4e347"), looks := true }, kinds := [], alts := [], laidByText := true, laidKinds := [.data, .data, .data, .data, .sentinel, .sentinel, .pinned], laidTests := true, laidLooks := .later }
def WordLinesUptoCardSaid : Prop := Claim7.holds Tryd.pinned (.plain (OpenSpec.upto wordLinesSpec)) wordLinesUptoCard

/-- THE SECOND FORM's CARD OF 'haulierlaw10.TapeTexts'. -/
def tapeTextsUptoCard : Claim7 := { stood := { row := tapeTextsUptoRow, standIns := [], harness := (true, "09edfb2789f7b0be10ed6482eeba4978dc6ce0e3b4d7fd7be32b04e4e0f4e347"), looks := true }, kinds := [], alts := [], laidByText := true, laidKinds := [.data, .data, .data, .data, .sentinel, .sentinel, .pinned], laidTests := true, laidLooks := .later }
def TapeTextsUptoCardSaid : Prop := Claim7.holds Tryd.pinned (.plain (OpenSpec.upto tapeTextsSpec)) tapeTextsUptoCard
end Rows
end Go.Proofs.YthpgijnlegglmaaDoor
