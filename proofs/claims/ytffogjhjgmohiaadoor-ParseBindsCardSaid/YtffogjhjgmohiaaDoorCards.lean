/-
  DERIVED. GIVEN WITH THE SEED: THE CARDS: each row of YtffogjhjgmohiaaDoorRows.lean that lists a variable, with what it lists TIED to the program's text (the seventh form; the later family's looks); each row that meets fmt, with fmt's text TOLD by the authors' own Lean function (tested against real Go, not proved from fmt's source: count such statements apart). THE CARD IS WHAT COUNTS. Prove the row's statement (the work); the ties are given (YtffogjhjgmohiaaDoorTie.lean); close each card by the builder's one call (the guide's Derived/Test/ToyasCard.lean, 'card_holds'). Laid BY PROGRAM, IN A SANDBOX (cutbox-door.mjs). By AI agents, Wed Nov 11 2026. No macro, syntax, notation, axiom, sorry.
-/
import Derived.Test.YtffogjhjgmohiaaDoorRows
import GoSem.ClaimSeven
namespace Go.Proofs.YtffogjhjgmohiaaDoor
namespace Rows

/-- THE TIED CARD OF 'reckonerlaw06.ParseBinds'. -/
def parseBindsCard : Claim7 := { stood := { row := parseBindsRow, standIns := [], harness := (true, "46d4b8cda27a39e4269dcc0455f8ab5d130346b920e92cd75e3001c748d3f4cc"), looks := true }, kinds := [], alts := [], laidByText := true, laidKinds := [.data, .data, .data, .sentinel, .sentinel, .listed, .data, .data], laidTests := true, laidLooks := .later }
def ParseBindsCardSaid : Prop := Claim7.holds Tryd.pinned (.plain (OpenSpec.ofChange parseBindsSpec)) parseBindsCard

/-- THE TIED CARD OF 'reckonerlaw06.ParseSheets'. -/
def parseSheetsCard : Claim7 := { stood := { row := parseSheetsRow, standIns := [], harness := (true, "46d4b8cda27a39e4269dcc0455f8ab5d130346b920e92cd75e3001c748d3f4cc"), looks := true }, kinds := [], alts := [], laidByText := true, laidKinds := [.data, .data, .data, .sentinel, .sentinel, .listed, .data, .data], laidTests := true, laidLooks := .later }
def ParseSheetsCardSaid : Prop := Claim7.holds Tryd.pinned (.plain (OpenSpec.ofChange parseSheetsSpec)) parseSheetsCard

/-- THE TIED CARD OF 'reckonerlaw06.ParseDeep'. -/
def parseDeepCard : Claim7 := { stood := { row := parseDeepRow, standIns := [], harness := (true, "46d4b8cda27a39e4269dcc0455f8ab5d130346b920e92cd75e3001c748d3f4cc"), looks := true }, kinds := [], alts := [], laidByText := true, laidKinds := [.data, .data, .data, .sentinel, .sentinel, .listed, .data, .data], laidTests := true, laidLooks := .later }
def ParseDeepCardSaid : Prop := Claim7.holds Tryd.pinned (.plain (OpenSpec.ofChange parseDeepSpec)) parseDeepCard

/-- THE TIED CARD OF 'reckonerlaw06.ParseCalls'. -/
def parseCallsCard : Claim7 := { stood := { row := parseCallsRow, standIns := [], harness := (true, "46d4b8cda27a39e4269dcc0455f8ab5d130346b920e92cd75e3001c748d3f4cc"), looks := true }, kinds := [], alts := [], laidByText := true, laidKinds := [.data, .data, .data, .sentinel, .sentinel, .listed, .data, .data], laidTests := true, laidLooks := .later }
def ParseCallsCardSaid : Prop := Claim7.holds Tryd.pinned (.plain (OpenSpec.ofChange parseCallsSpec)) parseCallsCard

/-- THE TIED CARD OF 'reckonerlaw06.ParseTexts'. -/
def parseTextsCard : Claim7 := { stood := { row := parseTextsRow, standIns := [], harness := (true, "46d4b8cda27a39e4269dcc0455f8ab5d130346b920e92cd75e3001c748d3f4cc"), looks := true }, kinds := [], alts := [], laidByText := true, laidKinds := [.data, .data, .data, .sentinel, .sentinel, .listed, .data, .data], laidTests := true, laidLooks := .later }
def ParseTextsCardSaid : Prop := Claim7.holds Tryd.pinned (.plain (OpenSpec.ofChange parseTextsSpec)) parseTextsCard

/-- THE TIED CARD OF 'reckonerlaw06.ParseBlanks'. -/
def parseBlanksCard : Claim7 := { stood := { row := parseBlanksRow, standIns := [], harness := (true, "46d4b8cda27a39e4269dcc0455f8ab5d130346b920e92cd75e3001c748d3f4cc"), looks := true }, kinds := [], alts := [], laidByText := true, laidKinds := [.data, .data, .data, .sentinel, .sentinel, .listed, .data, .data], laidTests := true, laidLooks := .later }
def ParseBlanksCardSaid : Prop := Claim7.holds Tryd.pinned (.plain (OpenSpec.ofChange parseBlanksSpec)) parseBlanksCard

/-- THE TIED CARD OF 'reckonerlaw06.ParseAny'. -/
def parseAnyCard : Claim7 := { stood := { row := parseAnyRow, standIns := [], harness := (true, "46d4b8cda27a39e4269dcc0455f8ab5d130346b920e92cd75e3001c748d3f4cc"), looks := true }, kinds := [], alts := [], laidByText := true, laidKinds := [.data, .data, .data, .sentinel, .sentinel, .listed, .data, .data], laidTests := true, laidLooks := .later }
def ParseAnyCardSaid : Prop := Claim7.holds Tryd.pinned (.plain (OpenSpec.ofChange parseAnySpec)) parseAnyCard

/-- THE SECOND FORM's CARD OF 'reckonerlaw06.ParseBinds'. -/
def parseBindsUptoCard : Claim7 := { stood := { row := parseBindsUptoRow, standIns := [], harness := (true, "46d4b8cda27a39e4269dcc0455f8ab5d130346b920e92cd75e3001c748d3f4cc"), looks := true }, kinds := [], alts := [], laidByText := true, laidKinds := [.data, .data, .data, .sentinel, .sentinel, .listed, .data, .data], laidTests := true, laidLooks := .later }
def ParseBindsUptoCardSaid : Prop := Claim7.holds Tryd.pinned (.plain (OpenSpec.upto parseBindsSpec)) parseBindsUptoCard

/-- THE SECOND FORM's CARD OF 'reckonerlaw06.ParseSheets'. -/
def parseSheetsUptoCard : Claim7 := { stood := { row := parseSheetsUptoRow, standIns := [], harness := (true, "46d4b8cda27a39e4269dcc0455f8ab5d130346b920e92cd75e3001c748d3f4cc"), looks := true }, kinds := [], alts := [], laidByText := true, laidKinds := [.data, .data, .data, .sentinel, .sentinel, .listed, .data, .data], laidTests := true, laidLooks := .later }
def ParseSheetsUptoCardSaid : Prop := Claim7.holds Tryd.pinned (.plain (OpenSpec.upto parseSheetsSpec)) parseSheetsUptoCard

/-- THE SECOND FORM's CARD OF 'reckonerlaw06.ParseDeep'. -/
def parseDeepUptoCard : Claim7 := { stood := { row := parseDeepUptoRow, standIns := [], harness := (true, "46d4b8cda27a39e4269dcc0455f8ab5d130346b920e92cd75e3001c748d3f4cc"), looks := true }, kinds := [], alts := [], laidByText := true, laidKinds := [.data, .data, .data, .sentinel, .sentinel, .listed, .data, .data], laidTests := true, laidLooks := .later }
def ParseDeepUptoCardSaid : Prop := Claim7.holds Tryd.pinned (.plain (OpenSpec.upto parseDeepSpec)) parseDeepUptoCard

/-- THE SECOND FORM's CARD OF 'reckonerlaw06.ParseCalls'. -/
def parseCallsUptoCard : Claim7 := { stood := { row := parseCallsUptoRow, standIns := [], harness := (true, "46d4b8cda27a39e4269dcc0455f8ab5d130346b920e92cd75e3001c748d3f4cc"), looks := true }, kinds := [], alts := [], laidByText := true, laidKinds := [.data, .data, .data, .sentinel, .sentinel, .listed, .data, .data], laidTests := true, laidLooks := .later }
def ParseCallsUptoCardSaid : Prop := Claim7.holds Tryd.pinned (.plain (OpenSpec.upto parseCallsSpec)) parseCallsUptoCard

/-- THE SECOND FORM's CARD OF 'reckonerlaw06.ParseTexts'. -/
def parseTextsUptoCard : Claim7 := { stood := { row := parseTextsUptoRow, standIns := [], harness := (true, "46d4b8cda27a39e4269dcc0455f8ab5d130346b920e92cd75e3001c748d3f4cc"), looks := true }, kinds := [], alts := [], laidByText := true, laidKinds := [.data, .data, .data, .sentinel, .sentinel, .listed, .data, .data], laidTests := true, laidLooks := .later }
def ParseTextsUptoCardSaid : Prop := Claim7.holds Tryd.pinned (.plain (OpenSpec.upto parseTextsSpec)) parseTextsUptoCard

/-- THE SECOND FORM's CARD OF 'reckonerlaw06.ParseBlanks'. -/
def parseBlanksUptoCard : Claim7 := { stood := { row := parseBlanksUptoRow, standIns := [], harness := (true, "46d4b8cda27a39e4269dcc0455f8ab5d130346b920e92cd75e3001c748d3f4cc"), looks := true }, kinds := [], alts := [], laidByText := true, laidKinds := [.data, .data, .data, .sentinel, .sentinel, .listed, .data, .data], laidTests := true, laidLooks := .later }
def ParseBlanksUptoCardSaid : Prop := Claim7.holds Tryd.pinned (.plain (OpenSpec.upto parseBlanksSpec)) parseBlanksUptoCard

/-- THE SECOND FORM's CARD OF 'reckonerlaw06.ParseAny'. -/
def parseAnyUptoCard : Claim7 := { stood := { row := parseAnyUptoRow, standIns := [], harness := (true, "46d4b8cda27a39e4269dcc0455f8ab5d130346b920e92cd75e3001c748d3f4cc"), looks := true }, kinds := [], alts := [], laidByText := true, laidKinds := [.data, .data, .data, .sentinel, .sentinel, .listed, .data, .data], laidTests := true, laidLooks := .later }
def ParseAnyUptoCardSaid : Prop := Claim7.holds Tryd.pinned (.plain (OpenSpec.upto parseAnySpec)) parseAnyUptoCard
end Rows
end Go.Proofs.YtffogjhjgmohiaaDoor
