/-
  DERIVED. GIVEN WITH THE SEED: THE CARDS: each row of YtbnebiobahajjaaGreatDoorRows.lean that lists a variable, with what it lists TIED to the program's text (the seventh form; the later family's looks); each row that meets fmt, with fmt's text TOLD by the authors' own Lean function (tested against real Go, not proved from fmt's source: count such statements apart). THE CARD IS WHAT COUNTS. Prove the row's statement (the work); the ties are given (YtbnebiobahajjaaGreatDoorTie.lean); close each card by the builder's one call (the guide's Derived/Test/ToyasCard.lean, 'card_holds'). Laid BY PROGRAM, IN A SANDBOX (cutbox-door.mjs). By AI agents, Wed Nov 11 2026. No macro, syntax, notation, axiom, sorry.
-/
import Derived.Test.YtbnebiobahajjaaGreatDoorRows
import GoSem.ClaimSeven
namespace Go.Proofs.YtbnebiobahajjaaGreatDoor
namespace Rows

/-- THE TIED CARD OF 'reckonerlaw07.ShowBack'. -/
def showBackCard : Claim7 := { stood := { row := showBackRow, standIns := [], harness := (true, "d0dfbd00b2735c6ac1a06e3674535303113f93cb7edc00a9e5223568a8654bc3"), looks := true }, kinds := [], alts := [], laidByText := true, laidKinds := [.data, .data, .data, .data, .sentinel, .sentinel, .listed, .data, .data, .pinned], laidTests := true, laidLooks := .later }
def ShowBackCardSaid : Prop := Claim7.holds Tryz.pinned (.plain (OpenSpec.ofChange showBackSpec)) showBackCard

/-- THE TIED CARD OF 'reckonerlaw07.ShowAgain'. -/
def showAgainCard : Claim7 := { stood := { row := showAgainRow, standIns := [], harness := (true, "d0dfbd00b2735c6ac1a06e3674535303113f93cb7edc00a9e5223568a8654bc3"), looks := true }, kinds := [], alts := [], laidByText := true, laidKinds := [.data, .data, .data, .data, .sentinel, .sentinel, .listed, .data, .data, .pinned], laidTests := true, laidLooks := .later }
def ShowAgainCardSaid : Prop := Claim7.holds Tryz.pinned (.plain (OpenSpec.ofChange showAgainSpec)) showAgainCard

/-- THE TIED CARD OF 'reckonerlaw07.ShowSheets'. -/
def showSheetsCard : Claim7 := { stood := { row := showSheetsRow, standIns := [], harness := (true, "d0dfbd00b2735c6ac1a06e3674535303113f93cb7edc00a9e5223568a8654bc3"), looks := true }, kinds := [], alts := [], laidByText := true, laidKinds := [.data, .data, .data, .data, .sentinel, .sentinel, .listed, .data, .data, .pinned], laidTests := true, laidLooks := .later }
def ShowSheetsCardSaid : Prop := Claim7.holds Tryz.pinned (.plain (OpenSpec.ofChange showSheetsSpec)) showSheetsCard

/-- THE TIED CARD OF 'reckonerlaw07.ShowLeaves'. -/
def showLeavesCard : Claim7 := { stood := { row := showLeavesRow, standIns := [], harness := (true, "d0dfbd00b2735c6ac1a06e3674535303113f93cb7edc00a9e5223568a8654bc3"), looks := true }, kinds := [], alts := [], laidByText := true, laidKinds := [.data, .data, .data, .data, .sentinel, .sentinel, .listed, .data, .data, .pinned], laidTests := true, laidLooks := .later }
def ShowLeavesCardSaid : Prop := Claim7.holds Tryz.pinned (.plain (OpenSpec.ofChange showLeavesSpec)) showLeavesCard

/-- THE SECOND FORM's CARD OF 'reckonerlaw07.ShowBack'. -/
def showBackUptoCard : Claim7 := { stood := { row := showBackUptoRow, standIns := [], harness := (true, "d0dfbd00b2735c6ac1a06e3674535303113f93cb7edc00a9e5223568a8654bc3"), looks := true }, kinds := [], alts := [], laidByText := true, laidKinds := [.data, .data, .data, .data, .sentinel, .sentinel, .listed, .data, .data, .pinned], laidTests := true, laidLooks := .later }
def ShowBackUptoCardSaid : Prop := Claim7.holds Tryz.pinned (.plain (OpenSpec.upto showBackSpec)) showBackUptoCard

/-- THE SECOND FORM's CARD OF 'reckonerlaw07.ShowAgain'. -/
def showAgainUptoCard : Claim7 := { stood := { row := showAgainUptoRow, standIns := [], harness := (true, "d0dfbd00b2735c6ac1a06e3674535303113f93cb7edc00a9e5223568a8654bc3"), looks := true }, kinds := [], alts := [], laidByText := true, laidKinds := [.data, .data, .data, .data, .sentinel, .sentinel, .listed, .data, .data, .pinned], laidTests := true, laidLooks := .later }
def ShowAgainUptoCardSaid : Prop := Claim7.holds Tryz.pinned (.plain (OpenSpec.upto showAgainSpec)) showAgainUptoCard

/-- THE SECOND FORM's CARD OF 'reckonerlaw07.ShowSheets'. -/
def showSheetsUptoCard : Claim7 := { stood := { row := showSheetsUptoRow, standIns := [], harness := (true, "d0dfbd00b2735c6ac1a06e3674535303113f93cb7edc00a9e5223568a8654bc3"), looks := true }, kinds := [], alts := [], laidByText := true, laidKinds := [.data, .data, .data, .data, .sentinel, .sentinel, .listed, .data, .data, .pinned], laidTests := true, laidLooks := .later }
def ShowSheetsUptoCardSaid : Prop := Claim7.holds Tryz.pinned (.plain (OpenSpec.upto showSheetsSpec)) showSheetsUptoCard

/-- THE SECOND FORM's CARD OF 'reckonerlaw07.ShowLeaves'. -/
def showLeavesUptoCard : Claim7 := { stood := { row := showLeavesUptoRow, standIns := [], harness := (true, "d0dfbd00b2735c6ac1a06e3674535303113f93cb7edc00a9e5223568a8654bc3"), looks := true }, kinds := [], alts := [], laidByText := true, laidKinds := [.data, .data, .data, .data, .sentinel, .sentinel, .listed, .data, .data, .pinned], laidTests := true, laidLooks := .later }
def ShowLeavesUptoCardSaid : Prop := Claim7.holds Tryz.pinned (.plain (OpenSpec.upto showLeavesSpec)) showLeavesUptoCard
end Rows
end Go.Proofs.YtbnebiobahajjaaGreatDoor
