/-
  DERIVED. GIVEN WITH THE SEED: THE CARDS: each row of YtmdlahkmnjmanaaDoorRows.lean that lists a variable, with what it lists TIED to the program's text (the seventh form; the later family's looks); each row that meets fmt, with fmt's text TOLD by the authors' own Lean function (tested against real Go, not proved from fmt's source: count such statements apart). THE CARD IS WHAT COUNTS. Prove the row's statement (the work); the ties are given (YtmdlahkmnjmanaaDoorTie.lean); close each card by the builder's one call (the guide's Derived/Test/ToyasCard.lean, 'card_holds'). Laid BY PROGRAM, IN A SANDBOX (cutbox-door.mjs). By AI agents, Wed Nov 11 2026. No macro, syntax, notation, axiom, sorry.
-/
import Derived.Test.YtmdlahkmnjmanaaDoorRows
import GoSem.ClaimSeven
namespace Go.Proofs.YtmdlahkmnjmanaaDoor
namespace Rows

/-- THE TIED CARD OF 'reckonerlaw10.TextsParts'. -/
def textsPartsCard : Claim7 := { stood := { row := textsPartsRow, standIns := [], harness := (true, "b3b218a9fa035aa7efd972fa59da98c862da058c766c18768030305b1b4bb840"), looks := false }, kinds := [], alts := [], laidByText := true, laidKinds := [.listed, .data], laidTests := true, laidLooks := .later }
def TextsPartsCardSaid : Prop := Claim7.holds Tryd.pinned (.plain (OpenSpec.ofChange textsPartsSpec)) textsPartsCard

/-- THE TIED CARD OF 'reckonerlaw10.TextsRepeats'. -/
def textsRepeatsCard : Claim7 := { stood := { row := textsRepeatsRow, standIns := [], harness := (true, "b3b218a9fa035aa7efd972fa59da98c862da058c766c18768030305b1b4bb840"), looks := false }, kinds := [], alts := [], laidByText := true, laidKinds := [.listed, .data], laidTests := true, laidLooks := .later }
def TextsRepeatsCardSaid : Prop := Claim7.holds Tryd.pinned (.plain (OpenSpec.ofChange textsRepeatsSpec)) textsRepeatsCard

/-- THE TIED CARD OF 'reckonerlaw10.TextsTurns'. -/
def textsTurnsCard : Claim7 := { stood := { row := textsTurnsRow, standIns := [], harness := (true, "b3b218a9fa035aa7efd972fa59da98c862da058c766c18768030305b1b4bb840"), looks := false }, kinds := [], alts := [], laidByText := true, laidKinds := [.listed, .data], laidTests := true, laidLooks := .later }
def TextsTurnsCardSaid : Prop := Claim7.holds Tryd.pinned (.plain (OpenSpec.ofChange textsTurnsSpec)) textsTurnsCard

/-- THE TIED CARD OF 'reckonerlaw10.TextsAgain'. -/
def textsAgainCard : Claim7 := { stood := { row := textsAgainRow, standIns := [], harness := (true, "b3b218a9fa035aa7efd972fa59da98c862da058c766c18768030305b1b4bb840"), looks := false }, kinds := [], alts := [], laidByText := true, laidKinds := [.listed, .data], laidTests := true, laidLooks := .later }
def TextsAgainCardSaid : Prop := Claim7.holds Tryd.pinned (.plain (OpenSpec.ofChange textsAgainSpec)) textsAgainCard

/-- THE TIED CARD OF 'reckonerlaw10.TextsHalves'. -/
def textsHalvesCard : Claim7 := { stood := { row := textsHalvesRow, standIns := [], harness := (true, "b3b218a9fa035aa7efd972fa59da98c862da058c766c18768030305b1b4bb840"), looks := false }, kinds := [], alts := [], laidByText := true, laidKinds := [.data, .listed, .data, .pinned], laidTests := true, laidLooks := .later }
def TextsHalvesCardSaid : Prop := Claim7.holds Tryd.pinned (.plain (OpenSpec.ofChange textsHalvesSpec)) textsHalvesCard

/-- THE SECOND FORM's CARD OF 'reckonerlaw10.TextsParts'. -/
def textsPartsUptoCard : Claim7 := { stood := { row := textsPartsUptoRow, standIns := [], harness := (true, "b3b218a9fa035aa7efd972fa59da98c862da058c766c18768030305b1b4bb840"), looks := false }, kinds := [], alts := [], laidByText := true, laidKinds := [.listed, .data], laidTests := true, laidLooks := .later }
def TextsPartsUptoCardSaid : Prop := Claim7.holds Tryd.pinned (.plain (OpenSpec.upto textsPartsSpec)) textsPartsUptoCard

/-- THE SECOND FORM's CARD OF 'reckonerlaw10.TextsRepeats'. -/
def textsRepeatsUptoCard : Claim7 := { stood := { row := textsRepeatsUptoRow, standIns := [], harness := (true, "b3b218a9fa035aa7efd972fa59da98c862da058c766c18768030305b1b4bb840"), looks := false }, kinds := [], alts := [], laidByText := true, laidKinds := [.listed, .data], laidTests := true, laidLooks := .later }
def TextsRepeatsUptoCardSaid : Prop := Claim7.holds Tryd.pinned (.plain (OpenSpec.upto textsRepeatsSpec)) textsRepeatsUptoCard

/-- THE SECOND FORM's CARD OF 'reckonerlaw10.TextsTurns'. -/
def textsTurnsUptoCard : Claim7 := { stood := { row := textsTurnsUptoRow, standIns := [], harness := (true, "b3b218a9fa035aa7efd972fa59da98c862da058c766c18768030305b1b4bb840"), looks := false }, kinds := [], alts := [], laidByText := true, laidKinds := [.listed, .data], laidTests := true, laidLooks := .later }
def TextsTurnsUptoCardSaid : Prop := Claim7.holds Tryd.pinned (.plain (OpenSpec.upto textsTurnsSpec)) textsTurnsUptoCard

/-- THE SECOND FORM's CARD OF 'reckonerlaw10.TextsAgain'. -/
def textsAgainUptoCard : Claim7 := { stood := { row := textsAgainUptoRow, standIns := [], harness := (true, "b3b218a9fa035aa7efd972fa59da98c862da058c766c18768030305b1b4bb840"), looks := false }, kinds := [], alts := [], laidByText := true, laidKinds := [.listed, .data], laidTests := true, laidLooks := .later }
def TextsAgainUptoCardSaid : Prop := Claim7.holds Tryd.pinned (.plain (OpenSpec.upto textsAgainSpec)) textsAgainUptoCard

/-- THE SECOND FORM's CARD OF 'reckonerlaw10.TextsHalves'. -/
def textsHalvesUptoCard : Claim7 := { stood := { row := textsHalvesUptoRow, standIns := [], harness := (true, "b3b218a9fa035aa7efd972fa59da98c862da058c766c18768030305b1b4bb840"), looks := false }, kinds := [], alts := [], laidByText := true, laidKinds := [.data, .listed, .data, .pinned], laidTests := true, laidLooks := .later }
def TextsHalvesUptoCardSaid : Prop := Claim7.holds Tryd.pinned (.plain (OpenSpec.upto textsHalvesSpec)) textsHalvesUptoCard
end Rows
end Go.Proofs.YtmdlahkmnjmanaaDoor
