/-
  DERIVED. GIVEN WITH THE SEED: THE CARDS: each row of YtmbjomeiiihofaaDoorRows.lean that lists a variable, with what it lists TIED to the program's text (the seventh form; the later family's looks); each row that meets fmt, with fmt's text TOLD by the authors' own Lean function (tested against real Go, not proved from fmt's source: count such statements apart). THE CARD IS WHAT COUNTS. Prove the row's statement (the work); the ties are given (YtmbjomeiiihofaaDoorTie.lean); close each card by the builder's one call (the guide's Derived/Test/ToyasCard.lean, 'card_holds'). Laid BY PROGRAM, IN A SANDBOX (cutbox-door.mjs). By AI agents, Wed Nov 11 2026. No macro, syntax, notation, axiom, sorry.
-/
import Derived.Test.YtmbjomeiiihofaaDoorRows
import GoSem.ClaimSeven
namespace Go.Proofs.YtmbjomeiiihofaaDoor
namespace Rows

/-- THE TIED CARD OF 'reckonerlaw05.TreeNames'. -/
def treeNamesCard : Claim7 := { stood := { row := treeNamesRow, standIns := [], harness := (true, "60d0d4d8a13dd4ab1c37b319a636e1d652611346e6885c5417052a2bab654ee8"), looks := true }, kinds := [], alts := [], laidByText := true, laidKinds := [.data, .data, .data, .sentinel, .sentinel, .listed, .data], laidTests := true, laidLooks := .later }
def TreeNamesCardSaid : Prop := Claim7.holds Tryd.pinned (.plain (OpenSpec.ofChange treeNamesSpec)) treeNamesCard

/-- THE TIED CARD OF 'reckonerlaw05.TreeWrong'. -/
def treeWrongCard : Claim7 := { stood := { row := treeWrongRow, standIns := [], harness := (true, "60d0d4d8a13dd4ab1c37b319a636e1d652611346e6885c5417052a2bab654ee8"), looks := true }, kinds := [], alts := [], laidByText := true, laidKinds := [.data, .data, .data, .sentinel, .sentinel, .listed, .data], laidTests := true, laidLooks := .later }
def TreeWrongCardSaid : Prop := Claim7.holds Tryd.pinned (.plain (OpenSpec.ofChange treeWrongSpec)) treeWrongCard

/-- THE TIED CARD OF 'reckonerlaw05.TreeSames'. -/
def treeSamesCard : Claim7 := { stood := { row := treeSamesRow, standIns := [], harness := (true, "60d0d4d8a13dd4ab1c37b319a636e1d652611346e6885c5417052a2bab654ee8"), looks := true }, kinds := [], alts := [], laidByText := true, laidKinds := [.data, .data, .data, .sentinel, .sentinel, .listed, .data], laidTests := true, laidLooks := .later }
def TreeSamesCardSaid : Prop := Claim7.holds Tryd.pinned (.plain (OpenSpec.ofChange treeSamesSpec)) treeSamesCard

/-- THE TIED CARD OF 'reckonerlaw05.TreeMaps'. -/
def treeMapsCard : Claim7 := { stood := { row := treeMapsRow, standIns := [], harness := (true, "60d0d4d8a13dd4ab1c37b319a636e1d652611346e6885c5417052a2bab654ee8"), looks := true }, kinds := [], alts := [], laidByText := true, laidKinds := [.data, .data, .data, .sentinel, .sentinel, .listed, .data], laidTests := true, laidLooks := .later }
def TreeMapsCardSaid : Prop := Claim7.holds Tryd.pinned (.plain (OpenSpec.ofChange treeMapsSpec)) treeMapsCard

/-- THE TIED CARD OF 'reckonerlaw05.TreeSeeds'. -/
def treeSeedsCard : Claim7 := { stood := { row := treeSeedsRow, standIns := [], harness := (true, "60d0d4d8a13dd4ab1c37b319a636e1d652611346e6885c5417052a2bab654ee8"), looks := true }, kinds := [], alts := [], laidByText := true, laidKinds := [.data, .data, .data, .sentinel, .sentinel, .listed, .data], laidTests := true, laidLooks := .later }
def TreeSeedsCardSaid : Prop := Claim7.holds Tryd.pinned (.plain (OpenSpec.ofChange treeSeedsSpec)) treeSeedsCard

/-- THE SECOND FORM's CARD OF 'reckonerlaw05.TreeNames'. -/
def treeNamesUptoCard : Claim7 := { stood := { row := treeNamesUptoRow, standIns := [], harness := (true, "60d0d4d8a13dd4ab1c37b319a636e1d652611346e6885c5417052a2bab654ee8"), looks := true }, kinds := [], alts := [], laidByText := true, laidKinds := [.data, .data, .data, .sentinel, .sentinel, .listed, .data], laidTests := true, laidLooks := .later }
def TreeNamesUptoCardSaid : Prop := Claim7.holds Tryd.pinned (.plain (OpenSpec.upto treeNamesSpec)) treeNamesUptoCard

/-- THE SECOND FORM's CARD OF 'reckonerlaw05.TreeWrong'. -/
def treeWrongUptoCard : Claim7 := { stood := { row := treeWrongUptoRow, standIns := [], harness := (true, "60d0d4d8a13dd4ab1c37b319a636e1d652611346e6885c5417052a2bab654ee8"), looks := true }, kinds := [], alts := [], laidByText := true, laidKinds := [.data, .data, .data, .sentinel, .sentinel, .listed, .data], laidTests := true, laidLooks := .later }
def TreeWrongUptoCardSaid : Prop := Claim7.holds Tryd.pinned (.plain (OpenSpec.upto treeWrongSpec)) treeWrongUptoCard

/-- THE SECOND FORM's CARD OF 'reckonerlaw05.TreeSames'. -/
def treeSamesUptoCard : Claim7 := { stood := { row := treeSamesUptoRow, standIns := [], harness := (true, "60d0d4d8a13dd4ab1c37b319a636e1d652611346e6885c5417052a2bab654ee8"), looks := true }, kinds := [], alts := [], laidByText := true, laidKinds := [.data, .data, .data, .sentinel, .sentinel, .listed, .data], laidTests := true, laidLooks := .later }
def TreeSamesUptoCardSaid : Prop := Claim7.holds Tryd.pinned (.plain (OpenSpec.upto treeSamesSpec)) treeSamesUptoCard

/-- THE SECOND FORM's CARD OF 'reckonerlaw05.TreeMaps'. -/
def treeMapsUptoCard : Claim7 := { stood := { row := treeMapsUptoRow, standIns := [], harness := (true, "60d0d4d8a13dd4ab1c37b319a636e1d652611346e6885c5417052a2bab654ee8"), looks := true }, kinds := [], alts := [], laidByText := true, laidKinds := [.data, .data, .data, .sentinel, .sentinel, .listed, .data], laidTests := true, laidLooks := .later }
def TreeMapsUptoCardSaid : Prop := Claim7.holds Tryd.pinned (.plain (OpenSpec.upto treeMapsSpec)) treeMapsUptoCard

/-- THE SECOND FORM's CARD OF 'reckonerlaw05.TreeSeeds'. -/
def treeSeedsUptoCard : Claim7 := { stood := { row := treeSeedsUptoRow, standIns := [], harness := (true, "60d0d4d8a13dd4ab1c37b319a636e1d652611346e6885c5417052a2bab654ee8"), looks := true }, kinds := [], alts := [], laidByText := true, laidKinds := [.data, .data, .data, .sentinel, .sentinel, .listed, .data], laidTests := true, laidLooks := .later }
def TreeSeedsUptoCardSaid : Prop := Claim7.holds Tryd.pinned (.plain (OpenSpec.upto treeSeedsSpec)) treeSeedsUptoCard
end Rows
end Go.Proofs.YtmbjomeiiihofaaDoor
