/-
  DERIVED. GIVEN WITH THE SEED: THE CARDS: each row of YtdfgobnmcngkmaaDoorRows.lean that lists a variable, with what it lists TIED to the program's text (the seventh form; the later family's looks); each row that meets fmt, with fmt's text TOLD by the authors' own Lean function (tested against real Go, not proved from fmt's source: count such statements apart). THE CARD IS WHAT COUNTS. Prove the row's statement (the work); the ties are given (YtdfgobnmcngkmaaDoorTie.lean); close each card by the builder's one call (the guide's Derived/Test/ToyasCard.lean, 'card_holds'). Laid BY PROGRAM, IN A SANDBOX (cutbox-door.mjs). By AI agents, Wed Nov 11 2026. No macro, syntax, notation, axiom, sorry.
-/
import Derived.Test.YtdfgobnmcngkmaaDoorRows
import GoSem.ClaimSeven
namespace Go.Proofs.YtdfgobnmcngkmaaDoor
namespace Rows

/-- THE TIED CARD OF 'reckonerlaw08.ShiftApart'. -/
def shiftApartCard : Claim7 := { stood := { row := shiftApartRow, standIns := [], harness := (true, "572edc5e797e3398bc803894bca8807f8ee2407d30e1d5b456ba6b23ec60f68a"), looks := true }, kinds := [], alts := [], laidByText := true, laidKinds := [.listed, .data], laidTests := true, laidLooks := .later }
def ShiftApartCardSaid : Prop := Claim7.holds Tryd.pinned (.plain (OpenSpec.ofChange shiftApartSpec)) shiftApartCard

/-- THE TIED CARD OF 'reckonerlaw08.ShiftFormulas'. -/
def shiftFormulasCard : Claim7 := { stood := { row := shiftFormulasRow, standIns := [], harness := (true, "572edc5e797e3398bc803894bca8807f8ee2407d30e1d5b456ba6b23ec60f68a"), looks := true }, kinds := [], alts := [], laidByText := true, laidKinds := [.data, .data, .data, .sentinel, .sentinel, .listed, .data], laidTests := true, laidLooks := .later }
def ShiftFormulasCardSaid : Prop := Claim7.holds Tryd.pinned (.plain (OpenSpec.ofChange shiftFormulasSpec)) shiftFormulasCard

/-- THE TIED CARD OF 'reckonerlaw08.ShiftCopies'. -/
def shiftCopiesCard : Claim7 := { stood := { row := shiftCopiesRow, standIns := [], harness := (true, "572edc5e797e3398bc803894bca8807f8ee2407d30e1d5b456ba6b23ec60f68a"), looks := true }, kinds := [], alts := [], laidByText := true, laidKinds := [.data, .data, .data, .sentinel, .sentinel, .listed, .data], laidTests := true, laidLooks := .later }
def ShiftCopiesCardSaid : Prop := Claim7.holds Tryd.pinned (.plain (OpenSpec.ofChange shiftCopiesSpec)) shiftCopiesCard

/-- THE TIED CARD OF 'reckonerlaw08.ShiftSeen'. -/
def shiftSeenCard : Claim7 := { stood := { row := shiftSeenRow, standIns := [], harness := (true, "572edc5e797e3398bc803894bca8807f8ee2407d30e1d5b456ba6b23ec60f68a"), looks := true }, kinds := [], alts := [], laidByText := true, laidKinds := [.data, .data, .data, .sentinel, .sentinel, .listed, .data], laidTests := true, laidLooks := .later }
def ShiftSeenCardSaid : Prop := Claim7.holds Tryd.pinned (.plain (OpenSpec.ofChange shiftSeenSpec)) shiftSeenCard

/-- THE SECOND FORM's CARD OF 'reckonerlaw08.ShiftApart'. -/
def shiftApartUptoCard : Claim7 := { stood := { row := shiftApartUptoRow, standIns := [], harness := (true, "572edc5e797e3398bc803894bca8807f8ee2407d30e1d5b456ba6b23ec60f68a"), looks := true }, kinds := [], alts := [], laidByText := true, laidKinds := [.listed, .data], laidTests := true, laidLooks := .later }
def ShiftApartUptoCardSaid : Prop := Claim7.holds Tryd.pinned (.plain (OpenSpec.upto shiftApartSpec)) shiftApartUptoCard

/-- THE SECOND FORM's CARD OF 'reckonerlaw08.ShiftFormulas'. -/
def shiftFormulasUptoCard : Claim7 := { stood := { row := shiftFormulasUptoRow, standIns := [], harness := (true, "572edc5e797e3398bc803894bca8807f8ee2407d30e1d5b456ba6b23ec60f68a"), looks := true }, kinds := [], alts := [], laidByText := true, laidKinds := [.data, .data, .data, .sentinel, .sentinel, .listed, .data], laidTests := true, laidLooks := .later }
def ShiftFormulasUptoCardSaid : Prop := Claim7.holds Tryd.pinned (.plain (OpenSpec.upto shiftFormulasSpec)) shiftFormulasUptoCard

/-- THE SECOND FORM's CARD OF 'reckonerlaw08.ShiftCopies'. -/
def shiftCopiesUptoCard : Claim7 := { stood := { row := shiftCopiesUptoRow, standIns := [], harness := (true, "572edc5e797e3398bc803894bca8807f8ee2407d30e1d5b456ba6b23ec60f68a"), looks := true }, kinds := [], alts := [], laidByText := true, laidKinds := [.data, .data, .data, .sentinel, .sentinel, .listed, .data], laidTests := true, laidLooks := .later }
def ShiftCopiesUptoCardSaid : Prop := Claim7.holds Tryd.pinned (.plain (OpenSpec.upto shiftCopiesSpec)) shiftCopiesUptoCard

/-- THE SECOND FORM's CARD OF 'reckonerlaw08.ShiftSeen'. -/
def shiftSeenUptoCard : Claim7 := { stood := { row := shiftSeenUptoRow, standIns := [], harness := (true, "572edc5e797e3398bc803894bca8807f8ee2407d30e1d5b456ba6b23ec60f68a"), looks := true }, kinds := [], alts := [], laidByText := true, laidKinds := [.data, .data, .data, .sentinel, .sentinel, .listed, .data], laidTests := true, laidLooks := .later }
def ShiftSeenUptoCardSaid : Prop := Claim7.holds Tryd.pinned (.plain (OpenSpec.upto shiftSeenSpec)) shiftSeenUptoCard
end Rows
end Go.Proofs.YtdfgobnmcngkmaaDoor
