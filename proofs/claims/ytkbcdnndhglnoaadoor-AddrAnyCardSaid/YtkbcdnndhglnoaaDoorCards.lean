/-
  DERIVED. GIVEN WITH THE SEED: THE CARDS: each row of YtkbcdnndhglnoaaDoorRows.lean that lists a variable, with what it lists TIED to the program's text (the seventh form; the later family's looks); each row that meets fmt, with fmt's text TOLD by the authors' own Lean function (tested against real Go, not proved from fmt's source: count such statements apart). THE CARD IS WHAT COUNTS. Prove the row's statement (the work); the ties are given (YtkbcdnndhglnoaaDoorTie.lean); close each card by the builder's one call (the guide's Derived/Test/ToyasCard.lean, 'card_holds'). Laid BY PROGRAM, IN A SANDBOX (cutbox-door.mjs). By AI agents, Wed Nov 11 2026. No macro, syntax, notation, axiom, sorry.
-/
import Derived.Test.YtkbcdnndhglnoaaDoorRows
import GoSem.ClaimSeven
namespace Go.Proofs.YtkbcdnndhglnoaaDoor
namespace Rows

/-- THE TIED CARD OF 'reckonerlaw03.AddrOrder'. -/
def addrOrderCard : Claim7 := { stood := { row := addrOrderRow, standIns := [], harness := (true, "fcfffb6a91bb9d0fe2da48c042d4b9d11f90a4d999bee18049baa14fe056ba69"), looks := true }, kinds := [], alts := [], laidByText := true, laidKinds := [.data, .data, .data, .sentinel, .sentinel], laidTests := true, laidLooks := .later }
def AddrOrderCardSaid : Prop := Claim7.holds Tryd.pinned (.plain (OpenSpec.ofChange addrOrderSpec)) addrOrderCard

/-- THE TIED CARD OF 'reckonerlaw03.AddrAny'. -/
def addrAnyCard : Claim7 := { stood := { row := addrAnyRow, standIns := [], harness := (true, "fcfffb6a91bb9d0fe2da48c042d4b9d11f90a4d999bee18049baa14fe056ba69"), looks := true }, kinds := [], alts := [], laidByText := true, laidKinds := [.data, .data, .data, .sentinel, .sentinel], laidTests := true, laidLooks := .later }
def AddrAnyCardSaid : Prop := Claim7.holds Tryd.pinned (.plain (OpenSpec.ofChange addrAnySpec)) addrAnyCard

/-- THE TIED CARD OF 'reckonerlaw03.AddrBack'. -/
def addrBackCard : Claim7 := { stood := { row := addrBackRow, standIns := [], harness := (true, "fcfffb6a91bb9d0fe2da48c042d4b9d11f90a4d999bee18049baa14fe056ba69"), looks := true }, kinds := [], alts := [], laidByText := true, laidKinds := [.data, .data, .data, .sentinel, .sentinel], laidTests := true, laidLooks := .later }
def AddrBackCardSaid : Prop := Claim7.holds Tryd.pinned (.plain (OpenSpec.ofChange addrBackSpec)) addrBackCard

/-- THE TIED CARD OF 'reckonerlaw03.AddrSames'. -/
def addrSamesCard : Claim7 := { stood := { row := addrSamesRow, standIns := [], harness := (true, "fcfffb6a91bb9d0fe2da48c042d4b9d11f90a4d999bee18049baa14fe056ba69"), looks := true }, kinds := [], alts := [], laidByText := true, laidKinds := [.data, .data, .data, .sentinel, .sentinel], laidTests := true, laidLooks := .later }
def AddrSamesCardSaid : Prop := Claim7.holds Tryd.pinned (.plain (OpenSpec.ofChange addrSamesSpec)) addrSamesCard

/-- THE TIED CARD OF 'reckonerlaw03.AddrTurned'. -/
def addrTurnedCard : Claim7 := { stood := { row := addrTurnedRow, standIns := [], harness := (true, "fcfffb6a91bb9d0fe2da48c042d4b9d11f90a4d999bee18049baa14fe056ba69"), looks := true }, kinds := [], alts := [], laidByText := true, laidKinds := [.data, .data, .data, .sentinel, .sentinel], laidTests := true, laidLooks := .later }
def AddrTurnedCardSaid : Prop := Claim7.holds Tryd.pinned (.plain (OpenSpec.ofChange addrTurnedSpec)) addrTurnedCard

/-- THE TIED CARD OF 'reckonerlaw03.AddrAreas'. -/
def addrAreasCard : Claim7 := { stood := { row := addrAreasRow, standIns := [], harness := (true, "fcfffb6a91bb9d0fe2da48c042d4b9d11f90a4d999bee18049baa14fe056ba69"), looks := true }, kinds := [], alts := [], laidByText := true, laidKinds := [.data, .data, .data, .sentinel, .sentinel], laidTests := true, laidLooks := .later }
def AddrAreasCardSaid : Prop := Claim7.holds Tryd.pinned (.plain (OpenSpec.ofChange addrAreasSpec)) addrAreasCard

/-- THE SECOND FORM's CARD OF 'reckonerlaw03.AddrOrder'. -/
def addrOrderUptoCard : Claim7 := { stood := { row := addrOrderUptoRow, standIns := [], harness := (true, "fcfffb6a91bb9d0fe2da48c042d4b9d11f90a4d999bee18049baa14fe056ba69"), looks := true }, kinds := [], alts := [], laidByText := true, laidKinds := [.data, .data, .data, .sentinel, .sentinel], laidTests := true, laidLooks := .later }
def AddrOrderUptoCardSaid : Prop := Claim7.holds Tryd.pinned (.plain (OpenSpec.upto addrOrderSpec)) addrOrderUptoCard

/-- THE SECOND FORM's CARD OF 'reckonerlaw03.AddrAny'. -/
def addrAnyUptoCard : Claim7 := { stood := { row := addrAnyUptoRow, standIns := [], harness := (true, "fcfffb6a91bb9d0fe2da48c042d4b9d11f90a4d999bee18049baa14fe056ba69"), looks := true }, kinds := [], alts := [], laidByText := true, laidKinds := [.data, .data, .data, .sentinel, .sentinel], laidTests := true, laidLooks := .later }
def AddrAnyUptoCardSaid : Prop := Claim7.holds Tryd.pinned (.plain (OpenSpec.upto addrAnySpec)) addrAnyUptoCard

/-- THE SECOND FORM's CARD OF 'reckonerlaw03.AddrBack'. -/
def addrBackUptoCard : Claim7 := { stood := { row := addrBackUptoRow, standIns := [], harness := (true, "fcfffb6a91bb9d0fe2da48c042d4b9d11f90a4d999bee18049baa14fe056ba69"), looks := true }, kinds := [], alts := [], laidByText := true, laidKinds := [.data, .data, .data, .sentinel, .sentinel], laidTests := true, laidLooks := .later }
def AddrBackUptoCardSaid : Prop := Claim7.holds Tryd.pinned (.plain (OpenSpec.upto addrBackSpec)) addrBackUptoCard

/-- THE SECOND FORM's CARD OF 'reckonerlaw03.AddrSames'. -/
def addrSamesUptoCard : Claim7 := { stood := { row := addrSamesUptoRow, standIns := [], harness := (true, "fcfffb6a91bb9d0fe2da48c042d4b9d11f90a4d999bee18049baa14fe056ba69"), looks := true }, kinds := [], alts := [], laidByText := true, laidKinds := [.data, .data, .data, .sentinel, .sentinel], laidTests := true, laidLooks := .later }
def AddrSamesUptoCardSaid : Prop := Claim7.holds Tryd.pinned (.plain (OpenSpec.upto addrSamesSpec)) addrSamesUptoCard

/-- THE SECOND FORM's CARD OF 'reckonerlaw03.AddrTurned'. -/
def addrTurnedUptoCard : Claim7 := { stood := { row := addrTurnedUptoRow, standIns := [], harness := (true, "fcfffb6a91bb9d0fe2da48c042d4b9d11f90a4d999bee18049baa14fe056ba69"), looks := true }, kinds := [], alts := [], laidByText := true, laidKinds := [.data, .data, .data, .sentinel, .sentinel], laidTests := true, laidLooks := .later }
def AddrTurnedUptoCardSaid : Prop := Claim7.holds Tryd.pinned (.plain (OpenSpec.upto addrTurnedSpec)) addrTurnedUptoCard

/-- THE SECOND FORM's CARD OF 'reckonerlaw03.AddrAreas'. -/
def addrAreasUptoCard : Claim7 := { stood := { row := addrAreasUptoRow, standIns := [], harness := (true, "fcfffb6a91bb9d0fe2da48c042d4b9d11f90a4d999bee18049baa14fe056ba69"), looks := true }, kinds := [], alts := [], laidByText := true, laidKinds := [.data, .data, .data, .sentinel, .sentinel], laidTests := true, laidLooks := .later }
def AddrAreasUptoCardSaid : Prop := Claim7.holds Tryd.pinned (.plain (OpenSpec.upto addrAreasSpec)) addrAreasUptoCard
end Rows
end Go.Proofs.YtkbcdnndhglnoaaDoor
