/-
  DERIVED. GIVEN WITH THE SEED: THE CARDS: each row of YtkkfgobdkbcdhaaDoorRows.lean that lists a variable, with what it lists TIED to the program's text (the seventh form; the later family's looks); each row that meets fmt, with fmt's text TOLD by the authors' own Lean function (tested against real Go, not proved from fmt's source: count such statements apart). THE CARD IS WHAT COUNTS. Prove the row's statement (the work); the ties are given (YtkkfgobdkbcdhaaDoorTie.lean); close each card by the builder's one call (the guide's Derived/Test/ToyasCard.lean, 'card_holds'). Laid BY PROGRAM, IN A SANDBOX (cutbox-door.mjs). By AI agents, Wed Nov 11 2026. No macro, syntax, notation, axiom, sorry.
-/
import Derived.Test.YtkkfgobdkbcdhaaDoorRows
import GoSem.ClaimSeven
namespace Go.Proofs.YtkkfgobdkbcdhaaDoor
namespace Rows

/-- THE TIED CARD OF 'reckonerlaw02.ValueErrors'. -/
def valueErrorsCard : Claim7 := { stood := { row := valueErrorsRow, standIns := [], harness := (true, "b324cf4b85d93d7d772e50d8525a01207a5d90d2a028183e2994727ce6a4272e"), looks := false }, kinds := [], alts := [], laidByText := true, laidKinds := [.listed, .data], laidTests := true, laidLooks := .later }
def ValueErrorsCardSaid : Prop := Claim7.holds Tryd.pinned (.plain (OpenSpec.ofChange valueErrorsSpec)) valueErrorsCard

/-- THE TIED CARD OF 'reckonerlaw02.ValueRight'. -/
def valueRightCard : Claim7 := { stood := { row := valueRightRow, standIns := [], harness := (true, "b324cf4b85d93d7d772e50d8525a01207a5d90d2a028183e2994727ce6a4272e"), looks := false }, kinds := [], alts := [], laidByText := true, laidKinds := [.listed, .data], laidTests := true, laidLooks := .later }
def ValueRightCardSaid : Prop := Claim7.holds Tryd.pinned (.plain (OpenSpec.ofChange valueRightSpec)) valueRightCard

/-- THE TIED CARD OF 'reckonerlaw02.ValueTurns'. -/
def valueTurnsCard : Claim7 := { stood := { row := valueTurnsRow, standIns := [], harness := (true, "b324cf4b85d93d7d772e50d8525a01207a5d90d2a028183e2994727ce6a4272e"), looks := false }, kinds := [], alts := [], laidByText := true, laidKinds := [.listed, .data], laidTests := true, laidLooks := .later }
def ValueTurnsCardSaid : Prop := Claim7.holds Tryd.pinned (.plain (OpenSpec.ofChange valueTurnsSpec)) valueTurnsCard

/-- THE TIED CARD OF 'reckonerlaw02.ValueMade'. -/
def valueMadeCard : Claim7 := { stood := { row := valueMadeRow, standIns := [], harness := (true, "b324cf4b85d93d7d772e50d8525a01207a5d90d2a028183e2994727ce6a4272e"), looks := false }, kinds := [], alts := [], laidByText := true, laidKinds := [.listed, .data], laidTests := true, laidLooks := .later }
def ValueMadeCardSaid : Prop := Claim7.holds Tryd.pinned (.plain (OpenSpec.ofChange valueMadeSpec)) valueMadeCard

/-- THE TIED CARD OF 'reckonerlaw02.ValueDigits'. -/
def valueDigitsCard : Claim7 := { stood := { row := valueDigitsRow, standIns := [], harness := (true, "b324cf4b85d93d7d772e50d8525a01207a5d90d2a028183e2994727ce6a4272e"), looks := false }, kinds := [], alts := [], laidByText := true, laidKinds := [.listed, .data], laidTests := true, laidLooks := .later }
def ValueDigitsCardSaid : Prop := Claim7.holds Tryd.pinned (.plain (OpenSpec.ofChange valueDigitsSpec)) valueDigitsCard

/-- THE TIED CARD OF 'reckonerlaw02.ValueOrder'. -/
def valueOrderCard : Claim7 := { stood := { row := valueOrderRow, standIns := [], harness := (true, "b324cf4b85d93d7d772e50d8525a01207a5d90d2a028183e2994727ce6a4272e"), looks := false }, kinds := [], alts := [], laidByText := true, laidKinds := [.listed, .data], laidTests := true, laidLooks := .later }
def ValueOrderCardSaid : Prop := Claim7.holds Tryd.pinned (.plain (OpenSpec.ofChange valueOrderSpec)) valueOrderCard

/-- THE SECOND FORM's CARD OF 'reckonerlaw02.ValueErrors'. -/
def valueErrorsUptoCard : Claim7 := { stood := { row := valueErrorsUptoRow, standIns := [], harness := (true, "b324cf4b85d93d7d772e50d8525a01207a5d90d2a028183e2994727ce6a4272e"), looks := false }, kinds := [], alts := [], laidByText := true, laidKinds := [.listed, .data], laidTests := true, laidLooks := .later }
def ValueErrorsUptoCardSaid : Prop := Claim7.holds Tryd.pinned (.plain (OpenSpec.upto valueErrorsSpec)) valueErrorsUptoCard

/-- THE SECOND FORM's CARD OF 'reckonerlaw02.ValueRight'. -/
def valueRightUptoCard : Claim7 := { stood := { row := valueRightUptoRow, standIns := [], harness := (true, "b324cf4b85d93d7d772e50d8525a01207a5d90d2a028183e2994727ce6a4272e"), looks := false }, kinds := [], alts := [], laidByText := true, laidKinds := [.listed, .data], laidTests := true, laidLooks := .later }
def ValueRightUptoCardSaid : Prop := Claim7.holds Tryd.pinned (.plain (OpenSpec.upto valueRightSpec)) valueRightUptoCard

/-- THE SECOND FORM's CARD OF 'reckonerlaw02.ValueTurns'. -/
def valueTurnsUptoCard : Claim7 := { stood := { row := valueTurnsUptoRow, standIns := [], harness := (true, "b324cf4b85d93d7d772e50d8525a01207a5d90d2a028183e2994727ce6a4272e"), looks := false }, kinds := [], alts := [], laidByText := true, laidKinds := [.listed, .data], laidTests := true, laidLooks := .later }
def ValueTurnsUptoCardSaid : Prop := Claim7.holds Tryd.pinned (.plain (OpenSpec.upto valueTurnsSpec)) valueTurnsUptoCard

/-- THE SECOND FORM's CARD OF 'reckonerlaw02.ValueMade'. -/
def valueMadeUptoCard : Claim7 := { stood := { row := valueMadeUptoRow, standIns := [], harness := (true, "b324cf4b85d93d7d772e50d8525a01207a5d90d2a028183e2994727ce6a4272e"), looks := false }, kinds := [], alts := [], laidByText := true, laidKinds := [.listed, .data], laidTests := true, laidLooks := .later }
def ValueMadeUptoCardSaid : Prop := Claim7.holds Tryd.pinned (.plain (OpenSpec.upto valueMadeSpec)) valueMadeUptoCard

/-- THE SECOND FORM's CARD OF 'reckonerlaw02.ValueDigits'. -/
def valueDigitsUptoCard : Claim7 := { stood := { row := valueDigitsUptoRow, standIns := [], harness := (true, "b324cf4b85d93d7d772e50d8525a01207a5d90d2a028183e2994727ce6a4272e"), looks := false }, kinds := [], alts := [], laidByText := true, laidKinds := [.listed, .data], laidTests := true, laidLooks := .later }
def ValueDigitsUptoCardSaid : Prop := Claim7.holds Tryd.pinned (.plain (OpenSpec.upto valueDigitsSpec)) valueDigitsUptoCard

/-- THE SECOND FORM's CARD OF 'reckonerlaw02.ValueOrder'. -/
def valueOrderUptoCard : Claim7 := { stood := { row := valueOrderUptoRow, standIns := [], harness := (true, "b324cf4b85d93d7d772e50d8525a01207a5d90d2a028183e2994727ce6a4272e"), looks := false }, kinds := [], alts := [], laidByText := true, laidKinds := [.listed, .data], laidTests := true, laidLooks := .later }
def ValueOrderUptoCardSaid : Prop := Claim7.holds Tryd.pinned (.plain (OpenSpec.upto valueOrderSpec)) valueOrderUptoCard
end Rows
end Go.Proofs.YtkkfgobdkbcdhaaDoor
