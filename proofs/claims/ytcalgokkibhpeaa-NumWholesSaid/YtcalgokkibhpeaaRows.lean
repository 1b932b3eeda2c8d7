/-
  No cell of these rows narrows 'for every input' (looked for: loops, veiled, ifaces, maps, wideKeys, modest, calm, conditions, laid).
  DERIVED. THE GIVEN ROWS OF THIS SEAT. 8 by the template 'for every input the law returns true; each argument reads behind the call as it read before'; 0 by the template 'total and deterministic' (their statements: YtcalgokkibhpeaaTotals.lean).
  GIVEN WITH THE SEED: the statements are not yours to turn. If you find one false, say at which input.
  Laid BY PROGRAM, IN A SANDBOX (cutbox-rows.mjs): the forced cells as the released guide's own fill.sh prints them over the translation b8ab0df512c93913… (all of the seat's roots in one cut). By AI agents, Wed Nov 11 2026. No macro, syntax, notation, axiom, sorry.
-/
import Derived.Test.YtcalgokkibhpeaaChecked
import GoSem.Claim
import GoSem.ClaimJoined
import GoSem.ClaimMapViews
import Derived.JoinedTies
import Derived.KernelRfl
namespace Go.Proofs.Ytcalgokkibhpeaa
/- THE CELL 'sum', in the pinned program and in every row, IS THE sha256 OF THE DUMP (.gsa) THAT YtcalgokkibhpeaaProg.lean LOADS. Nothing in Lean hashes anything: it is a label: what it is worth is what the hold of that sum in a sandbox is worth. -/
noncomputable def Try.pinned : Pinned := { name := "ytcalgokkibhpeaa", sum := "b8ab0df512c93913f47a6ecde25092e5aadf844e244c1aaf1354657ca5cc12b5", checked := Try.checked }
namespace Rows
def none {H : Type} : Left H := { results := [], args := [] }

/-- 'reckonerlaw01.NumOrder': WHATEVER THE INPUT: true; the input reads as it did. -/
def numOrderSpec : ChangeSpec := { name := "numOrder", fn := fun _ => fun
  | [d1, d2] => { results := [.lit (.bool true)], args := [d1, d2] }
  | _ => none }
def numOrderRow : OpenClaim := { program := "ytcalgokkibhpeaa", sum := "b8ab0df512c93913f47a6ecde25092e5aadf844e244c1aaf1354657ca5cc12b5", func := "reckoner/reckonerlaw01.NumOrder", spec := "numOrder", apart := false }
def NumOrderSaid : Prop := numOrderRow.holds Try.pinned (OpenSpec.ofChange numOrderSpec)

/-- ITS FALSE NEIGHBOUR: 'it returns false'. Refute it at one input. -/
def numOrderWrong : ChangeSpec := { name := "numOrder", fn := fun _ => fun
  | [d1, d2] => { results := [.lit (.bool false)], args := [d1, d2] }
  | _ => none }
def NumOrderWrongFalsely : Prop := numOrderRow.holds Try.pinned (OpenSpec.ofChange numOrderWrong)

/-- 'reckonerlaw01.NumSums': WHATEVER THE INPUT: true; the input reads as it did. -/
def numSumsSpec : ChangeSpec := { name := "numSums", fn := fun _ => fun
  | [d1, d2] => { results := [.lit (.bool true)], args := [d1, d2] }
  | _ => none }
def numSumsRow : OpenClaim := { program := "ytcalgokkibhpeaa", sum := "b8ab0df512c93913f47a6ecde25092e5aadf844e244c1aaf1354657ca5cc12b5", func := "reckoner/reckonerlaw01.NumSums", spec := "numSums", apart := false }
def NumSumsSaid : Prop := numSumsRow.holds Try.pinned (OpenSpec.ofChange numSumsSpec)

/-- ITS FALSE NEIGHBOUR: 'it returns false'. Refute it at one input. -/
def numSumsWrong : ChangeSpec := { name := "numSums", fn := fun _ => fun
  | [d1, d2] => { results := [.lit (.bool false)], args := [d1, d2] }
  | _ => none }
def NumSumsWrongFalsely : Prop := numSumsRow.holds Try.pinned (OpenSpec.ofChange numSumsWrong)

/-- 'reckonerlaw01.NumFloors': WHATEVER THE INPUT: true; the input reads as it did. -/
def numFloorsSpec : ChangeSpec := { name := "numFloors", fn := fun _ => fun
  | [d1, d2] => { results := [.lit (.bool true)], args := [d1, d2] }
  | _ => none }
def numFloorsRow : OpenClaim := { program := "ytcalgokkibhpeaa", sum := "b8ab0df512c93913f47a6ecde25092e5aadf844e244c1aaf1354657ca5cc12b5", func := "reckoner/reckonerlaw01.NumFloors", spec := "numFloors", apart := false }
def NumFloorsSaid : Prop := numFloorsRow.holds Try.pinned (OpenSpec.ofChange numFloorsSpec)

/-- ITS FALSE NEIGHBOUR: 'it returns false'. Refute it at one input. -/
def numFloorsWrong : ChangeSpec := { name := "numFloors", fn := fun _ => fun
  | [d1, d2] => { results := [.lit (.bool false)], args := [d1, d2] }
  | _ => none }
def NumFloorsWrongFalsely : Prop := numFloorsRow.holds Try.pinned (OpenSpec.ofChange numFloorsWrong)

/-- 'reckonerlaw01.NumTexts': WHATEVER THE INPUT: true; the input reads as it did. -/
def numTextsSpec : ChangeSpec := { name := "numTexts", fn := fun _ => fun
  | [d1, d2] => { results := [.lit (.bool true)], args := [d1, d2] }
  | _ => none }
def numTextsRow : OpenClaim := { program := "ytcalgokkibhpeaa", sum := "b8ab0df512c93913f47a6ecde25092e5aadf844e244c1aaf1354657ca5cc12b5", func := "reckoner/reckonerlaw01.NumTexts", spec := "numTexts", inPlace := ["math/bits.Add64"], apart := false }
def NumTextsSaid : Prop := numTextsRow.holds Try.pinned (OpenSpec.ofChange numTextsSpec)

/-- ITS FALSE NEIGHBOUR: 'it returns false'. Refute it at one input. -/
def numTextsWrong : ChangeSpec := { name := "numTexts", fn := fun _ => fun
  | [d1, d2] => { results := [.lit (.bool false)], args := [d1, d2] }
  | _ => none }
def NumTextsWrongFalsely : Prop := numTextsRow.holds Try.pinned (OpenSpec.ofChange numTextsWrong)

/-- 'reckonerlaw01.NumDigits': WHATEVER THE INPUT: true; the input reads as it did. -/
def numDigitsSpec : ChangeSpec := { name := "numDigits", fn := fun _ => fun
  | [d1, d2] => { results := [.lit (.bool true)], args := [d1, d2] }
  | _ => none }
def numDigitsRow : OpenClaim := { program := "ytcalgokkibhpeaa", sum := "b8ab0df512c93913f47a6ecde25092e5aadf844e244c1aaf1354657ca5cc12b5", func := "reckoner/reckonerlaw01.NumDigits", spec := "numDigits", inPlace := ["math/bits.Add64"], apart := false }
def NumDigitsSaid : Prop := numDigitsRow.holds Try.pinned (OpenSpec.ofChange numDigitsSpec)

/-- ITS FALSE NEIGHBOUR: 'it returns false'. Refute it at one input. -/
def numDigitsWrong : ChangeSpec := { name := "numDigits", fn := fun _ => fun
  | [d1, d2] => { results := [.lit (.bool false)], args := [d1, d2] }
  | _ => none }
def NumDigitsWrongFalsely : Prop := numDigitsRow.holds Try.pinned (OpenSpec.ofChange numDigitsWrong)

/-- 'reckonerlaw01.NumProducts': WHATEVER THE INPUT: true; the input reads as it did. -/
def numProductsSpec : ChangeSpec := { name := "numProducts", fn := fun _ => fun
  | [d1, d2] => { results := [.lit (.bool true)], args := [d1, d2] }
  | _ => none }
def numProductsRow : OpenClaim := { program := "ytcalgokkibhpeaa", sum := "b8ab0df512c93913f47a6ecde25092e5aadf844e244c1aaf1354657ca5cc12b5", func := "reckoner/reckonerlaw01.NumProducts", spec := "numProducts", named := ["math/bits.divideError", "math/bits.overflowError"], apart := false }
def NumProductsSaid : Prop := numProductsRow.holds Try.pinned (OpenSpec.ofChange numProductsSpec)

/-- ITS FALSE NEIGHBOUR: 'it returns false'. Refute it at one input. -/
def numProductsWrong : ChangeSpec := { name := "numProducts", fn := fun _ => fun
  | [d1, d2] => { results := [.lit (.bool false)], args := [d1, d2] }
  | _ => none }
def NumProductsWrongFalsely : Prop := numProductsRow.holds Try.pinned (OpenSpec.ofChange numProductsWrong)

/-- 'reckonerlaw01.NumSigns': WHATEVER THE INPUT: true; the input reads as it did. -/
def numSignsSpec : ChangeSpec := { name := "numSigns", fn := fun _ => fun
  | [d1, d2] => { results := [.lit (.bool true)], args := [d1, d2] }
  | _ => none }
def numSignsRow : OpenClaim := { program := "ytcalgokkibhpeaa", sum := "b8ab0df512c93913f47a6ecde25092e5aadf844e244c1aaf1354657ca5cc12b5", func := "reckoner/reckonerlaw01.NumSigns", spec := "numSigns", named := ["math/bits.divideError", "math/bits.overflowError"], apart := false }
def NumSignsSaid : Prop := numSignsRow.holds Try.pinned (OpenSpec.ofChange numSignsSpec)

/-- ITS FALSE NEIGHBOUR: 'it returns false'. Refute it at one input. -/
def numSignsWrong : ChangeSpec := { name := "numSigns", fn := fun _ => fun
  | [d1, d2] => { results := [.lit (.bool false)], args := [d1, d2] }
  | _ => none }
def NumSignsWrongFalsely : Prop := numSignsRow.holds Try.pinned (OpenSpec.ofChange numSignsWrong)

/-- 'reckonerlaw01.NumWholes': WHATEVER THE INPUT: true; the input reads as it did. -/
def numWholesSpec : ChangeSpec := { name := "numWholes", fn := fun _ => fun
  | [d1, d2] => { results := [.lit (.bool true)], args := [d1, d2] }
  | _ => none }
def numWholesRow : OpenClaim := { program := "ytcalgokkibhpeaa", sum := "b8ab0df512c93913f47a6ecde25092e5aadf844e244c1aaf1354657ca5cc12b5", func := "reckoner/reckonerlaw01.NumWholes", spec := "numWholes", named := ["math/bits.divideError", "math/bits.overflowError"], apart := false }
def NumWholesSaid : Prop := numWholesRow.holds Try.pinned (OpenSpec.ofChange numWholesSpec)

/-- ITS FALSE NEIGHBOUR: 'it returns false'. Refute it at one input. -/
def numWholesWrong : ChangeSpec := { name := "numWholes", fn := fun _ => fun
  | [d1, d2] => { results := [.lit (.bool false)], args := [d1, d2] }
  | _ => none }
def NumWholesWrongFalsely : Prop := numWholesRow.holds Try.pinned (OpenSpec.ofChange numWholesWrong)

/- THE SECOND FORM. 'bulk': how many values and letters a reading holds, each counted each time it is reached (what is shared counts as often as it is met; a slice's spare places count too). A statement '..UptoSaid' is the law's where the arguments, and the package variables that the reading takes, are together of bulk at most 1048576: NARROWER than '..Said'. Prove '..Said' where nothing that the law and all that it calls make is longer than what came in: it says more and counts as full. Else prove '..UptoSaid'. A law counts once. -/
mutual
def uptoBulk {H : Type} : DataW H → Nat
  | .lit (.string bytes) => bytes.length + 1
  | .lit _ => 1
  | .nil => 1
  | .ptr d => uptoBulk d + 1
  | .slice elems spare => uptoBulkAll elems + uptoBulkAll spare + 1
  | .agg parts => uptoBulkAll parts + 1
  | .iface _ d => uptoBulk d + 1
  | .map entries => uptoBulkEntries entries + 1
  | .held _ => 1
def uptoBulkAll {H : Type} : List (DataW H) → Nat
  | [] => 0
  | d :: r => uptoBulk d + uptoBulkAll r
def uptoBulkEntries {H : Type} : List (Lit × DataW H) → Nat
  | [] => 0
  | x :: r => uptoBulkEntry x + uptoBulkEntries r
def uptoBulkEntry {H : Type} : Lit × DataW H → Nat
  | (.string bytes, d) => bytes.length + uptoBulk d + 1
  | (_, d) => uptoBulk d + 1
 end
def uptoSmall : (H : Type) → List (DataW H) → Bool := fun _ ds => decide (uptoBulkAll ds ≤ 1048576)
def OpenSpec.upto (s : _root_.Go.ChangeSpec) : _root_.Go.OpenSpec := { _root_.Go.OpenSpec.ofChange s with cond := some uptoSmall }

/-- 'reckonerlaw01.NumOrder', WHERE WHAT IT READS IS OF BULK AT MOST 1048576: true; the input reads as it did. -/
def numOrderUptoRow : OpenClaim := { program := "ytcalgokkibhpeaa", sum := "b8ab0df512c93913f47a6ecde25092e5aadf844e244c1aaf1354657ca5cc12b5", func := "reckoner/reckonerlaw01.NumOrder", spec := "numOrder", apart := false, narrowed := true }
def NumOrderUptoSaid : Prop := numOrderUptoRow.holds Try.pinned (OpenSpec.upto numOrderSpec)

/-- 'reckonerlaw01.NumSums', WHERE WHAT IT READS IS OF BULK AT MOST 1048576: true; the input reads as it did. -/
def numSumsUptoRow : OpenClaim := { program := "ytcalgokkibhpeaa", sum := "b8ab0df512c93913f47a6ecde25092e5aadf844e244c1aaf1354657ca5cc12b5", func := "reckoner/reckonerlaw01.NumSums", spec := "numSums", apart := false, narrowed := true }
def NumSumsUptoSaid : Prop := numSumsUptoRow.holds Try.pinned (OpenSpec.upto numSumsSpec)

/-- 'reckonerlaw01.NumFloors', WHERE WHAT IT READS IS OF BULK AT MOST 1048576: true; the input reads as it did. -/
def numFloorsUptoRow : OpenClaim := { program := "ytcalgokkibhpeaa", sum := "b8ab0df512c93913f47a6ecde25092e5aadf844e244c1aaf1354657ca5cc12b5", func := "reckoner/reckonerlaw01.NumFloors", spec := "numFloors", apart := false, narrowed := true }
def NumFloorsUptoSaid : Prop := numFloorsUptoRow.holds Try.pinned (OpenSpec.upto numFloorsSpec)

/-- 'reckonerlaw01.NumTexts', WHERE WHAT IT READS IS OF BULK AT MOST 1048576: true; the input reads as it did. -/
def numTextsUptoRow : OpenClaim := { program := "ytcalgokkibhpeaa", sum := "b8ab0df512c93913f47a6ecde25092e5aadf844e244c1aaf1354657ca5cc12b5", func := "reckoner/reckonerlaw01.NumTexts", spec := "numTexts", inPlace := ["math/bits.Add64"], apart := false, narrowed := true }
def NumTextsUptoSaid : Prop := numTextsUptoRow.holds Try.pinned (OpenSpec.upto numTextsSpec)

/-- 'reckonerlaw01.NumDigits', WHERE WHAT IT READS IS OF BULK AT MOST 1048576: true; the input reads as it did. -/
def numDigitsUptoRow : OpenClaim := { program := "ytcalgokkibhpeaa", sum := "b8ab0df512c93913f47a6ecde25092e5aadf844e244c1aaf1354657ca5cc12b5", func := "reckoner/reckonerlaw01.NumDigits", spec := "numDigits", inPlace := ["math/bits.Add64"], apart := false, narrowed := true }
def NumDigitsUptoSaid : Prop := numDigitsUptoRow.holds Try.pinned (OpenSpec.upto numDigitsSpec)

/-- 'reckonerlaw01.NumProducts', WHERE WHAT IT READS IS OF BULK AT MOST 1048576: true; the input reads as it did. -/
def numProductsUptoRow : OpenClaim := { program := "ytcalgokkibhpeaa", sum := "b8ab0df512c93913f47a6ecde25092e5aadf844e244c1aaf1354657ca5cc12b5", func := "reckoner/reckonerlaw01.NumProducts", spec := "numProducts", named := ["math/bits.divideError", "math/bits.overflowError"], apart := false, narrowed := true }
def NumProductsUptoSaid : Prop := numProductsUptoRow.holds Try.pinned (OpenSpec.upto numProductsSpec)

/-- 'reckonerlaw01.NumSigns', WHERE WHAT IT READS IS OF BULK AT MOST 1048576: true; the input reads as it did. -/
def numSignsUptoRow : OpenClaim := { program := "ytcalgokkibhpeaa", sum := "b8ab0df512c93913f47a6ecde25092e5aadf844e244c1aaf1354657ca5cc12b5", func := "reckoner/reckonerlaw01.NumSigns", spec := "numSigns", named := ["math/bits.divideError", "math/bits.overflowError"], apart := false, narrowed := true }
def NumSignsUptoSaid : Prop := numSignsUptoRow.holds Try.pinned (OpenSpec.upto numSignsSpec)

/-- 'reckonerlaw01.NumWholes', WHERE WHAT IT READS IS OF BULK AT MOST 1048576: true; the input reads as it did. -/
def numWholesUptoRow : OpenClaim := { program := "ytcalgokkibhpeaa", sum := "b8ab0df512c93913f47a6ecde25092e5aadf844e244c1aaf1354657ca5cc12b5", func := "reckoner/reckonerlaw01.NumWholes", spec := "numWholes", named := ["math/bits.divideError", "math/bits.overflowError"], apart := false, narrowed := true }
def NumWholesUptoSaid : Prop := numWholesUptoRow.holds Try.pinned (OpenSpec.upto numWholesSpec)

end Rows
end Go.Proofs.Ytcalgokkibhpeaa
