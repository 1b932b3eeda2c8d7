/-
  No cell of these rows narrows 'for every input' (looked for: loops, veiled, ifaces, maps, wideKeys, modest, calm, conditions, laid).
  DERIVED. THE GIVEN ROWS OF THIS SEAT. 6 by the template 'for every input the law returns true; each argument reads behind the call as it read before'; 0 by the template 'total and deterministic' (their statements: YtpnnjmckjipacaaTotals.lean).
  GIVEN WITH THE SEED: the statements are not yours to turn. If you find one false, say at which input.
  Laid BY PROGRAM, IN A SANDBOX (cutbox-rows.mjs): the forced cells as the released guide's own fill.sh prints them over the translation ebe9749097ed5c1a… (all of the seat's roots in one cut). By AI agents, Wed Nov 11 2026. No macro, syntax, notation, axiom, sorry.
-/
import Derived.Test.YtpnnjmckjipacaaChecked
import GoSem.Claim
import GoSem.ClaimJoined
import GoSem.ClaimMapViews
import Derived.JoinedTies
import Derived.KernelRfl
namespace Go.Proofs.Ytpnnjmckjipacaa
/- THE CELL 'sum', in the pinned program and in every row, IS THE sha256 OF THE DUMP (.gsa) THAT YtpnnjmckjipacaaProg.lean LOADS. Nothing in Lean hashes anything: it is a label: what it is worth is what the hold of that sum in a sandbox is worth. -/
noncomputable def Try.pinned : Pinned := { name := "ytpnnjmckjipacaa", sum := "ebe9749097ed5c1a62a1200568053f80cc334470754e1d03896ba86b142313df", checked := Try.checked }
namespace Rows
def none {H : Type} : Left H := { results := [], args := [] }

/-- 'reckonerlaw11.ListsParts': WHATEVER THE INPUT: true; the input reads as it did. -/
def listsPartsSpec : ChangeSpec := { name := "listsParts", fn := fun _ => fun
  | [d1, d2] => { results := [.lit (.bool true)], args := [d1, d2] }
  | _ => none }
def listsPartsRow : OpenClaim := { program := "ytpnnjmckjipacaa", sum := "ebe9749097ed5c1a62a1200568053f80cc334470754e1d03896ba86b142313df", func := "reckoner/reckonerlaw11.ListsParts", spec := "listsParts", apart := false }
def ListsPartsSaid : Prop := listsPartsRow.holds Try.pinned (OpenSpec.ofChange listsPartsSpec)

/-- ITS FALSE NEIGHBOUR: 'it returns false'. Refute it at one input. -/
def listsPartsWrong : ChangeSpec := { name := "listsParts", fn := fun _ => fun
  | [d1, d2] => { results := [.lit (.bool false)], args := [d1, d2] }
  | _ => none }
def ListsPartsWrongFalsely : Prop := listsPartsRow.holds Try.pinned (OpenSpec.ofChange listsPartsWrong)

/-- 'reckonerlaw11.ListsIfs': WHATEVER THE INPUT: true; the input reads as it did. -/
def listsIfsSpec : ChangeSpec := { name := "listsIfs", fn := fun _ => fun
  | [d1, d2] => { results := [.lit (.bool true)], args := [d1, d2] }
  | _ => none }
def listsIfsRow : OpenClaim := { program := "ytpnnjmckjipacaa", sum := "ebe9749097ed5c1a62a1200568053f80cc334470754e1d03896ba86b142313df", func := "reckoner/reckonerlaw11.ListsIfs", spec := "listsIfs", apart := false }
def ListsIfsSaid : Prop := listsIfsRow.holds Try.pinned (OpenSpec.ofChange listsIfsSpec)

/-- ITS FALSE NEIGHBOUR: 'it returns false'. Refute it at one input. -/
def listsIfsWrong : ChangeSpec := { name := "listsIfs", fn := fun _ => fun
  | [d1, d2] => { results := [.lit (.bool false)], args := [d1, d2] }
  | _ => none }
def ListsIfsWrongFalsely : Prop := listsIfsRow.holds Try.pinned (OpenSpec.ofChange listsIfsWrong)

/-- 'reckonerlaw11.ListsFinds': WHATEVER THE INPUT: true; the input reads as it did. -/
def listsFindsSpec : ChangeSpec := { name := "listsFinds", fn := fun _ => fun
  | [d1, d2] => { results := [.lit (.bool true)], args := [d1, d2] }
  | _ => none }
def listsFindsRow : OpenClaim := { program := "ytpnnjmckjipacaa", sum := "ebe9749097ed5c1a62a1200568053f80cc334470754e1d03896ba86b142313df", func := "reckoner/reckonerlaw11.ListsFinds", spec := "listsFinds", apart := false }
def ListsFindsSaid : Prop := listsFindsRow.holds Try.pinned (OpenSpec.ofChange listsFindsSpec)

/-- ITS FALSE NEIGHBOUR: 'it returns false'. Refute it at one input. -/
def listsFindsWrong : ChangeSpec := { name := "listsFinds", fn := fun _ => fun
  | [d1, d2] => { results := [.lit (.bool false)], args := [d1, d2] }
  | _ => none }
def ListsFindsWrongFalsely : Prop := listsFindsRow.holds Try.pinned (OpenSpec.ofChange listsFindsWrong)

/-- 'reckonerlaw11.ListsProducts': WHATEVER THE INPUT: true; the input reads as it did. -/
def listsProductsSpec : ChangeSpec := { name := "listsProducts", fn := fun _ => fun
  | [d1, d2] => { results := [.lit (.bool true)], args := [d1, d2] }
  | _ => none }
def listsProductsRow : OpenClaim := { program := "ytpnnjmckjipacaa", sum := "ebe9749097ed5c1a62a1200568053f80cc334470754e1d03896ba86b142313df", func := "reckoner/reckonerlaw11.ListsProducts", spec := "listsProducts", named := ["math/bits.divideError", "math/bits.overflowError"], apart := false }
def ListsProductsSaid : Prop := listsProductsRow.holds Try.pinned (OpenSpec.ofChange listsProductsSpec)

/-- ITS FALSE NEIGHBOUR: 'it returns false'. Refute it at one input. -/
def listsProductsWrong : ChangeSpec := { name := "listsProducts", fn := fun _ => fun
  | [d1, d2] => { results := [.lit (.bool false)], args := [d1, d2] }
  | _ => none }
def ListsProductsWrongFalsely : Prop := listsProductsRow.holds Try.pinned (OpenSpec.ofChange listsProductsWrong)

/-- 'reckonerlaw11.ListsSkips': WHATEVER THE INPUT: true; the input reads as it did. -/
def listsSkipsSpec : ChangeSpec := { name := "listsSkips", fn := fun _ => fun
  | [d] => { results := [.lit (.bool true)], args := [d] }
  | _ => none }
def listsSkipsRow : OpenClaim := { program := "ytpnnjmckjipacaa", sum := "ebe9749097ed5c1a62a1200568053f80cc334470754e1d03896ba86b142313df", func := "reckoner/reckonerlaw11.ListsSkips", spec := "listsSkips", named := ["math/bits.divideError", "math/bits.overflowError"], apart := false }
def ListsSkipsSaid : Prop := listsSkipsRow.holds Try.pinned (OpenSpec.ofChange listsSkipsSpec)

/-- ITS FALSE NEIGHBOUR: 'it returns false'. Refute it at one input. -/
def listsSkipsWrong : ChangeSpec := { name := "listsSkips", fn := fun _ => fun
  | [d] => { results := [.lit (.bool false)], args := [d] }
  | _ => none }
def ListsSkipsWrongFalsely : Prop := listsSkipsRow.holds Try.pinned (OpenSpec.ofChange listsSkipsWrong)

/-- 'reckonerlaw11.ListsSums': WHATEVER THE INPUT: true; the input reads as it did. -/
def listsSumsSpec : ChangeSpec := { name := "listsSums", fn := fun _ => fun
  | [d] => { results := [.lit (.bool true)], args := [d] }
  | _ => none }
def listsSumsRow : OpenClaim := { program := "ytpnnjmckjipacaa", sum := "ebe9749097ed5c1a62a1200568053f80cc334470754e1d03896ba86b142313df", func := "reckoner/reckonerlaw11.ListsSums", spec := "listsSums", named := ["math/bits.divideError", "math/bits.overflowError"], apart := false }
def ListsSumsSaid : Prop := listsSumsRow.holds Try.pinned (OpenSpec.ofChange listsSumsSpec)

/-- ITS FALSE NEIGHBOUR: 'it returns false'. Refute it at one input. -/
def listsSumsWrong : ChangeSpec := { name := "listsSums", fn := fun _ => fun
  | [d] => { results := [.lit (.bool false)], args := [d] }
  | _ => none }
def ListsSumsWrongFalsely : Prop := listsSumsRow.holds Try.pinned (OpenSpec.ofChange listsSumsWrong)

/- THE SECOND FORM. 'bulk': how many values and letters a reading holds, each counted each time it is reached (what is shared counts as often as it is met; a slice's spare places count too). A statement '..UptoSaid' is the law's where the arguments, and the package variables that the reading takes, are together of bulk at most 1048576: NARROWER than '..Said'. Prove '..Said' where nothing that the law and all that it calls make is longer than what came in: it says more and counts as full. Else prove '..UptoSaid'. A law counts once. -/
mutual
def uptoBulk {H : Type} : DataW H → Nat
  | .lit (.string bytes) => bytes.length + 1
  | .lit _ => 1
  | .nil => 1
  | .ptr d => uptoBulk d + 1
  | .slice elems spare => uptoBulkAll elems + uptoBulkAll spare + 1
  | .agg parts => uptoBulkAll parts + 1
  | .iface _ d => uptoBulk d + 1
  | .map entries => uptoBulkEntries entries + 1
  | .held _ => 1
def uptoBulkAll {H : Type} : List (DataW H) → Nat
  | [] => 0
  | d :: r => uptoBulk d + uptoBulkAll r
def uptoBulkEntries {H : Type} : List (Lit × DataW H) → Nat
  | [] => 0
  | x :: r => uptoBulkEntry x + uptoBulkEntries r
def uptoBulkEntry {H : Type} : Lit × DataW H → Nat
  | (.string bytes, d) => bytes.length + uptoBulk d + 1
  | (_, d) => uptoBulk d + 1
 end
def uptoSmall : (H : Type) → List (DataW H) → Bool := fun _ ds => decide (uptoBulkAll ds ≤ 1048576)
def OpenSpec.upto (s : _root_.Go.ChangeSpec) : _root_.Go.OpenSpec := { _root_.Go.OpenSpec.ofChange s with cond := some uptoSmall }

/-- 'reckonerlaw11.ListsParts', WHERE WHAT IT READS IS OF BULK AT MOST 1048576: true; the input reads as it did. -/
def listsPartsUptoRow : OpenClaim := { program := "ytpnnjmckjipacaa", sum := "ebe9749097ed5c1a62a1200568053f80cc334470754e1d03896ba86b142313df", func := "reckoner/reckonerlaw11.ListsParts", spec := "listsParts", apart := false, narrowed := true }
def ListsPartsUptoSaid : Prop := listsPartsUptoRow.holds Try.pinned (OpenSpec.upto listsPartsSpec)

/-- 'reckonerlaw11.ListsIfs', WHERE WHAT IT READS IS OF BULK AT MOST 1048576: true; the input reads as it did. -/
def listsIfsUptoRow : OpenClaim := { program := "ytpnnjmckjipacaa", sum := "ebe9749097ed5c1a62a1200568053f80cc334470754e1d03896ba86b142313df", func := "reckoner/reckonerlaw11.ListsIfs", spec := "listsIfs", apart := false, narrowed := true }
def ListsIfsUptoSaid : Prop := listsIfsUptoRow.holds Try.pinned (OpenSpec.upto listsIfsSpec)

/-- 'reckonerlaw11.ListsFinds', WHERE WHAT IT READS IS OF BULK AT MOST 1048576: true; the input reads as it did. -/
def listsFindsUptoRow : OpenClaim := { program := "ytpnnjmckjipacaa", sum := "ebe9749097ed5c1a62a1200568053f80cc334470754e1d03896ba86b142313df", func := "reckoner/reckonerlaw11.ListsFinds", spec := "listsFinds", apart := false, narrowed := true }
def ListsFindsUptoSaid : Prop := listsFindsUptoRow.holds Try.pinned (OpenSpec.upto listsFindsSpec)

/-- 'reckonerlaw11.ListsProducts', WHERE WHAT IT READS IS OF BULK AT MOST 1048576: true; the input reads as it did. -/
def listsProductsUptoRow : OpenClaim := { program := "ytpnnjmckjipacaa", sum := "ebe9749097ed5c1a62a1200568053f80cc334470754e1d03896ba86b142313df", func := "reckoner/reckonerlaw11.ListsProducts", spec := "listsProducts", named := ["math/bits.divideError", "math/bits.overflowError"], apart := false, narrowed := true }
def ListsProductsUptoSaid : Prop := listsProductsUptoRow.holds Try.pinned (OpenSpec.upto listsProductsSpec)

/-- 'reckonerlaw11.ListsSkips', WHERE WHAT IT READS IS OF BULK AT MOST 1048576: true; the input reads as it did. -/
def listsSkipsUptoRow : OpenClaim := { program := "ytpnnjmckjipacaa", sum := "ebe9749097ed5c1a62a1200568053f80cc334470754e1d03896ba86b142313df", func := "reckoner/reckonerlaw11.ListsSkips", spec := "listsSkips", named := ["math/bits.divideError", "math/bits.overflowError"], apart := false, narrowed := true }
def ListsSkipsUptoSaid : Prop := listsSkipsUptoRow.holds Try.pinned (OpenSpec.upto listsSkipsSpec)

/-- 'reckonerlaw11.ListsSums', WHERE WHAT IT READS IS OF BULK AT MOST 1048576: true; the input reads as it did. -/
def listsSumsUptoRow : OpenClaim := { program := "ytpnnjmckjipacaa", sum := "ebe9749097ed5c1a62a1200568053f80cc334470754e1d03896ba86b142313df", func := "reckoner/reckonerlaw11.ListsSums", spec := "listsSums", named := ["math/bits.divideError", "math/bits.overflowError"], apart := false, narrowed := true }
def ListsSumsUptoSaid : Prop := listsSumsUptoRow.holds Try.pinned (OpenSpec.upto listsSumsSpec)

end Rows
end Go.Proofs.Ytpnnjmckjipacaa
