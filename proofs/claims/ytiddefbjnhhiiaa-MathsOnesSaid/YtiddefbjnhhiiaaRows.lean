/-
  No cell of these rows narrows 'for every input' (looked for: loops, veiled, ifaces, maps, wideKeys, modest, calm, conditions, laid).
  DERIVED. THE GIVEN ROWS OF THIS SEAT. 6 by the template 'for every input the law returns true; each argument reads behind the call as it read before'; 0 by the template 'total and deterministic' (their statements: YtiddefbjnhhiiaaTotals.lean).
  GIVEN WITH THE SEED: the statements are not yours to turn. If you find one false, say at which input.
  Laid BY PROGRAM, IN A SANDBOX (cutbox-rows.mjs): the forced cells as the released guide's own fill.sh prints them over the translation 466e7e58c9fa43a1… (all of the seat's roots in one cut). By AI agents, Wed Nov 11 2026. No macro, syntax, notation, axiom, sorry.
-/
import Derived.Test.YtiddefbjnhhiiaaChecked
import GoSem.Claim
import GoSem.ClaimJoined
import GoSem.ClaimMapViews
import Derived.JoinedTies
import Derived.KernelRfl
namespace Go.Proofs.Ytiddefbjnhhiiaa
/- THE CELL 'sum', in the pinned program and in every row, IS THE sha256 OF THE DUMP (.gsa) THAT YtiddefbjnhhiiaaProg.lean LOADS. Nothing in Lean hashes anything: it is a label: what it is worth is what the hold of that sum in a sandbox is worth. -/
noncomputable def Try.pinned : Pinned := { name := "ytiddefbjnhhiiaa", sum := "466e7e58c9fa43a13b9faa5fb47a5eba4b79c61beeb611f712254111fe20762f", checked := Try.checked }
namespace Rows
def none {H : Type} : Left H := { results := [], args := [] }

/-- 'reckonerlaw09.MathsRounds': WHATEVER THE INPUT: true; the input reads as it did. -/
def mathsRoundsSpec : ChangeSpec := { name := "mathsRounds", fn := fun _ => fun
  | [d1, d2] => { results := [.lit (.bool true)], args := [d1, d2] }
  | _ => none }
def mathsRoundsRow : OpenClaim := { program := "ytiddefbjnhhiiaa", sum := "466e7e58c9fa43a13b9faa5fb47a5eba4b79c61beeb611f712254111fe20762f", func := "reckoner/reckonerlaw09.MathsRounds", spec := "mathsRounds", named := ["math/bits.divideError", "math/bits.overflowError"], apart := false }
def MathsRoundsSaid : Prop := mathsRoundsRow.holds Try.pinned (OpenSpec.ofChange mathsRoundsSpec)

/-- ITS FALSE NEIGHBOUR: 'it returns false'. Refute it at one input. -/
def mathsRoundsWrong : ChangeSpec := { name := "mathsRounds", fn := fun _ => fun
  | [d1, d2] => { results := [.lit (.bool false)], args := [d1, d2] }
  | _ => none }
def MathsRoundsWrongFalsely : Prop := mathsRoundsRow.holds Try.pinned (OpenSpec.ofChange mathsRoundsWrong)

/-- 'reckonerlaw09.MathsPowers': WHATEVER THE INPUT: true; the input reads as it did. -/
def mathsPowersSpec : ChangeSpec := { name := "mathsPowers", fn := fun _ => fun
  | [d1, d2] => { results := [.lit (.bool true)], args := [d1, d2] }
  | _ => none }
def mathsPowersRow : OpenClaim := { program := "ytiddefbjnhhiiaa", sum := "466e7e58c9fa43a13b9faa5fb47a5eba4b79c61beeb611f712254111fe20762f", func := "reckoner/reckonerlaw09.MathsPowers", spec := "mathsPowers", named := ["math/bits.divideError", "math/bits.overflowError"], apart := false }
def MathsPowersSaid : Prop := mathsPowersRow.holds Try.pinned (OpenSpec.ofChange mathsPowersSpec)

/-- ITS FALSE NEIGHBOUR: 'it returns false'. Refute it at one input. -/
def mathsPowersWrong : ChangeSpec := { name := "mathsPowers", fn := fun _ => fun
  | [d1, d2] => { results := [.lit (.bool false)], args := [d1, d2] }
  | _ => none }
def MathsPowersWrongFalsely : Prop := mathsPowersRow.holds Try.pinned (OpenSpec.ofChange mathsPowersWrong)

/-- 'reckonerlaw09.MathsAgain': WHATEVER THE INPUT: true; the input reads as it did. -/
def mathsAgainSpec : ChangeSpec := { name := "mathsAgain", fn := fun _ => fun
  | [d1, d2] => { results := [.lit (.bool true)], args := [d1, d2] }
  | _ => none }
def mathsAgainRow : OpenClaim := { program := "ytiddefbjnhhiiaa", sum := "466e7e58c9fa43a13b9faa5fb47a5eba4b79c61beeb611f712254111fe20762f", func := "reckoner/reckonerlaw09.MathsAgain", spec := "mathsAgain", named := ["math/bits.divideError", "math/bits.overflowError"], apart := false }
def MathsAgainSaid : Prop := mathsAgainRow.holds Try.pinned (OpenSpec.ofChange mathsAgainSpec)

/-- ITS FALSE NEIGHBOUR: 'it returns false'. Refute it at one input. -/
def mathsAgainWrong : ChangeSpec := { name := "mathsAgain", fn := fun _ => fun
  | [d1, d2] => { results := [.lit (.bool false)], args := [d1, d2] }
  | _ => none }
def MathsAgainWrongFalsely : Prop := mathsAgainRow.holds Try.pinned (OpenSpec.ofChange mathsAgainWrong)

/-- 'reckonerlaw09.MathsOnes': WHATEVER THE INPUT: true; the input reads as it did. -/
def mathsOnesSpec : ChangeSpec := { name := "mathsOnes", fn := fun _ => fun
  | [d] => { results := [.lit (.bool true)], args := [d] }
  | _ => none }
def mathsOnesRow : OpenClaim := { program := "ytiddefbjnhhiiaa", sum := "466e7e58c9fa43a13b9faa5fb47a5eba4b79c61beeb611f712254111fe20762f", func := "reckoner/reckonerlaw09.MathsOnes", spec := "mathsOnes", named := ["math/bits.divideError", "math/bits.overflowError"], apart := false }
def MathsOnesSaid : Prop := mathsOnesRow.holds Try.pinned (OpenSpec.ofChange mathsOnesSpec)

/-- ITS FALSE NEIGHBOUR: 'it returns false'. Refute it at one input. -/
def mathsOnesWrong : ChangeSpec := { name := "mathsOnes", fn := fun _ => fun
  | [d] => { results := [.lit (.bool false)], args := [d] }
  | _ => none }
def MathsOnesWrongFalsely : Prop := mathsOnesRow.holds Try.pinned (OpenSpec.ofChange mathsOnesWrong)

/-- 'reckonerlaw09.MathsSigns': WHATEVER THE INPUT: true; the input reads as it did. -/
def mathsSignsSpec : ChangeSpec := { name := "mathsSigns", fn := fun _ => fun
  | [d] => { results := [.lit (.bool true)], args := [d] }
  | _ => none }
def mathsSignsRow : OpenClaim := { program := "ytiddefbjnhhiiaa", sum := "466e7e58c9fa43a13b9faa5fb47a5eba4b79c61beeb611f712254111fe20762f", func := "reckoner/reckonerlaw09.MathsSigns", spec := "mathsSigns", named := ["math/bits.divideError", "math/bits.overflowError"], apart := false }
def MathsSignsSaid : Prop := mathsSignsRow.holds Try.pinned (OpenSpec.ofChange mathsSignsSpec)

/-- ITS FALSE NEIGHBOUR: 'it returns false'. Refute it at one input. -/
def mathsSignsWrong : ChangeSpec := { name := "mathsSigns", fn := fun _ => fun
  | [d] => { results := [.lit (.bool false)], args := [d] }
  | _ => none }
def MathsSignsWrongFalsely : Prop := mathsSignsRow.holds Try.pinned (OpenSpec.ofChange mathsSignsWrong)

/-- 'reckonerlaw09.MathsValues': WHATEVER THE INPUT: true; the input reads as it did. -/
def mathsValuesSpec : ChangeSpec := { name := "mathsValues", fn := fun _ => fun
  | [d1, d2, d3] => { results := [.lit (.bool true)], args := [d1, d2, d3] }
  | _ => none }
def mathsValuesRow : OpenClaim := { program := "ytiddefbjnhhiiaa", sum := "466e7e58c9fa43a13b9faa5fb47a5eba4b79c61beeb611f712254111fe20762f", func := "reckoner/reckonerlaw09.MathsValues", spec := "mathsValues", named := ["math/bits.divideError", "math/bits.overflowError"], apart := false }
def MathsValuesSaid : Prop := mathsValuesRow.holds Try.pinned (OpenSpec.ofChange mathsValuesSpec)

/-- ITS FALSE NEIGHBOUR: 'it returns false'. Refute it at one input. -/
def mathsValuesWrong : ChangeSpec := { name := "mathsValues", fn := fun _ => fun
  | [d1, d2, d3] => { results := [.lit (.bool false)], args := [d1, d2, d3] }
  | _ => none }
def MathsValuesWrongFalsely : Prop := mathsValuesRow.holds Try.pinned (OpenSpec.ofChange mathsValuesWrong)

/- THE SECOND FORM. 'bulk': how many values and letters a reading holds, each counted each time it is reached (what is shared counts as often as it is met; a slice's spare places count too). A statement '..UptoSaid' is the law's where the arguments, and the package variables that the reading takes, are together of bulk at most 1048576: NARROWER than '..Said'. Prove '..Said' where nothing that the law and all that it calls make is longer than what came in: it says more and counts as full. Else prove '..UptoSaid'. A law counts once. -/
mutual
def uptoBulk {H : Type} : DataW H → Nat
  | .lit (.string bytes) => bytes.length + 1
  | .lit _ => 1
  | .nil => 1
  | .ptr d => uptoBulk d + 1
  | .slice elems spare => uptoBulkAll elems + uptoBulkAll spare + 1
  | .agg parts => uptoBulkAll parts + 1
  | .iface _ d => uptoBulk d + 1
  | .map entries => uptoBulkEntries entries + 1
  | .held _ => 1
def uptoBulkAll {H : Type} : List (DataW H) → Nat
  | [] => 0
  | d :: r => uptoBulk d + uptoBulkAll r
def uptoBulkEntries {H : Type} : List (Lit × DataW H) → Nat
  | [] => 0
  | x :: r => uptoBulkEntry x + uptoBulkEntries r
def uptoBulkEntry {H : Type} : Lit × DataW H → Nat
  | (.string bytes, d) => bytes.length + uptoBulk d + 1
  | (_, d) => uptoBulk d + 1
 end
def uptoSmall : (H : Type) → List (DataW H) → Bool := fun _ ds => decide (uptoBulkAll ds ≤ 1048576)
def OpenSpec.upto (s : _root_.Go.ChangeSpec) : _root_.Go.OpenSpec := { _root_.Go.OpenSpec.ofChange s with cond := some uptoSmall }

/-- 'reckonerlaw09.MathsRounds', WHERE WHAT IT READS IS OF BULK AT MOST 1048576: true; the input reads as it did. -/
def mathsRoundsUptoRow : OpenClaim := { program := "ytiddefbjnhhiiaa", sum := "466e7e58c9fa43a13b9faa5fb47a5eba4b79c61beeb611f712254111fe20762f", func := "reckoner/reckonerlaw09.MathsRounds", spec := "mathsRounds", named := ["math/bits.divideError", "math/bits.overflowError"], apart := false, narrowed := true }
def MathsRoundsUptoSaid : Prop := mathsRoundsUptoRow.holds Try.pinned (OpenSpec.upto mathsRoundsSpec)

/-- 'reckonerlaw09.MathsPowers', WHERE WHAT IT READS IS OF BULK AT MOST 1048576: true; the input reads as it did. -/
def mathsPowersUptoRow : OpenClaim := { program := "ytiddefbjnhhiiaa", sum := "466e7e58c9fa43a13b9faa5fb47a5eba4b79c61beeb611f712254111fe20762f", func := "reckoner/reckonerlaw09.MathsPowers", spec := "mathsPowers", named := ["math/bits.divideError", "math/bits.overflowError"], apart := false, narrowed := true }
def MathsPowersUptoSaid : Prop := mathsPowersUptoRow.holds Try.pinned (OpenSpec.upto mathsPowersSpec)

/-- 'reckonerlaw09.MathsAgain', WHERE WHAT IT READS IS OF BULK AT MOST 1048576: true; the input reads as it did. -/
def mathsAgainUptoRow : OpenClaim := { program := "ytiddefbjnhhiiaa", sum := "466e7e58c9fa43a13b9faa5fb47a5eba4b79c61beeb611f712254111fe20762f", func := "reckoner/reckonerlaw09.MathsAgain", spec := "mathsAgain", named := ["math/bits.divideError", "math/bits.overflowError"], apart := false, narrowed := true }
def MathsAgainUptoSaid : Prop := mathsAgainUptoRow.holds Try.pinned (OpenSpec.upto mathsAgainSpec)

/-- 'reckonerlaw09.MathsOnes', WHERE WHAT IT READS IS OF BULK AT MOST 1048576: true; the input reads as it did. -/
def mathsOnesUptoRow : OpenClaim := { program := "ytiddefbjnhhiiaa", sum := "466e7e58c9fa43a13b9faa5fb47a5eba4b79c61beeb611f712254111fe20762f", func := "reckoner/reckonerlaw09.MathsOnes", spec := "mathsOnes", named := ["math/bits.divideError", "math/bits.overflowError"], apart := false, narrowed := true }
def MathsOnesUptoSaid : Prop := mathsOnesUptoRow.holds Try.pinned (OpenSpec.upto mathsOnesSpec)

/-- 'reckonerlaw09.MathsSigns', WHERE WHAT IT READS IS OF BULK AT MOST 1048576: true; the input reads as it did. -/
def mathsSignsUptoRow : OpenClaim := { program := "ytiddefbjnhhiiaa", sum := "466e7e58c9fa43a13b9faa5fb47a5eba4b79c61beeb611f712254111fe20762f", func := "reckoner/reckonerlaw09.MathsSigns", spec := "mathsSigns", named := ["math/bits.divideError", "math/bits.overflowError"], apart := false, narrowed := true }
def MathsSignsUptoSaid : Prop := mathsSignsUptoRow.holds Try.pinned (OpenSpec.upto mathsSignsSpec)

/-- 'reckonerlaw09.MathsValues', WHERE WHAT IT READS IS OF BULK AT MOST 1048576: true; the input reads as it did. -/
def mathsValuesUptoRow : OpenClaim := { program := "ytiddefbjnhhiiaa", sum := "466e7e58c9fa43a13b9faa5fb47a5eba4b79c61beeb611f712254111fe20762f", func := "reckoner/reckonerlaw09.MathsValues", spec := "mathsValues", named := ["math/bits.divideError", "math/bits.overflowError"], apart := false, narrowed := true }
def MathsValuesUptoSaid : Prop := mathsValuesUptoRow.holds Try.pinned (OpenSpec.upto mathsValuesSpec)

end Rows
end Go.Proofs.Ytiddefbjnhhiiaa
