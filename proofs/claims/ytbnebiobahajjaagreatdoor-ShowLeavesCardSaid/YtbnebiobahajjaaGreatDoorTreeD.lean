/-
  tree: Size: walk. Conditions: each theorem's own.
-/
import Derived.Test.YtbnebiobahajjaaGreatDoorTreeC
import Derived.Deep.CutBlock
import Derived.Deep.DeepCutAuto
namespace Go.Proofs.YtbnebiobahajjaaGreatDoor
open Go.RowKit
set_option linter.unusedVariables false
set_option linter.unusedSimpArgs false

end Go.Proofs.YtbnebiobahajjaaGreatDoor
