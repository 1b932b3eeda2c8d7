/-
  What the functions of the package num do: walks. Conditions: each theorem's own bounds on its arguments.
-/
import Derived.Test.YtbnebiobahajjaaGreatDoorNum
import Derived.Test.YtbnebiobahajjaaGreatDoorRows
import Derived.WalkKit
import Derived.Lib.Hide
import Derived.Outline
namespace Go.Proofs.YtbnebiobahajjaaGreatDoor
open Go.RowKit
set_option linter.unusedVariables false

theorem wrap64_up (n : Int) (h : 9223372036854775807 < n ∧ n ≤ 18446744073709551615) : wrap64 n = n - 18446744073709551616 := by unfold wrap64; omega
theorem wrap64_down (n : Int) (h : -18446744073709551616 ≤ n ∧ n < -9223372036854775808) : wrap64 n = n + 18446744073709551616 := by unfold wrap64; omega

def AddNo (w : World) (e : Ending) (w' : World) : Prop := ∃ c : Int, e = .returned (.tuple #[.int .i64 c, .bool false]) ∧ w = w'
end Go.Proofs.YtbnebiobahajjaaGreatDoor
