/-
  What the functions of the package num do: walks. Conditions: each theorem's own bounds on its arguments.
-/
import Derived.Test.YtmdlahkmnjmanaaDoorNum
import Derived.Test.YtmdlahkmnjmanaaDoorRows
import Derived.WalkKit
import Derived.Lib.Hide
import Derived.Outline
namespace Go.Proofs.YtmdlahkmnjmanaaDoor
open Go.RowKit
set_option linter.unusedVariables false

theorem wrap64_up (n : Int) (h : 9223372036854775807 < n ∧ n ≤ 18446744073709551615) : wrap64 n = n - 18446744073709551616 := by unfold wrap64; omega
theorem wrap64_down (n : Int) (h : -18446744073709551616 ≤ n ∧ n < -9223372036854775808) : wrap64 n = n + 18446744073709551616 := by unfold wrap64; omega

def AddNo (w : World) (e : Ending) (w' : World) : Prop := ∃ c : Int, e = .returned (.tuple #[.int .i64 c, .bool false]) ∧ w = w'
theorem of_yes (n : Int) (w : World) (h : -9223372036854 ≤ n ∧ n ≤ 9223372036854) :
    Calls Tryd.prog 21 #[.int .i64 n] w fun e w' => e = .returned (.tuple #[.int .i64 (n * 1000000), .bool true]) ∧ w = w' := by
  go_enter Tryd.func21, Tryd.ntmps21
  go_wp2
  go_ret2
  exact ⟨rfl, rfl⟩
theorem of_no (n : Int) (w : World) (h : n < -9223372036854 ∨ 9223372036854 < n) :
    Calls Tryd.prog 21 #[.int .i64 n] w fun e w' => e = .returned (.tuple #[.int .i64 0, .bool false]) ∧ w = w' := by
  rcases h with h | h <;>
  · go_enter Tryd.func21, Tryd.ntmps21
    go_wp2
    go_ret2
    exact ⟨rfl, rfl⟩
end Go.Proofs.YtmdlahkmnjmanaaDoor
