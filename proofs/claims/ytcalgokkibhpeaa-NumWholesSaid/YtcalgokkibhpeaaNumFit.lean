/-
  The statements' own helpers over num: fit, right. Conditions: none.
-/
import Derived.Test.YtcalgokkibhpeaaPrintW
import Derived.OpenShut
namespace Go.Proofs.Ytcalgokkibhpeaa
open Go.RowKit Num
set_option linter.unusedVariables false

/-- right: a mantissa. -/
def rt (a : Int) : Int := if a = -9223372036854775808 then 0 else a
theorem rt_bd (a : Int) (h : -9223372036854775808 ≤ a ∧ a ≤ 9223372036854775807) : -9223372036854775807 ≤ rt a ∧ rt a ≤ 9223372036854775807 := by unfold rt; split <;> omega
theorem right_any (a : Int) (w : World) :
    Calls Try.prog 12 #[.int .i64 a] w fun e w' => e = .returned (.int .i64 (rt a)) ∧ w = w' := by
  by_cases h : a = -9223372036854775808
  · have h2 : (a == -9223372036854775808) = true := by simp [h]
    have h3 : Hid (rt a = 0) := if_pos h
    clear h
    go_enter Try.func12, Try.ntmps12
    go_wp2
    go_ret
    exact ⟨by rw [h3.out]; rfl, rfl⟩
  · have h2 : (a == -9223372036854775808) = false := by simp [h]
    have h3 : Hid (rt a = a) := if_neg h
    clear h
    go_enter Try.func12, Try.ntmps12
    go_wp2
    go_ret
    exact ⟨by rw [h3.out]; rfl, rfl⟩

theorem fit_any (w : World) :
    Calls Try.prog 11 #[] w fun e w' => e = .returned (.bool true) ∧ Below w.heap.size w w' := by
  have ht : Hid (txt (-1500000) = [45, 49, 46, 53]) := by show _ = _; decide +kernel
  go_enter Try.func11, Try.ntmps11
  go_wp2_with fail
  refine (print_any (-1500000) _ (by omega)).mono ?_
  rintro e w1 ⟨rfl, hb⟩
  rw [ht.out]
  go_wp2
  go_ret
  exact ⟨rfl, hb⟩
end Go.Proofs.Ytcalgokkibhpeaa
