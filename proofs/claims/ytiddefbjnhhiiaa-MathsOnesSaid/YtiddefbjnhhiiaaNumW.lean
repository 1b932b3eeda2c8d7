/-
  What the functions of the package num do: walks. Conditions: each theorem's own bounds on its arguments.
-/
import Derived.Test.YtiddefbjnhhiiaaNum
import Derived.Test.YtiddefbjnhhiiaaRows
import Derived.WalkKit
import Derived.Lib.Hide
import Derived.Outline
namespace Go.Proofs.Ytiddefbjnhhiiaa
open Go.RowKit
set_option linter.unusedVariables false

theorem wrap64_up (n : Int) (h : 9223372036854775807 < n ∧ n ≤ 18446744073709551615) : wrap64 n = n - 18446744073709551616 := by unfold wrap64; omega
theorem wrap64_down (n : Int) (h : -18446744073709551616 ≤ n ∧ n < -9223372036854775808) : wrap64 n = n + 18446744073709551616 := by unfold wrap64; omega

theorem fits_any (a : Int) (w : World) :
    Calls Try.prog 36 #[.int .i64 a] w fun e w' => e = .returned (.bool (decide (-9223372036854775807 ≤ a))) ∧ w = w' := by
  go_enter Try.func36, Try.ntmps36
  go_wp2
  go_ret
  exact ⟨rfl, rfl⟩

theorem add_yes (a b : Int) (w : World) (ha : -9223372036854775807 ≤ a ∧ a ≤ 9223372036854775807) (hb : -9223372036854775807 ≤ b ∧ b ≤ 9223372036854775807)
    (h : -9223372036854775807 ≤ a + b ∧ a + b ≤ 9223372036854775807) :
    Calls Try.prog 34 #[.int .i64 a, .int .i64 b] w fun e w' => e = .returned (.tuple #[.int .i64 (a + b), .bool true]) ∧ w = w' := by
  have e1 : (decide (a < a + b) == decide (0 < b)) = true := by simp; omega
  go_enter Try.func34, Try.ntmps34
  go_wp2
  go_ret2
  exact ⟨rfl, rfl⟩
def AddNo (w : World) (e : Ending) (w' : World) : Prop := ∃ c : Int, e = .returned (.tuple #[.int .i64 c, .bool false]) ∧ w = w'
theorem add_no (a b : Int) (w : World) (ha : -9223372036854775807 ≤ a ∧ a ≤ 9223372036854775807) (hb : -9223372036854775807 ≤ b ∧ b ≤ 9223372036854775807)
    (h : ¬ (-9223372036854775807 ≤ a + b ∧ a + b ≤ 9223372036854775807)) :
    Calls Try.prog 34 #[.int .i64 a, .int .i64 b] w (AddNo w) := by
  by_cases h1 : a + b = -9223372036854775808 ∨ a + b = 9223372036854775808
  · have e0 : wrap64 (a + b) < -9223372036854775807 := by
      rcases h1 with h1 | h1
      · rw [IntWalk.wrap64_in _ (by omega)]; omega
      · rw [wrap64_up _ (by omega)]; omega
    clear h h1
    go_enter Try.func34, Try.ntmps34
    go_wp2
    go_ret2
    exact ⟨_, rfl, rfl⟩
  · have e0 : -9223372036854775807 ≤ wrap64 (a + b) ∧ (decide (a < wrap64 (a + b)) == decide (0 < b)) = false := by
      by_cases h2 : 9223372036854775807 < a + b
      · have e2 := wrap64_up (a + b) (by omega)
        refine ⟨by rw [e2]; omega, ?_⟩
        rw [e2, decide_eq_false (show ¬ a < a + b - 18446744073709551616 by omega), decide_eq_true (show 0 < b by omega)]
        rfl
      · have e2 := wrap64_down (a + b) (by omega)
        refine ⟨by rw [e2]; omega, ?_⟩
        rw [e2, decide_eq_true (show a < a + b + 18446744073709551616 by omega), decide_eq_false (show ¬ 0 < b by omega)]
        rfl
    obtain ⟨e0, e1⟩ := e0
    clear h h1
    go_enter Try.func34, Try.ntmps34
    go_wp2
    go_ret2
    exact ⟨_, rfl, rfl⟩
theorem sub_yes (a b : Int) (w : World) (ha : -9223372036854775807 ≤ a ∧ a ≤ 9223372036854775807) (hb : -9223372036854775807 ≤ b ∧ b ≤ 9223372036854775807)
    (h : -9223372036854775807 ≤ a - b ∧ a - b ≤ 9223372036854775807) :
    Calls Try.prog 30 #[.int .i64 a, .int .i64 b] w fun e w' => e = .returned (.tuple #[.int .i64 (a - b), .bool true]) ∧ w = w' := by
  have H : Hid (a - b = a + -b) := Lib.hid (by omega)
  go_enter Try.func30, Try.ntmps30
  go_wp2_with fail
  refine (add_yes a (-b) _ ha (by omega) (by omega)).mono ?_
  rintro e w' ⟨rfl, rfl⟩
  go_wp2
  go_ret2
  rw [H.out]
  exact ⟨rfl, rfl⟩
theorem sub_no (a b : Int) (w : World) (ha : -9223372036854775807 ≤ a ∧ a ≤ 9223372036854775807) (hb : -9223372036854775807 ≤ b ∧ b ≤ 9223372036854775807)
    (h : ¬ (-9223372036854775807 ≤ a - b ∧ a - b ≤ 9223372036854775807)) :
    Calls Try.prog 30 #[.int .i64 a, .int .i64 b] w (AddNo w) := by
  go_enter Try.func30, Try.ntmps30
  go_wp2_with fail
  refine (add_no a (-b) _ ha (by omega) (by omega)).mono ?_
  rintro e w' ⟨c, rfl, rfl⟩
  go_wp2
  go_ret2
  exact ⟨_, rfl, rfl⟩
theorem whole_any (a : Int) (w : World) (ha : -9223372036854775808 ≤ a ∧ a ≤ 9223372036854775807) :
    Calls Try.prog 18 #[.int .i64 a] w fun e w' => e = .returned (.tuple #[.int .i64 (a.tdiv 1000000), .bool (a.tmod 1000000 == 0)]) ∧ w = w' := by
  go_enter Try.func18, Try.ntmps18
  go_wp2
  go_ret2
  exact ⟨rfl, rfl⟩
theorem of_yes (n : Int) (w : World) (h : -9223372036854 ≤ n ∧ n ≤ 9223372036854) :
    Calls Try.prog 31 #[.int .i64 n] w fun e w' => e = .returned (.tuple #[.int .i64 (n * 1000000), .bool true]) ∧ w = w' := by
  go_enter Try.func31, Try.ntmps31
  go_wp2
  go_ret2
  exact ⟨rfl, rfl⟩
theorem of_no (n : Int) (w : World) (h : n < -9223372036854 ∨ 9223372036854 < n) :
    Calls Try.prog 31 #[.int .i64 n] w fun e w' => e = .returned (.tuple #[.int .i64 0, .bool false]) ∧ w = w' := by
  rcases h with h | h <;>
  · go_enter Try.func31, Try.ntmps31
    go_wp2
    go_ret2
    exact ⟨rfl, rfl⟩
theorem floor_mod (a : Int) : (a.tmod 1000000 < 0 → a.tmod 1000000 + 1000000 = a % 1000000) ∧ (0 ≤ a.tmod 1000000 → a.tmod 1000000 = a % 1000000) ∧ -1000000 < a.tmod 1000000 ∧ a.tmod 1000000 < 1000000 := by
  rw [tmod_eq_if]
  split <;> omega
def FloorPost (a : Int) (w : World) (e : Ending) (w' : World) : Prop :=
  (-9223372036854775807 ≤ a - a % 1000000 → e = .returned (.tuple #[.int .i64 (a - a % 1000000), .bool true])) ∧ (a - a % 1000000 < -9223372036854775807 → ∃ c : Int, e = .returned (.tuple #[.int .i64 c, .bool false])) ∧ w = w'
theorem floor_any (a : Int) (w : World) (ha : -9223372036854775807 ≤ a ∧ a ≤ 9223372036854775807) :
    Calls Try.prog 17 #[.int .i64 a] w (FloorPost a w) := by
  have hm := floor_mod a
  obtain ⟨m1, m2, m3, m4⟩ := hm
  by_cases h1 : a.tmod 1000000 < 0 <;> by_cases h2 : -9223372036854775807 ≤ a - a % 1000000
  · have H := Lib.hid (m1 h1)
    clear m1 m2
    go_enter Try.func17, Try.ntmps17
    go_wp2_with fail
    rw [H.out]
    refine (sub_yes a (a % 1000000) _ ha (by omega) (by omega)).mono ?_
    rintro e w' ⟨rfl, rfl⟩
    go_wp2
    go_ret2
    exact ⟨fun _ => rfl, fun h => by omega, rfl⟩
  · have H := Lib.hid (m1 h1)
    clear m1 m2
    go_enter Try.func17, Try.ntmps17
    go_wp2_with fail
    rw [H.out]
    refine (sub_no a (a % 1000000) _ ha (by omega) (by omega)).mono ?_
    rintro e w' ⟨c, rfl, rfl⟩
    go_wp2
    go_ret2
    exact ⟨fun _ => by omega, fun h => ⟨_, rfl⟩, rfl⟩
  · have H := Lib.hid (m2 (by omega))
    clear m1 m2
    go_enter Try.func17, Try.ntmps17
    go_wp2_with fail
    rw [H.out]
    refine (sub_yes a (a % 1000000) _ ha (by omega) (by omega)).mono ?_
    rintro e w' ⟨rfl, rfl⟩
    go_wp2
    go_ret2
    exact ⟨fun _ => rfl, fun h => by omega, rfl⟩
  · have H := Lib.hid (m2 (by omega))
    clear m1 m2
    go_enter Try.func17, Try.ntmps17
    go_wp2_with fail
    rw [H.out]
    refine (sub_no a (a % 1000000) _ ha (by omega) (by omega)).mono ?_
    rintro e w' ⟨c, rfl, rfl⟩
    go_wp2
    go_ret2
    exact ⟨fun _ => by omega, fun h => ⟨_, rfl⟩, rfl⟩
end Go.Proofs.Ytiddefbjnhhiiaa
