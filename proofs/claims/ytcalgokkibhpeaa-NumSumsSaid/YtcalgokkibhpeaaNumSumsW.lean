/-
  The law NumSums: its walk. Conditions: the arguments are of their kind.
-/
import Derived.Test.YtcalgokkibhpeaaNumFit
namespace Go.Proofs.Ytcalgokkibhpeaa
open Go.RowKit Num
set_option linter.unusedVariables false
namespace numSums

theorem ref_yes (a b : Int) (w : World) (ha : -9223372036854775807 ≤ a ∧ a ≤ 9223372036854775807) (hb : -9223372036854775807 ≤ b ∧ b ≤ 9223372036854775807)
    (h : -9223372036854775807 ≤ a + b ∧ a + b ≤ 9223372036854775807) :
    Calls Try.prog 15 #[.int .i64 a, .int .i64 b] w fun e w' => e = .returned (.tuple #[.int .i64 (a + b), .bool true]) ∧ w = w' := by
  have e1 : (a + b == -9223372036854775808) = false := by simp; omega
  go_enter Try.func15, Try.ntmps15
  go_wp2
  all_goals go_ret2
  all_goals exact ⟨rfl, rfl⟩
theorem ref_no (a b : Int) (w : World) (ha : -9223372036854775807 ≤ a ∧ a ≤ 9223372036854775807) (hb : -9223372036854775807 ≤ b ∧ b ≤ 9223372036854775807)
    (h : ¬ (-9223372036854775807 ≤ a + b ∧ a + b ≤ 9223372036854775807)) :
    Calls Try.prog 15 #[.int .i64 a, .int .i64 b] w fun e w' => e = .returned (.tuple #[.int .i64 0, .bool false]) ∧ w = w' := by
  by_cases h1 : a + b = -9223372036854775808
  · have e0 : wrap64 (a + b) = -9223372036854775808 := by rw [IntWalk.wrap64_in _ (by omega)]; omega
    have e1 : a < 0 := by omega
    have e2 : b < 0 := by omega
    have e3 : wrap64 (a + b) < 0 := by rw [e0]; omega
    have e4 : (wrap64 (a + b) == -9223372036854775808) = true := by rw [e0]; simp
    clear e0 h h1
    go_enter Try.func15, Try.ntmps15
    go_wp2
    all_goals go_ret2
    all_goals exact ⟨rfl, rfl⟩
  · by_cases h2 : 9223372036854775807 < a + b
    · have e0 := wrap64_up (a + b) (by omega)
      have e1 : 0 < a := by omega
      have e2 : 0 < b := by omega
      have e3 : wrap64 (a + b) < 0 := by rw [e0]; omega
      clear e0 h h1 h2
      go_enter Try.func15, Try.ntmps15
      go_wp2
      all_goals go_ret2
      all_goals exact ⟨rfl, rfl⟩
    · have e0 := wrap64_down (a + b) (by omega)
      have e1 : a < 0 := by omega
      have e2 : b < 0 := by omega
      have e3 : 0 ≤ wrap64 (a + b) := by rw [e0]; omega
      clear e0 h h1 h2
      go_enter Try.func15, Try.ntmps15
      go_wp2
      all_goals go_ret2
      all_goals exact ⟨rfl, rfl⟩

theorem walk (a b : Int) (w : World) (wa : (Lit.int .i64 a).wf = true) (wb : (Lit.int .i64 b).wf = true) :
    Calls Try.prog 4 #[.int .i64 a, .int .i64 b] w fun e w' => e = .returned (.bool true) ∧ Below w.heap.size w w' := by
  have ha := rt_bd a (bounds_i64 wa)
  have hb := rt_bd b (bounds_i64 wb)
  obtain ⟨A, hA⟩ : ∃ A, rt a = A := ⟨_, rfl⟩
  obtain ⟨B, hB⟩ : ∃ B, rt b = B := ⟨_, rfl⟩
  rw [hA] at ha
  rw [hB] at hb
  have HA := Lib.hid hA
  have HB := Lib.hid hB
  clear hA hB wa wb
  go_enter Try.func4, Try.ntmps4
  go_wp2_with fail
  refine (fit_any _).mono ?_
  rintro e w1 ⟨rfl, hb1⟩
  go_wp2_with fail
  refine (right_any a _).mono ?_
  rintro e w' ⟨rfl, rfl⟩
  rw [HA.out]
  go_wp2_with fail
  refine (right_any b _).mono ?_
  rintro e w' ⟨rfl, rfl⟩
  rw [HB.out]
  go_wp2_with fail
  by_cases h1 : -9223372036854775807 ≤ A + B ∧ A + B ≤ 9223372036854775807 <;> by_cases h2 : -9223372036854775807 ≤ A - B ∧ A - B ≤ 9223372036854775807
  · refine (add_yes A B _ ha hb h1).mono ?_
    rintro e w' ⟨rfl, rfl⟩
    go_wp2_with fail
    refine (ref_yes A B _ ha hb h1).mono ?_
    rintro e w' ⟨rfl, rfl⟩
    go_wp2_with fail
    refine (sub_yes A B _ ha hb h2).mono ?_
    rintro e w' ⟨rfl, rfl⟩
    go_wp2_with fail
    refine (ref_yes A (-B) _ ha (by omega) (by omega)).mono ?_
    rintro e w' ⟨rfl, rfl⟩
    have e1 : (A - B == A + -B) = true := by simp; omega
    go_wp2
    go_ret
    exact ⟨rfl, hb1⟩
  · refine (add_yes A B _ ha hb h1).mono ?_
    rintro e w' ⟨rfl, rfl⟩
    go_wp2_with fail
    refine (ref_yes A B _ ha hb h1).mono ?_
    rintro e w' ⟨rfl, rfl⟩
    go_wp2_with fail
    refine (sub_no A B _ ha hb h2).mono ?_
    rintro e w' ⟨c, rfl, rfl⟩
    go_wp2_with fail
    refine (ref_no A (-B) _ ha (by omega) (by omega)).mono ?_
    rintro e w' ⟨rfl, rfl⟩
    go_wp2
    go_ret
    exact ⟨rfl, hb1⟩
  · refine (add_no A B _ ha hb h1).mono ?_
    rintro e w' ⟨c, rfl, rfl⟩
    go_wp2_with fail
    refine (ref_no A B _ ha hb h1).mono ?_
    rintro e w' ⟨rfl, rfl⟩
    go_wp2_with fail
    refine (sub_yes A B _ ha hb h2).mono ?_
    rintro e w' ⟨rfl, rfl⟩
    go_wp2_with fail
    refine (ref_yes A (-B) _ ha (by omega) (by omega)).mono ?_
    rintro e w' ⟨rfl, rfl⟩
    have e1 : (A - B == A + -B) = true := by simp; omega
    go_wp2
    go_ret
    exact ⟨rfl, hb1⟩
  · refine (add_no A B _ ha hb h1).mono ?_
    rintro e w' ⟨c, rfl, rfl⟩
    go_wp2_with fail
    refine (ref_no A B _ ha hb h1).mono ?_
    rintro e w' ⟨rfl, rfl⟩
    go_wp2_with fail
    refine (sub_no A B _ ha hb h2).mono ?_
    rintro e w' ⟨c, rfl, rfl⟩
    go_wp2_with fail
    refine (ref_no A (-B) _ ha (by omega) (by omega)).mono ?_
    rintro e w' ⟨rfl, rfl⟩
    go_wp2
    go_ret
    exact ⟨rfl, hb1⟩
end numSums
end Go.Proofs.Ytcalgokkibhpeaa
