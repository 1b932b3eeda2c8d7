/-
  The law NumFloors: its walk. Conditions: the arguments are of their kind.
-/
import Derived.Test.YtcalgokkibhpeaaNumFit
namespace Go.Proofs.Ytcalgokkibhpeaa
open Go.RowKit Num
set_option linter.unusedVariables false
namespace numFloors

theorem walk (a n : Int) (w : World) (wa : (Lit.int .i64 a).wf = true) (wn : (Lit.int .i64 n).wf = true) :
    Calls Try.prog 5 #[.int .i64 a, .int .i64 n] w fun e w' => e = .returned (.bool true) ∧ Below w.heap.size w w' := by
  have ha := rt_bd a (bounds_i64 wa)
  have hn := bounds_i64 wn
  obtain ⟨A, hA⟩ : ∃ A, rt a = A := ⟨_, rfl⟩
  rw [hA] at ha
  have HA := Lib.hid hA
  clear hA wa wn
  go_enter Try.func5, Try.ntmps5
  go_wp2_with fail
  refine (fit_any _).mono ?_
  rintro e w1 ⟨rfl, hb1⟩
  go_wp2_with fail
  refine (right_any a _).mono ?_
  rintro e w' ⟨rfl, rfl⟩
  rw [HA.out]
  go_wp2_with fail
  refine (floor_any A _ ha).mono ?_
  rintro e w2 ⟨hf1, hf2, rfl⟩
  have m0 := floor_mod A
  by_cases hfo : -9223372036854775807 ≤ A - A % 1000000
  · obtain rfl := hf1 hfo
    clear hf1 hf2
    have g3 : ((A - A % 1000000).tmod 1000000 == 0) = true := by
      have : (A - A % 1000000) = A / 1000000 * 1000000 := by omega
      rw [this, Int.mul_tmod_left]; rfl
    have g4 : decide (A - (A - A % 1000000) < 1000000) = true := by simp; omega
    have g5 : A - A % 1000000 ≤ A := by omega
    go_wp2_with fail
    refine (whole_any A _ (by omega)).mono ?_
    rintro e w' ⟨rfl, rfl⟩
    go_wp2_with fail
    by_cases hno : -9223372036854 ≤ n ∧ n ≤ 9223372036854
    · refine (of_yes n _ hno).mono ?_
      rintro e w' ⟨rfl, rfl⟩
      go_wp2_with fail
      refine (whole_any (n * 1000000) _ (by omega)).mono ?_
      rintro e w' ⟨rfl, rfl⟩
      have g1 : ((n * 1000000).tmod 1000000 == 0) = true := by rw [Int.mul_tmod_left]; rfl
      have g2 : ((n * 1000000).tdiv 1000000 != n) = false := by rw [Int.mul_tdiv_cancel _ (by decide)]; simp
      clear m0
      go_wp2
      go_ret
      exact ⟨rfl, hb1⟩
    · have hno' : n < -9223372036854 ∨ 9223372036854 < n := by omega
      refine (of_no n _ hno').mono ?_
      rintro e w' ⟨rfl, rfl⟩
      go_wp2_with fail
      refine (whole_any 0 _ (by omega)).mono ?_
      rintro e w' ⟨rfl, rfl⟩
      clear m0 hno
      rcases hno' with h | h
      · go_wp2
        go_ret
        exact ⟨rfl, hb1⟩
      · go_wp2
        go_ret
        exact ⟨rfl, hb1⟩
  · obtain ⟨c, rfl⟩ := hf2 (by omega)
    clear hf1 hf2
    have g3 : A < -9223372036853000000 := by omega
    go_wp2_with fail
    refine (whole_any A _ (by omega)).mono ?_
    rintro e w' ⟨rfl, rfl⟩
    go_wp2_with fail
    by_cases hno : -9223372036854 ≤ n ∧ n ≤ 9223372036854
    · refine (of_yes n _ hno).mono ?_
      rintro e w' ⟨rfl, rfl⟩
      go_wp2_with fail
      refine (whole_any (n * 1000000) _ (by omega)).mono ?_
      rintro e w' ⟨rfl, rfl⟩
      have g1 : ((n * 1000000).tmod 1000000 == 0) = true := by rw [Int.mul_tmod_left]; rfl
      have g2 : ((n * 1000000).tdiv 1000000 != n) = false := by rw [Int.mul_tdiv_cancel _ (by decide)]; simp
      clear m0
      go_wp2
      go_ret
      exact ⟨rfl, hb1⟩
    · have hno' : n < -9223372036854 ∨ 9223372036854 < n := by omega
      refine (of_no n _ hno').mono ?_
      rintro e w' ⟨rfl, rfl⟩
      go_wp2_with fail
      refine (whole_any 0 _ (by omega)).mono ?_
      rintro e w' ⟨rfl, rfl⟩
      clear m0 hno
      rcases hno' with h | h
      · go_wp2
        go_ret
        exact ⟨rfl, hb1⟩
      · go_wp2
        go_ret
        exact ⟨rfl, hb1⟩
end numFloors
end Go.Proofs.Ytcalgokkibhpeaa
