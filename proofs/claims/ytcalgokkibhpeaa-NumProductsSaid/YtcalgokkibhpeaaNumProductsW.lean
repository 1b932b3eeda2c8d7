/-
  The law NumProducts: its walk. Conditions: the arguments are of their kind.
-/
import Derived.Test.YtcalgokkibhpeaaNumFit
import Derived.Test.YtcalgokkibhpeaaRefMulW
namespace Go.Proofs.Ytcalgokkibhpeaa
open Go.RowKit Num
set_option linter.unusedVariables false
namespace numProducts

theorem negOf_comm (a b : Int) : negOf a b = negOf b a := by unfold negOf; cases decide (a < 0) <;> cases decide (b < 0) <;> rfl

set_option maxHeartbeats 800000 in
theorem walk (a b : Int) (w : World) (wa : (Lit.int .i64 a).wf = true) (wb : (Lit.int .i64 b).wf = true) :
    Calls Try.prog 8 #[.int .i64 a, .int .i64 b] w fun e w' => e = .returned (.bool true) ∧ Below w.heap.size w w' := by
  have ha := rt_bd a (bounds_i64 wa)
  have hb := rt_bd b (bounds_i64 wb)
  obtain ⟨A, hA⟩ : ∃ A, rt a = A := ⟨_, rfl⟩
  obtain ⟨B, hB⟩ : ∃ B, rt b = B := ⟨_, rfl⟩
  rw [hA] at ha
  rw [hB] at hb
  have HA := Lib.hid hA
  have HB := Lib.hid hB
  clear hA hB wa wb
  have c1 := fun w => mul_any A B w ha hb
  have c2 := fun w => refmul_any A B w ha hb
  have c3 := fun w => mul_any B A w hb ha
  rw [negOf_comm B A, Nat.mul_comm B.natAbs] at c3
  have c4 := fun (h : B ≠ 0) w => quo_any A B w ha hb h
  have c5 := fun (h : B ≠ 0) w => refquo_any A B w ha hb h
  unfold MulEnd at c1 c2 c3 c4 c5
  obtain ⟨V, hV⟩ : ∃ V, mulV (negOf A B) (A.natAbs * B.natAbs) 1000000 = V := ⟨_, rfl⟩
  obtain ⟨K, hK⟩ : ∃ V, mulOk (A.natAbs * B.natAbs) 1000000 = V := ⟨_, rfl⟩
  obtain ⟨V2, hV2⟩ : ∃ V, mulV (negOf A B) (A.natAbs * 1000000) B.natAbs = V := ⟨_, rfl⟩
  obtain ⟨K2, hK2⟩ : ∃ V, mulOk (A.natAbs * 1000000) B.natAbs = V := ⟨_, rfl⟩
  rw [hV, hK] at c1 c2 c3
  rw [hV2, hK2] at c4 c5
  have C1 := Lib.hid c1
  have C2 := Lib.hid c2
  have C3 := Lib.hid c3
  have C4 := Lib.hid c4
  have C5 := Lib.hid c5
  clear c1 c2 c3 c4 c5 hV hK hV2 hK2
  go_enter Try.func8, Try.ntmps8
  go_wp2_with fail
  refine (fit_any _).mono ?_
  rintro e w1 ⟨rfl, hb1⟩
  go_wp2_with fail
  refine (right_any a _).mono ?_
  rintro e w' ⟨rfl, rfl⟩
  rw [HA.out]
  go_wp2_with fail
  refine (right_any b _).mono ?_
  rintro e w' ⟨rfl, rfl⟩
  rw [HB.out]
  go_wp2_with fail
  refine (C1.out _).mono ?_
  rintro e w2 ⟨rfl, hb2⟩
  have hB2 := hb1.trans (hb2.mono hb1.size)
  clear hb1 hb2
  go_wp2_with fail
  refine (C2.out _).mono ?_
  rintro e w3 ⟨rfl, hb3⟩
  have hB3 := hB2.trans (hb3.mono hB2.size)
  clear hB2 hb3
  go_wp2_with fail
  by_cases hB0 : B = 0
  · subst hB0
    refine (quo_zero A _).mono ?_
    rintro e w' ⟨rfl, rfl⟩
    go_wp2_with fail
    refine (refquo_zero A _).mono ?_
    rintro e w' ⟨rfl, rfl⟩
    go_wp2_with fail
    refine (C3.out _).mono ?_
    rintro e w4 ⟨rfl, hb4⟩
    have hB4 := hB3.trans (hb4.mono hB3.size)
    clear hB3 hb4
    cases K
    · go_wp2
      go_ret
      exact ⟨rfl, hB4⟩
    · go_wp2
      go_ret
      exact ⟨rfl, hB4⟩
  · refine (C4.out hB0 _).mono ?_
    rintro e w4 ⟨rfl, hb4⟩
    have hB4 := hB3.trans (hb4.mono hB3.size)
    clear hB3 hb4
    go_wp2_with fail
    refine (C5.out hB0 _).mono ?_
    rintro e w5 ⟨rfl, hb5⟩
    have hB5 := hB4.trans (hb5.mono hB4.size)
    clear hB4 hb5
    go_wp2_with fail
    refine (C3.out _).mono ?_
    rintro e w6 ⟨rfl, hb6⟩
    have hB6 := hB5.trans (hb6.mono hB5.size)
    clear hB5 hb6
    cases K <;> cases K2
    all_goals
      go_wp2
      go_ret
      exact ⟨rfl, hB6⟩
end numProducts
end Go.Proofs.Ytcalgokkibhpeaa
