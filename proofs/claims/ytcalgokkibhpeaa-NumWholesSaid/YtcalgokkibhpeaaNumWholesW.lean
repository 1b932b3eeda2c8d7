/-
  The law NumWholes: its walk. Conditions: the arguments are of their kind.
-/
import Derived.Test.YtcalgokkibhpeaaNumFit
import Derived.Test.YtcalgokkibhpeaaMulW
namespace Go.Proofs.Ytcalgokkibhpeaa
open Go.RowKit Num
set_option linter.unusedVariables false
namespace numWholes

theorem rnd_exact (n c : Nat) (hc : 0 < c) : rnd (n * c) c = n := by
  unfold rnd
  rw [Nat.mul_div_cancel _ hc, Nat.mul_mod_left, if_neg (by omega)]; rfl

/-- Products of small wholes. -/
theorem prod_small {A B : Int} (ha : -2097152 ≤ A ∧ A ≤ 2097152) (hb : -2097152 ≤ B ∧ B ≤ 2097152) :
    mulV (negOf (A * 1000000) (B * 1000000)) ((A * 1000000).natAbs * (B * 1000000).natAbs) 1000000 = A * B * 1000000 ∧ mulOk ((A * 1000000).natAbs * (B * 1000000).natAbs) 1000000 = true := by
  have e1 : (A * 1000000).natAbs = A.natAbs * 1000000 := by omega
  have e2 : (B * 1000000).natAbs = B.natAbs * 1000000 := by omega
  have e3 : A.natAbs * 1000000 * (B.natAbs * 1000000) = (A.natAbs * B.natAbs * 1000000) * 1000000 := by
    rw [Nat.mul_mul_mul_comm, Nat.mul_assoc, Nat.mul_assoc, Nat.mul_assoc]
  rw [e1, e2, e3]
  have hr := rnd_exact (A.natAbs * B.natAbs * 1000000) 1000000 (by omega)
  have hle : A.natAbs * B.natAbs ≤ 2097152 * 2097152 := Nat.mul_le_mul (by omega) (by omega)
  have hR : rnd (A.natAbs * B.natAbs * 1000000 * 1000000) 1000000 ≤ 9223372036854775807 := by rw [hr]; omega
  obtain ⟨h1, h2⟩ := mulV_yes (neg := negOf (A * 1000000) (B * 1000000)) hR
  refine ⟨?_, h2⟩
  rw [h1, hr]
  unfold sgn negOf
  by_cases hA : A < 0
  · rw [decide_eq_true (show A * 1000000 < 0 by omega)]
    by_cases hB : B < 0
    · rw [decide_eq_true (show B * 1000000 < 0 by omega)]
      have : A * B = ((A.natAbs * B.natAbs : Nat) : Int) := by rw [Int.natCast_mul, show (A.natAbs : Int) = -A by omega, show (B.natAbs : Int) = -B by omega, Int.neg_mul_neg]
      rw [this]; generalize A.natAbs * B.natAbs = p; simp <;> omega
    · rw [decide_eq_false (show ¬ B * 1000000 < 0 by omega)]
      have : A * B = -((A.natAbs * B.natAbs : Nat) : Int) := by rw [Int.natCast_mul, show (A.natAbs : Int) = -A by omega, Int.natAbs_of_nonneg (by omega), Int.neg_mul, Int.neg_neg]
      rw [this]; generalize A.natAbs * B.natAbs = p; simp <;> omega
  · rw [decide_eq_false (show ¬ A * 1000000 < 0 by omega)]
    by_cases hB : B < 0
    · rw [decide_eq_true (show B * 1000000 < 0 by omega)]
      have : A * B = -((A.natAbs * B.natAbs : Nat) : Int) := by rw [Int.natCast_mul, show (B.natAbs : Int) = -B by omega, Int.natAbs_of_nonneg (by omega), Int.mul_neg, Int.neg_neg]
      rw [this]; generalize A.natAbs * B.natAbs = p; simp <;> omega
    · rw [decide_eq_false (show ¬ B * 1000000 < 0 by omega)]
      have : A * B = ((A.natAbs * B.natAbs : Nat) : Int) := by rw [Int.natCast_mul, Int.natAbs_of_nonneg (by omega), Int.natAbs_of_nonneg (by omega)]
      rw [this]; generalize A.natAbs * B.natAbs = p; simp <;> omega

/-- A quotient times its divisor is near. -/
theorem near_nat {n m R : Nat} (hm : 0 < m) (hR : rnd (n * 1000000 * 1000000) (m * 1000000) = R) : 2 * (R * m) ≤ 2 * (n * 1000000) + m ∧ 2 * (n * 1000000) ≤ 2 * (R * m) + m := by
  unfold rnd at hR
  have e1 : n * 1000000 * 1000000 / (m * 1000000) = n * 1000000 / m := Nat.mul_div_mul_right _ _ (by omega)
  have e2 : n * 1000000 * 1000000 % (m * 1000000) = n * 1000000 % m * 1000000 := Nat.mul_mod_mul_right _ _ _
  rw [e1, e2] at hR
  have h1 := Nat.div_add_mod (n * 1000000) m
  have h2 := Nat.mod_lt (n * 1000000) hm
  obtain ⟨q, hq⟩ : ∃ q, n * 1000000 / m = q := ⟨_, rfl⟩
  obtain ⟨r, hr⟩ : ∃ r, n * 1000000 % m = r := ⟨_, rfl⟩
  rw [hq, hr] at hR h1
  rw [hr] at h2
  clear hq hr
  subst hR
  rw [Nat.add_mul, Nat.mul_comm q m]
  split
  · omega
  · omega
theorem near {A B : Int} (ha : -2097152 ≤ A ∧ A ≤ 2097152) (hb : -2097152 ≤ B ∧ B ≤ 2097152) (hB0 : B ≠ 0) :
    mulOk ((A * 1000000).natAbs * 1000000) (B * 1000000).natAbs = true ∧
    ∃ Q, mulV (negOf (A * 1000000) (B * 1000000)) ((A * 1000000).natAbs * 1000000) (B * 1000000).natAbs = Q ∧ -9223372036854775807 ≤ Q ∧ Q ≤ 9223372036854775807 ∧
      mulOk (Q.natAbs * (B * 1000000).natAbs) 1000000 = true ∧
      ∃ K, mulV (negOf Q (B * 1000000)) (Q.natAbs * (B * 1000000).natAbs) 1000000 = K ∧ 2 * (K - A * 1000000) ≤ (B.natAbs : Int) ∧ 2 * (A * 1000000 - K) ≤ (B.natAbs : Int) ∧ -9000000000000000000 ≤ K ∧ K ≤ 9000000000000000000 := by
  have e1 : (A * 1000000).natAbs = A.natAbs * 1000000 := by omega
  have e2 : (B * 1000000).natAbs = B.natAbs * 1000000 := by omega
  rw [e1, e2]
  obtain ⟨R, hR⟩ : ∃ R, rnd (A.natAbs * 1000000 * 1000000) (B.natAbs * 1000000) = R := ⟨_, rfl⟩
  have hn := near_nat (n := A.natAbs) (show 0 < B.natAbs by omega) hR
  have hRle : R ≤ R * B.natAbs := Nat.le_mul_of_pos_right R (by omega)
  have hRb : R ≤ 9223372036854775807 := by omega
  obtain ⟨h1, h2⟩ := mulV_yes (neg := negOf (A * 1000000) (B * 1000000)) (show rnd (A.natAbs * 1000000 * 1000000) (B.natAbs * 1000000) ≤ 9223372036854775807 by rw [hR]; exact hRb)
  rw [hR] at h1
  refine ⟨h2, _, h1, ?_, ?_, ?_⟩
  · unfold sgn; split <;> omega
  · unfold sgn; split <;> omega
  · have hQ : (sgn (negOf (A * 1000000) (B * 1000000)) R).natAbs = R := by unfold sgn; split <;> omega
    rw [hQ]
    have e3 : R * (B.natAbs * 1000000) = R * B.natAbs * 1000000 := by rw [Nat.mul_assoc]
    rw [e3]
    have hr := rnd_exact (R * B.natAbs) 1000000 (by omega)
    have hP : R * B.natAbs ≤ 9223372036854775807 := by omega
    obtain ⟨h3, h4⟩ := mulV_yes (neg := negOf (sgn (negOf (A * 1000000) (B * 1000000)) R) (B * 1000000)) (show rnd (R * B.natAbs * 1000000) 1000000 ≤ 9223372036854775807 by rw [hr]; exact hP)
    rw [hr] at h3
    refine ⟨h4, _, h3, ?_⟩
    generalize hPg : R * B.natAbs = P at *
    have hK : sgn (negOf (sgn (negOf (A * 1000000) (B * 1000000)) R) (B * 1000000)) P = if A < 0 then -(P : Int) else P := by
      by_cases hR0 : R = 0
      · have hP0 : P = 0 := by rw [← hPg, hR0, Nat.zero_mul]
        rw [hP0]; generalize negOf (sgn (negOf (A * 1000000) (B * 1000000)) R) (B * 1000000) = g; cases g <;> simp [sgn]
      · unfold sgn negOf
        by_cases hA : A < 0
        · rw [decide_eq_true (show A * 1000000 < 0 by omega)]
          by_cases hB : B < 0
          · rw [decide_eq_true (show B * 1000000 < 0 by omega)]
            simp; omega
          · rw [decide_eq_false (show ¬ B * 1000000 < 0 by omega)]
            simp; omega
        · rw [decide_eq_false (show ¬ A * 1000000 < 0 by omega)]
          by_cases hB : B < 0
          · rw [decide_eq_true (show B * 1000000 < 0 by omega)]
            simp; omega
          · rw [decide_eq_false (show ¬ B * 1000000 < 0 by omega)]
            simp; omega
    rw [hK]
    split <;> omega

set_option maxHeartbeats 1600000 in
theorem walk (a b : Int) (w : World) (wa : (Lit.int .i32 a).wf = true) (wb : (Lit.int .i32 b).wf = true) :
    Calls Try.prog 10 #[.int .i32 a, .int .i32 b] w fun e w' => e = .returned (.bool true) ∧ Below w.heap.size w w' := by
  have ha' := bounds_i32 wa
  have hb' := bounds_i32 wb
  obtain ⟨A, hA⟩ : ∃ A, a / 1024 = A := ⟨_, rfl⟩
  obtain ⟨B, hB⟩ : ∃ B, b / 1024 = B := ⟨_, rfl⟩
  have ha : -2097152 ≤ A ∧ A ≤ 2097152 := by omega
  have hb : -2097152 ≤ B ∧ B ≤ 2097152 := by omega
  clear wa wb
  have hx : -9223372036854775807 ≤ A * 1000000 ∧ A * 1000000 ≤ 9223372036854775807 := by omega
  have hy : -9223372036854775807 ≤ B * 1000000 ∧ B * 1000000 ≤ 9223372036854775807 := by omega
  have c1 := fun w => mul_any (A * 1000000) (B * 1000000) w hx hy
  unfold MulEnd at c1
  obtain ⟨p1, p2⟩ := prod_small ha hb
  rw [p1, p2] at c1
  have hAB : A * B ≤ 4398046511104 ∧ -4398046511104 ≤ A * B := by
    have h1 : (A * B).natAbs ≤ 4398046511104 := by
      rw [Int.natAbs_mul]
      exact Nat.mul_le_mul (show A.natAbs ≤ 2097152 by omega) (show B.natAbs ≤ 2097152 by omega)
    omega
  obtain ⟨P, hP⟩ : ∃ P, A * B = P := ⟨_, rfl⟩
  rw [hP] at c1 hAB
  have C1 := Lib.hid c1
  obtain ⟨hP1, hP2⟩ := hAB
  have g1 : ((P * 1000000).tmod 1000000 == 0) = true := by rw [Int.mul_tmod_left]; rfl
  have g2 : ((P * 1000000).tdiv 1000000) = P := Int.mul_tdiv_cancel _ (by decide)
  clear p1 p2 c1
  go_enter Try.func10, Try.ntmps10
  go_wp2_with fail
  refine (fit_any _).mono ?_
  rintro e w1 ⟨rfl, hb1⟩
  go_wp2_with fail
  refine (of_yes A _ (by omega)).mono ?_
  rintro e w' ⟨rfl, rfl⟩
  go_wp2_with fail
  refine (of_yes B _ (by omega)).mono ?_
  rintro e w' ⟨rfl, rfl⟩
  go_wp2_with fail
  refine (C1.out _).mono ?_
  rintro e w2 ⟨rfl, hb2⟩
  have hB2 := hb1.trans (hb2.mono hb1.size)
  clear hb1 hb2
  go_wp2_with fail
  by_cases hB0 : B = 0
  · have t0 : (B * 1000000 == 0) = true := by rw [hB0]; rfl
    have t0' : (B * 1000000 != 0) = false := by rw [hB0]; rfl
    have hq := quo_zero (A * 1000000) w2
    have e0 : B * 1000000 = 0 := by rw [hB0]; rfl
    rw [← e0] at hq
    have HQ := Lib.hid hq
    have hP0 : Hid (P = 0) := by show _ = _; rw [← hP, hB0, Int.mul_zero]
    clear hq e0 hB0
    refine HQ.out.mono ?_
    rintro e w' ⟨rfl, rfl⟩
    go_wp2_with fail
    refine (whole_any (P * 1000000) _ (by omega)).mono ?_
    rintro e w' ⟨rfl, rfl⟩
    go_wp2
    go_ret
    exact ⟨rfl, hB2⟩
  · have t0 : (B * 1000000 == 0) = false := by simp; omega
    have t0' : (B * 1000000 != 0) = true := by simp; omega
    obtain ⟨k1, Q, k2, k3, k4, k5, K, k6, k7, k8, k9, k10⟩ := near ha hb hB0
    have c2 := fun w => quo_any (A * 1000000) (B * 1000000) w hx hy (by omega)
    have c3 := fun w => mul_any Q (B * 1000000) w ⟨k3, k4⟩ hy
    unfold MulEnd at c2 c3
    rw [k1, k2] at c2
    rw [k5, k6] at c3
    have C2 := Lib.hid c2
    have C3 := Lib.hid c3
    clear c2 c3 k1 k2 k5 k6
    refine (C2.out _).mono ?_
    rintro e w3 ⟨rfl, hb3⟩
    have hB3 := hB2.trans (hb3.mono hB2.size)
    clear hB2 hb3
    go_wp2_with fail
    refine (whole_any (P * 1000000) _ (by omega)).mono ?_
    rintro e w' ⟨rfl, rfl⟩
    go_wp2_with fail
    refine (C3.out _).mono ?_
    rintro e w4 ⟨rfl, hb4⟩
    have hB4 := hB3.trans (hb4.mono hB3.size)
    clear hB3 hb4
    by_cases hBn : B < 0
    · have hm : (B.natAbs : Int) = -B := by omega
      rw [hm] at k7 k8
      obtain ⟨T, hT⟩ : ∃ T, B.tdiv 2 = T := ⟨_, rfl⟩
      have hT1 : T ≤ 0 ∧ -2097152 ≤ T ∧ -B - 1 ≤ -(2 * T) := by
        rw [← hT, tdiv_eq_if, if_neg (by omega)]; omega
      obtain ⟨hT1, hT2, hT3⟩ := hT1
      clear hm
      go_wp2
      all_goals go_ret
      all_goals exact ⟨congrArg (fun b => Ending.returned (Value.bool b)) (decide_eq_true (by omega)), hB4⟩
    · have hm : (B.natAbs : Int) = B := by omega
      rw [hm] at k7 k8
      have hBp : 0 < B := by omega
      clear hm
      go_wp2
      all_goals go_ret
      all_goals exact ⟨congrArg (fun b => Ending.returned (Value.bool b)) (decide_eq_true (by omega)), hB4⟩
end numWholes
end Go.Proofs.Ytcalgokkibhpeaa
