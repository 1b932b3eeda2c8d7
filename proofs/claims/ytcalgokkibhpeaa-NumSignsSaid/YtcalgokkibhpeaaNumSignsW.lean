/-
  The law NumSigns: its walk. Conditions: the arguments are of their kind.
-/
import Derived.Test.YtcalgokkibhpeaaNumFit
import Derived.Test.YtcalgokkibhpeaaMulW
import Derived.Lib.Strings
namespace Go.Proofs.Ytcalgokkibhpeaa
open Go.RowKit Num
set_option linter.unusedVariables false
namespace numSigns

theorem mulV_bd (g : Bool) (n c : Nat) : -9223372036854775807 ≤ mulV g n c ∧ mulV g n c ≤ 9223372036854775807 := by
  unfold mulV sgn
  split
  · split <;> omega
  · omega
theorem mulV_neg (g : Bool) (n c : Nat) : mulV g n c = -mulV (!g) n c := by
  unfold mulV sgn
  split
  · cases g <;> simp
  · rfl
theorem rnd_zero (c : Nat) (hc : 0 < c) : rnd 0 c = 0 := by unfold rnd; simp; omega
theorem mulV_zero (g : Bool) (c : Nat) (hc : 0 < c) : mulV g 0 c = 0 := by unfold mulV sgn; rw [rnd_zero c hc]; simp
theorem negOf_l {a b : Int} (h : a ≠ 0) : negOf (-a) b = !negOf a b := by
  unfold negOf
  by_cases h1 : a < 0
  · rw [decide_eq_true h1, decide_eq_false (show ¬ -a < 0 by omega)]; cases decide (b < 0) <;> rfl
  · rw [decide_eq_false h1, decide_eq_true (show -a < 0 by omega)]; cases decide (b < 0) <;> rfl
theorem negOf_r {a b : Int} (h : b ≠ 0) : negOf a (-b) = !negOf a b := by
  unfold negOf
  by_cases h1 : b < 0
  · rw [decide_eq_true h1, decide_eq_false (show ¬ -b < 0 by omega)]; cases decide (a < 0) <;> rfl
  · rw [decide_eq_false h1, decide_eq_true (show -b < 0 by omega)]; cases decide (a < 0) <;> rfl
theorem prod_sign (a b : Int) : mulV (negOf a b) (a.natAbs * b.natAbs) 1000000 = -mulV (negOf (-a) b) ((-a).natAbs * b.natAbs) 1000000 := by
  rw [Int.natAbs_neg]
  by_cases h : a = 0
  · subst h; simp only [Int.natAbs_zero, Nat.zero_mul]; rw [mulV_zero _ _ (by omega), mulV_zero _ _ (by omega)]; rfl
  · rw [negOf_l h, mulV_neg]
theorem quo_sign {a b : Int} (h : b ≠ 0) : mulV (negOf a b) (a.natAbs * 1000000) b.natAbs = -mulV (negOf a (-b)) (a.natAbs * 1000000) (-b).natAbs := by
  rw [Int.natAbs_neg, negOf_r h, mulV_neg]
theorem text_minus {a : Int} (h : 0 < a) : (⟨(txt (-a)).toArray⟩ : ByteArray) = (⟨#[45]⟩ : ByteArray) ++ ⟨(txt a).toArray⟩ := by
  have e : txt (-a) = 45 :: txt a := by unfold txt; rw [if_pos (by omega), if_neg (by omega), Int.natAbs_neg]
  rw [e]
  have e2 : ((⟨#[45]⟩ : ByteArray) ++ ⟨(txt a).toArray⟩).data = (45 :: txt a).toArray := by
    rw [ByteArray.data_append]; simp
  exact (ByteArray.ext e2).symm
theorem len_txt (A : Int) (ha : -9223372036854775807 ≤ A ∧ A ≤ 9223372036854775807) : (⟨(txt A).toArray⟩ : ByteArray).size ≤ 21 := by
  have := len_txtAbs A.natAbs (by omega)
  show (txt A).toArray.size ≤ 21
  rw [List.size_toArray]
  unfold txt
  split
  · rw [List.length_cons]; omega
  · omega

set_option maxHeartbeats 1600000 in
theorem walk (a b : Int) (w : World) (wa : (Lit.int .i64 a).wf = true) (wb : (Lit.int .i64 b).wf = true) :
    Calls Try.prog 9 #[.int .i64 a, .int .i64 b] w fun e w' => e = .returned (.bool true) ∧ Below w.heap.size w w' := by
  have ha := rt_bd a (bounds_i64 wa)
  have hb := rt_bd b (bounds_i64 wb)
  obtain ⟨A, hA⟩ : ∃ A, rt a = A := ⟨_, rfl⟩
  obtain ⟨B, hB⟩ : ∃ B, rt b = B := ⟨_, rfl⟩
  rw [hA] at ha
  rw [hB] at hb
  have HA := Lib.hid hA
  have HB := Lib.hid hB
  clear hA hB wa wb
  have c1 := fun w => mul_any A B w ha hb
  have c2 := fun w => mul_any (-A) B w (by omega) hb
  have c4 := fun (h : B ≠ 0) w => quo_any A B w ha hb h
  have c5 := fun (h : B ≠ 0) w => quo_any A (-B) w ha (by omega) (by omega)
  have s1 := prod_sign A B
  have s2 := fun (h : B ≠ 0) => quo_sign (a := A) h
  have b1 := mulV_bd (negOf (-A) B) ((-A).natAbs * B.natAbs) 1000000
  have b2 := mulV_bd (negOf A (-B)) (A.natAbs * 1000000) (-B).natAbs
  unfold MulEnd at c1 c2 c4 c5
  rw [Int.natAbs_neg] at c2 c5 s1 s2 b1 b2
  obtain ⟨V, hV⟩ : ∃ V, mulV (negOf A B) (A.natAbs * B.natAbs) 1000000 = V := ⟨_, rfl⟩
  obtain ⟨V', hV'⟩ : ∃ V, mulV (negOf (-A) B) (A.natAbs * B.natAbs) 1000000 = V := ⟨_, rfl⟩
  obtain ⟨K, hK⟩ : ∃ V, mulOk (A.natAbs * B.natAbs) 1000000 = V := ⟨_, rfl⟩
  obtain ⟨V2, hV2⟩ : ∃ V, mulV (negOf A B) (A.natAbs * 1000000) B.natAbs = V := ⟨_, rfl⟩
  obtain ⟨V2', hV2'⟩ : ∃ V, mulV (negOf A (-B)) (A.natAbs * 1000000) B.natAbs = V := ⟨_, rfl⟩
  obtain ⟨K2, hK2⟩ : ∃ V, mulOk (A.natAbs * 1000000) B.natAbs = V := ⟨_, rfl⟩
  rw [hV, hK] at c1
  rw [hV', hK] at c2
  rw [hV2, hK2] at c4
  rw [hV2', hK2] at c5
  rw [hV, hV'] at s1
  rw [hV2, hV2'] at s2
  rw [hV'] at b1
  rw [hV2'] at b2
  have t1 : (V == -V') = true := by rw [s1]; simp
  have C1 := Lib.hid c1
  have C2 := Lib.hid c2
  have C4 := Lib.hid c4
  have C5 := Lib.hid c5
  have S2 := Lib.hid s2
  clear c1 c2 c4 c5 hV hK hV2 hK2 hV' hV2' s1 s2
  have hlA := len_txt A ha
  have hlA' := len_txt (-A) (by omega)
  go_enter Try.func9, Try.ntmps9
  go_wp2_with fail
  refine (fit_any _).mono ?_
  rintro e w1 ⟨rfl, hb1⟩
  go_wp2_with fail
  refine (right_any a _).mono ?_
  rintro e w' ⟨rfl, rfl⟩
  rw [HA.out]
  go_wp2_with fail
  refine (right_any b _).mono ?_
  rintro e w' ⟨rfl, rfl⟩
  rw [HB.out]
  go_wp2_with fail
  refine (C1.out _).mono ?_
  rintro e w2 ⟨rfl, hb2⟩
  have hB2 := hb1.trans (hb2.mono hb1.size)
  clear hb1 hb2
  go_wp2_with fail
  refine (C2.out _).mono ?_
  rintro e w3 ⟨rfl, hb3⟩
  have hB3 := hB2.trans (hb3.mono hB2.size)
  clear hB2 hb3
  go_wp2_with fail
  by_cases hB0 : B = 0
  · subst hB0
    refine (quo_zero A _).mono ?_
    rintro e w' ⟨rfl, rfl⟩
    go_wp2_with fail
    refine (quo_zero A _).mono ?_
    rintro e w' ⟨rfl, rfl⟩
    go_wp2_with fail
    refine (print_any A _ ha).mono ?_
    rintro e w7 ⟨rfl, hb7⟩
    have hB7 := hB3.trans (hb7.mono hB3.size)
    clear hB3 hb7
    go_wp2_with fail
    refine (print_any (-A) _ (by omega)).mono ?_
    rintro e w8 ⟨rfl, hb8⟩
    have hB8 := hB7.trans (hb8.mono hB7.size)
    clear hB7 hb8
    by_cases hz : A = 0
    · subst hz
      rw [show (-(0 : Int)) = 0 from rfl]
      generalize (⟨(txt 0).toArray⟩ : ByteArray) = s at *
      cases K
      all_goals
        go_wp2
        go_ret
        exact ⟨rfl, hB8⟩
    · have hz0 : (A == 0) = false := by simp; omega
      by_cases hp : 0 < A
      · rw [text_minus hp]
        generalize (⟨(txt A).toArray⟩ : ByteArray) = s at *
        clear hz
        cases K
        all_goals
          go_wp2
          go_ret
          exact ⟨rfl, hB8⟩
      · have hn : A < 0 := by omega
        have e := text_minus (show 0 < -A by omega)
        rw [Int.neg_neg] at e
        rw [e]
        generalize (⟨(txt (-A)).toArray⟩ : ByteArray) = s at *
        clear hz e
        cases K
        all_goals
          go_wp2
          go_ret
          exact ⟨rfl, hB8⟩
  · refine (C4.out hB0 _).mono ?_
    rintro e w4 ⟨rfl, hb4⟩
    have hB4 := hB3.trans (hb4.mono hB3.size)
    clear hB3 hb4
    go_wp2_with fail
    refine (C5.out hB0 _).mono ?_
    rintro e w5 ⟨rfl, hb5⟩
    have hB5 := hB4.trans (hb5.mono hB4.size)
    have t2 : (V2 == -V2') = true := by rw [S2.out hB0]; simp
    clear hB4 hb5
    go_wp2_with fail
    refine (print_any A _ ha).mono ?_
    rintro e w7 ⟨rfl, hb7⟩
    have hB7 := hB5.trans (hb7.mono hB5.size)
    clear hB5 hb7
    go_wp2_with fail
    refine (print_any (-A) _ (by omega)).mono ?_
    rintro e w8 ⟨rfl, hb8⟩
    have hB8 := hB7.trans (hb8.mono hB7.size)
    clear hB7 hb8
    by_cases hz : A = 0
    · subst hz
      rw [show (-(0 : Int)) = 0 from rfl]
      generalize (⟨(txt 0).toArray⟩ : ByteArray) = s at *
      cases K <;> cases K2
      all_goals
        go_wp2
        go_ret
        exact ⟨rfl, hB8⟩
    · have hz0 : (A == 0) = false := by simp; omega
      by_cases hp : 0 < A
      · rw [text_minus hp]
        generalize (⟨(txt A).toArray⟩ : ByteArray) = s at *
        clear hz
        cases K <;> cases K2
        all_goals
          go_wp2
          go_ret
          exact ⟨rfl, hB8⟩
      · have hn : A < 0 := by omega
        have e := text_minus (show 0 < -A by omega)
        rw [Int.neg_neg] at e
        rw [e]
        generalize (⟨(txt (-A)).toArray⟩ : ByteArray) = s at *
        clear hz e
        cases K <;> cases K2
        all_goals
          go_wp2
          go_ret
          exact ⟨rfl, hB8⟩
end numSigns
end Go.Proofs.Ytcalgokkibhpeaa
