/-
  MathsSigns: walk. Conditions: the argument's own.
-/
import Derived.Test.YtiddefbjnhhiiaaMathsE
namespace Go.Proofs.Ytiddefbjnhhiiaa.mathsSigns
open Go.RowKit Num
set_option linter.unusedVariables false
set_option linter.unusedSimpArgs false

theorem abs_neg (a : Int) : absV (-a) = absV a := by unfold absV; split <;> split <;> omega
theorem sgn_neg (a : Int) : oN (ofO (sgnV (-a))) = -oN (ofO (sgnV a)) ∧ (oN (ofO (sgnV a)) = 1000000 ∨ oN (ofO (sgnV a)) = 0 ∨ oN (ofO (sgnV a)) = -1000000) := by
  unfold sgnV
  rcases Int.lt_trichotomy a 0 with h | h | h
  · rw [if_neg (by omega), if_neg (by omega), if_pos h]; decide
  · subst h; decide
  · rw [if_pos (by omega), if_neg (by omega), if_neg (by omega)]; decide
theorem trunc_neg (a : Int) : -a - (-a).tmod 1000000 = -(a - a.tmod 1000000) := by rw [Int.neg_tmod]; omega

set_option maxHeartbeats 1600000 in
set_option maxRecDepth 100000 in
theorem walk (a : Int) (w : World) (wa : (Lit.int .i64 a).wf = true) :
    Calls Try.prog 7 #[.int .i64 a] w fun e w' => e = .returned (.bool true) ∧ Below w.heap.size w w' := by
  have ha := bounds_i64 wa
  clear wa
  obtain ⟨b, hb⟩ : ∃ b, rightV a = b := ⟨_, rfl⟩
  have hbm : Mant b := by rw [← hb]; exact rightV_mant ha
  have hnm : Mant (-b) := by unfold Mant at *; omega
  have hrt := fun w => right_any a w
  rw [hb] at hrt
  have HRT := Lib.hid hrt
  have HBM := Lib.hid hbm
  have HNM := Lib.hid hnm
  obtain ⟨b1, b2⟩ := hbm
  clear hrt hb hnm
  have fd := vfield1
  go_enter Try.func7, Try.ntmps7
  go_wp2_with fail
  refine (fit_any _).mono ?_
  rintro e w1 ⟨rfl, hE1⟩
  go_wp2_with fail
  refine (HRT.out _).mono ?_
  rintro e w2 ⟨rfl, hE2'⟩
  have hE2 := hE1.trans hE2'
  clear hE1 hE2'
  obtain ⟨t, ht⟩ : ∃ t, b - b.tmod 1000000 = t := ⟨_, rfl⟩
  have htb : Mant t ∧ (0 ≤ b → t = b / 1000000 * 1000000) ∧ (b < 0 → t = -((-b) / 1000000 * 1000000)) := by
    rw [← ht, tmod_if b _]
    unfold Mant
    split <;> omega
  have c1 := fun w => one_trunc b w HBM.out
  have c2 := fun w => one_trunc (-b) w HNM.out
  have c3 := fun w => one_int b w HBM.out
  rw [trunc_neg, ht] at c2
  rw [ht] at c1
  have HT := Lib.hid ht
  have HTB := Lib.hid htb
  obtain ⟨⟨t1, t2⟩, -, -⟩ := htb
  obtain ⟨K, hK⟩ : ∃ K, oK (floO b) = K := ⟨_, rfl⟩
  obtain ⟨N, hN⟩ : ∃ N, oN (floO b) = N := ⟨_, rfl⟩
  rw [hK, hN] at c3
  have hf : K = 4 ∨ (K = 1 ∧ N ≤ t ∧ t - N ≤ 1000000 ∧ Mant N) := by
    rw [← hK, ← hN, floO]
    split
    · rename_i hm
      refine .inr ⟨rfl, ?_⟩
      show b - b % 1000000 ≤ t ∧ t - (b - b % 1000000) ≤ 1000000 ∧ Mant (b - b % 1000000)
      have := HTB.out
      unfold Mant
      rcases Int.lt_or_le b 0 with h | h
      · have := this.2.2 h; omega
      · have := this.2.1 h; omega
    · exact .inl rfl
  have C1 := Lib.hid c1
  have C2 := Lib.hid c2
  have C3 := Lib.hid c3
  have HF := Lib.hid hf
  clear ht c1 c2 c3 hK hN hf
  go_wp2_with fail
  refine (C1.out _).mono ?_
  rintro e w3 ⟨rfl, hE3'⟩
  have hE3 := hE2.trans hE3'
  clear hE2 hE3'
  go_wp2_with fail
  refine (C2.out _).mono ?_
  rintro e w4 ⟨rfl, hE4'⟩
  have hE4 := hE3.trans hE4'
  clear hE3 hE4'
  obtain ⟨W5, hW5, hE5, hX5, hs5⟩ := box_new w4 1 t { data := #[] }
  obtain ⟨W6, hW6, hE6, hX6, hs6⟩ := box_new W5 1 (-t) { data := #[] }
  have HW5 := Lib.hid hW5
  have HW6 := Lib.hid hW6
  clear hW5 hW6
  go_wp2_with fail
  rw [HW5.out, HW6.out]
  refine (C3.out _).mono ?_
  rintro e w7 ⟨rfl, hE7⟩
  obtain ⟨W8, hW8, hE8, hX8, hs8⟩ := box_new w7 K N { data := #[] }
  have HW8 := Lib.hid hW8
  have hb8 : Ext w W8 := ((hE4.trans hE5).trans hE6).trans (Ext.trans hE7 hE8)
  rw [hs5] at hX6
  obtain ⟨x0, x1, x2, x3⟩ := hX5.step ((hE6.trans hE7).trans hE8)
  obtain ⟨y0, y1, y2, y3⟩ := hX6.step (Ext.trans hE7 hE8)
  obtain ⟨z0, z1, z2, z3⟩ := hX8
  simp only at x1 x2 x3 y1 y2 y3 z1 z2 z3
  have d1 := ext_cell x0 x2
  have d2 := ext_cell y0 y2
  have d3 := ext_cell z0 z1
  have d4 := ext_cell z0 z2
  have e1 : CallE Try.prog W8 _ _ _ := fun w' _ => one_abs b w' HBM.out
  have e2 : CallE Try.prog W8 _ _ _ := fun w' _ => one_abs (-b) w' HNM.out
  have e3 : CallE Try.prog W8 _ _ _ := fun w' _ => one_sign b w' HBM.out
  have e4 : CallE Try.prog W8 _ _ _ := fun w' _ => one_sign (-b) w' HNM.out
  have e5 : CallE Try.prog W8 _ _ _ := fun w' _ => one_even b w' HBM.out
  have e6 : CallE Try.prog W8 _ _ _ := fun w' _ => right_call _ _ (ofO_mant (awayN b false)) (vr_of (awayN b false)) w'
  have e7 : CallE Try.prog W8 _ _ _ := fun w' _ => one_fact b w' HBM.out
  have e8 : CallE Try.prog W8 _ _ _ := fun w' _ => right_call _ _ (oN_mant (factO_bd b)) (vr_o (factO_bd b)) w'
  have hsg := sgn_neg b
  rw [abs_neg] at e2
  rw [hsg.1] at e4
  obtain ⟨S, hS⟩ : ∃ S, oN (ofO (sgnV b)) = S := ⟨_, rfl⟩
  rw [hS] at e3 e4 hsg
  have hS3 : S = 1000000 ∨ S = 0 ∨ S = -1000000 := hsg.2
  have hS4 : -1000000 ≤ S ∧ S ≤ 1000000 := by omega
  generalize oK (ofO (sgnV b)) = k3 at *
  generalize oK (ofO (sgnV (-b))) = k4 at *
  generalize oK (ofO (awayN b false)) = k5 at *
  generalize oN (ofO (awayN b false)) = n5 at *
  generalize oK (factO b) = k6 at *
  generalize oN (factO b) = n6 at *
  generalize absV b = A at *
  have hr : Ext W8 W8 := Ext.refl _
  have hf := HF.out
  clear hW8 hE4 hE5 hE6 hE7 hE8 hX5 hX6 hs5 hs6 hs8 HW5 HW6 hsg hS hS3 HF
  rcases hf with rfl | ⟨rfl, f1, f2, f3, f4⟩
  · go_upto_region 6 with (fail)
    rw [HW8.out]
    go_wp2_with (first | ((with_reducible refine (CallE.at_ (by assumption) (by assumption)).mono ?_); rintro e w' ⟨rfl, hEx⟩))
    go_ret
    exact ⟨rfl, hb8.trans (by assumption)⟩
  · go_upto_region 6 with (fail)
    rw [HW8.out]
    go_wp2_with (first | ((with_reducible refine (CallE.at_ (by assumption) (by assumption)).mono ?_); rintro e w' ⟨rfl, hEx⟩))
    go_ret
    exact ⟨rfl, hb8.trans (by assumption)⟩
end Go.Proofs.Ytiddefbjnhhiiaa.mathsSigns
