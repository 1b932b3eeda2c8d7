/-
  MathsRounds: walk. Conditions: the arguments' own.
-/
import Derived.Test.YtiddefbjnhhiiaaMathsE
namespace Go.Proofs.Ytiddefbjnhhiiaa.mathsRounds
open Go.RowKit Num
set_option linter.unusedVariables false
set_option linter.unusedSimpArgs false

theorem parts (a u : Int) (hu : 1 ≤ u) : ∃ q r y, a.tdiv u = q ∧ a.tmod u = r ∧ q * u = y ∧ a = y + r ∧ (0 ≤ a → 0 ≤ q ∧ 0 ≤ r ∧ r < u) ∧ (a < 0 → q ≤ 0 ∧ -u < r ∧ r ≤ 0) := by
  refine ⟨_, _, _, rfl, rfl, rfl, ?_, ?_, ?_⟩
  · have := Int.tmod_def a u
    rw [Int.mul_comm] at this
    omega
  · intro h
    rw [tmod_if a u, if_pos h, tdiv_if a u (by omega), if_pos h]
    exact ⟨Int.ediv_nonneg h (by omega), Int.emod_nonneg a (by omega), Int.emod_lt_of_pos a (by omega)⟩
  · intro h
    rw [tmod_if a u, if_neg (by omega), tdiv_if a u (by omega), if_neg (by omega)]
    have h1 := Int.ediv_nonneg (a := -a) (b := u) (by omega) (by omega)
    have h2 := Int.emod_nonneg (-a) (b := u) (by omega)
    have h3 := Int.emod_lt_of_pos (-a) (b := u) (by omega)
    omega
theorem rnd_err {a u : Int} (hu : 1 ≤ u) (h : rndO a u = none) : (0 ≤ a → 9223372036854775807 - u < a) ∧ (a < 0 → 9223372036854775807 - u < -a) := by
  obtain ⟨q, r, y, hq, hr, hy, ha, h1, h2⟩ := parts a u hu
  unfold rndO at h
  split at h
  · rename_i hc
    have hm1 := Int.ediv_mul_le 9223372036854775807 (b := u) (by omega)
    have hm2 := Int.lt_ediv_add_one_mul_self 9223372036854775807 (b := u) (by omega)
    have hm0 : 0 ≤ (9223372036854775807 : Int) / u := Int.ediv_nonneg (by omega) (by omega)
    obtain ⟨m, hm⟩ : ∃ m, (9223372036854775807 : Int) / u = m := ⟨_, rfl⟩
    rw [hm] at hc hm1 hm2 hm0
    rw [Int.add_mul, Int.one_mul] at hm2
    obtain ⟨z, hz⟩ : ∃ z, m * u = z := ⟨_, rfl⟩
    rw [hz] at hm1 hm2
    unfold rndQ at hc
    rw [hq, hr] at hc
    refine ⟨fun h0 => ?_, fun h0 => ?_⟩
    · obtain ⟨g1, g2, g3⟩ := h1 h0
      have hqm : m ≤ q := by
        simp only [show ¬ r < 0 by omega, if_false, show ¬ a < 0 by omega] at hc
        split at hc <;> omega
      have h5 : m * u ≤ q * u := Int.mul_le_mul_of_nonneg_right hqm (by omega)
      omega
    · obtain ⟨g1, g2, g3⟩ := h2 h0
      have hqm : q ≤ -m := by
        simp only [h0, if_true] at hc
        split at hc
        · split at hc <;> omega
        · split at hc <;> omega
      have h5 : q * u ≤ -m * u := Int.mul_le_mul_of_nonneg_right hqm (by omega)
      rw [Int.neg_mul] at h5
      omega
  · cases h
theorem rnd_near {a u V : Int} (hu : 1 ≤ u) (h : rndO a u = some V) : V.tmod u = 0 ∧ (0 ≤ a → 2 * (V - a) ≤ u ∧ -u < 2 * (V - a)) ∧ (a < 0 → 2 * (a - V) ≤ u ∧ -u < 2 * (a - V)) := by
  obtain ⟨q, r, y, hq, hr, hy, ha, h1, h2⟩ := parts a u hu
  unfold rndO at h
  split at h
  · cases h
  · cases h
    refine ⟨Int.mul_tmod_left _ _, ?_, ?_⟩
    all_goals
      intro h0
      unfold rndQ
      rw [hq, hr]
    · obtain ⟨g1, g2, g3⟩ := h1 h0
      simp only [show ¬ r < 0 by omega, if_false, show ¬ a < 0 by omega]
      split
      · rw [Int.add_mul, Int.one_mul, hy]; omega
      · rw [hy]; omega
    · obtain ⟨g1, g2, g3⟩ := h2 h0
      simp only [h0, if_true]
      split
      · split
        · rw [Int.sub_mul, Int.one_mul, hy]; omega
        · rw [hy]; omega
      · split
        · rw [Int.sub_mul, Int.one_mul, hy]; omega
        · rw [hy]; omega
theorem rnd_mant {a u V : Int} (hu : 1 ≤ u) (h : rndO a u = some V) : Mant V := by
  unfold rndO at h
  split at h
  · cases h
  · rename_i hc
    cases h
    obtain ⟨Q, hQ⟩ : ∃ Q, rndQ a u = Q := ⟨_, rfl⟩
    rw [hQ] at hc ⊢
    have h1 := Int.ediv_mul_le 9223372036854775807 (b := u) (by omega)
    obtain ⟨m, hm⟩ : ∃ m, (9223372036854775807 : Int) / u = m := ⟨_, rfl⟩
    rw [hm] at h1 hc
    have h5 : Q * u ≤ m * u := Int.mul_le_mul_of_nonneg_right (by omega) (by omega)
    have h6 : -m * u ≤ Q * u := Int.mul_le_mul_of_nonneg_right (by omega) (by omega)
    rw [Int.neg_mul] at h6
    unfold Mant
    omega
theorem round7 (b : Int) : roundO b 7000000 = none := by
  unfold roundO
  rw [show (7000000 : Int).tdiv 1000000 = 7 by decide, if_pos (by omega)]

set_option maxHeartbeats 1600000 in
set_option maxRecDepth 100000 in
theorem walk (a d : Int) (w : World) (wa : (Lit.int .i64 a).wf = true) (wd : (Lit.int .i64 d).wf = true) :
    Calls Try.prog 3 #[.int .i64 a, .int .i64 d] w fun e w' => e = .returned (.bool true) ∧ Below w.heap.size w w' := by
  have ha := bounds_i64 wa
  have hd := bounds_i64 wd
  clear wa wd
  obtain ⟨b, hb⟩ : ∃ b, rightV a = b := ⟨_, rfl⟩
  have hbm : Mant b := by rw [← hb]; exact rightV_mant ha
  have hrt := fun w => right_any a w
  rw [hb] at hrt
  have HRT := Lib.hid hrt
  have HBM := Lib.hid hbm
  obtain ⟨b1, b2⟩ := hbm
  obtain ⟨m, hm⟩ : ∃ m, d.tmod 7 = m := ⟨_, rfl⟩
  have hmb : -7 < m ∧ m < 7 := by rw [← hm, tmod_if d 7]; split <;> omega
  obtain ⟨x, hx⟩ : ∃ x, (m + 7) % 7 = x := ⟨_, rfl⟩
  have hxb : 0 ≤ x ∧ x < 7 := by omega
  obtain ⟨n, hn⟩ : ∃ n, (x - 3) * 1000000 = n := ⟨_, rfl⟩
  have hnm : Mant n := by unfold Mant; omega
  have hnd : n.tdiv 1000000 = x - 3 := by rw [← hn]; exact Int.mul_tdiv_cancel _ (by decide)
  obtain ⟨k, hk⟩ : ∃ k : Nat, 6 - (x - 3) = (k : Int) := ⟨(6 - (x - 3)).toNat, by omega⟩
  have hk12 : k ≤ 12 := by omega
  have hR : ∀ z, roundO z n = rndO z (10 ^ k) := by
    intro z
    unfold roundO
    rw [hnd, if_neg (by omega), show (6 - (x - 3)).toNat = k by omega]
  have hc1 := fun w => two_round b n w HBM.out hnm
  rw [hR] at hc1
  have HC1 := Lib.hid hc1
  have rn : IntKind.i64.wrap n = n := by unfold Mant at hnm; rw [IntKind.wrap_i64]; omega
  clear hrt hb hnd hR hc1 hnm
  go_enter Try.func3, Try.ntmps3
  go_wp2_with fail
  refine (fit_any _).mono ?_
  rintro e w1 ⟨rfl, hE1⟩
  go_wp2_with fail
  refine (HRT.out _).mono ?_
  rintro e w2 ⟨rfl, hE2'⟩
  have hE2 := hE1.trans hE2'
  clear hE1 hE2'
  obtain ⟨o, ho⟩ : ∃ o, rndO b (10 ^ k) = o := ⟨_, rfl⟩
  obtain ⟨K, hK⟩ : ∃ K, oK o = K := ⟨_, rfl⟩
  obtain ⟨N, hN⟩ : ∃ N, oN o = N := ⟨_, rfl⟩
  have hc1 := HC1.out
  rw [ho, hK, hN] at hc1
  have HO := Lib.hid ho
  have HK := Lib.hid hK
  have HN := Lib.hid hN
  have HC := Lib.hid hc1
  clear ho hc1 hK hN HC1
  go_wp2_with fail
  refine (HC.out _).mono ?_
  rintro e w3 ⟨rfl, hE3⟩
  have hE3b := hE2.trans hE3
  obtain ⟨W4, hW4, hE4, hX4, hs4⟩ := box_new w3 K N { data := #[] }
  have HW4 := Lib.hid hW4
  have hEw := Ext.trans hE3b hE4
  obtain ⟨x0, x1, x2, x3⟩ := hX4
  simp only at x1 x2 x3
  clear hW4 hE2 hE3 hE3b hE4 hs4
  go_wp2_with fail
  rw [HW4.out]
  clear HW4 hx hm hn rn hmb hxb
  go_loop [6, 23] (fun su si => ∃ (i : Nat) (u : Int), i ≤ k ∧ si = .int .i64 (i : Int) ∧ su = .int .i64 u ∧ Hid (u = 10 ^ i) ∧ 1 ≤ u ∧ u ≤ 1000000000000) (fun _ si => k - (intOf si).toNat)
  case atStart => exact ⟨0, 1, by omega, rfl, rfl, rfl, by omega, by omega⟩
  case round =>
    obtain ⟨i, u, hi, rfl, rfl, HU, hu1, hu2⟩ := hrel
    by_cases hlt : i < k
    · have hu3 : Hid (u * 10 = 10 ^ (i + 1)) := by show _ = _; rw [HU.out, Int.pow_succ]
      have hu4 : u * 10 ≤ 1000000000000 := by
        rw [hu3.out]
        have h1 : (10 : Int) ^ (i + 1) = ((10 ^ (i + 1) : Nat) : Int) := by push_cast; rfl
        have h2 : (10 : Nat) ^ (i + 1) ≤ 10 ^ 12 := Nat.pow_le_pow_right (by omega) (by omega)
        omega
      go_wp2_with fail
      go_round
      case rel => exact ⟨i + 1, u * 10, by omega, by go_num, rfl, hu3.out, by omega, hu4⟩
      case measure => simp [intOf]; omega
    · obtain rfl : i = k := by omega
      have ho := HO.out
      rw [← HU.out] at ho
      cases o with
      | none =>
        obtain rfl : (4 : Int) = K := HK.out
        obtain ⟨f1, f2⟩ := rnd_err hu1 ho
        clear ho
        by_cases hb0 : b < 0
        · have g := f2 hb0
          have g2 : b < -b := by omega
          clear f1 f2
          go_wp2_with fail
          go_ret
          exact ⟨rfl, hEw⟩
        · have g := f1 (by omega)
          have g2 : ¬ b < -b := by omega
          clear f1 f2
          go_wp2_with fail
          go_ret
          exact ⟨rfl, hEw⟩
      | some V =>
        obtain rfl : (1 : Int) = K := HK.out
        obtain rfl : V = N := HN.out
        obtain ⟨v1, v2, v3⟩ := rnd_near hu1 ho
        obtain ⟨V1, V2⟩ := rnd_mant hu1 ho
        have hu0 : ¬ u = 0 := by omega
        have e1 : CallE Try.prog W4 _ _ _ := fun w' _ => two_round b 7000000 w' HBM.out (by unfold Mant; omega)
        have e2 : CallE Try.prog W4 _ _ _ := fun w' _ => vfail_any 5 w'
        rw [round7] at e1
        have hr : Ext W4 W4 := Ext.refl _
        clear ho HO HK HN
        by_cases hb0 : b < 0
        · obtain ⟨g1, g2⟩ := v3 hb0
          clear v2 v3
          go_wp2_with (first | ((with_reducible refine (CallE.at_ (by assumption) (by assumption)).mono ?_); rintro e w' ⟨rfl, hEx⟩))
          go_ret
          exact ⟨rfl, hEw.trans (by assumption)⟩
        · obtain ⟨g1, g2⟩ := v2 (by omega)
          clear v2 v3
          go_wp2_with (first | ((with_reducible refine (CallE.at_ (by assumption) (by assumption)).mono ?_); rintro e w' ⟨rfl, hEx⟩))
          go_ret
          exact ⟨rfl, hEw.trans (by assumption)⟩
end Go.Proofs.Ytiddefbjnhhiiaa.mathsRounds
