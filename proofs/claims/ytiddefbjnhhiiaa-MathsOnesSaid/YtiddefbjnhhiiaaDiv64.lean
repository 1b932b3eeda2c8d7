/-
  math/bits.Div64: the walk. Conditions: the divisor is greater than the higher half.
-/
import Derived.Test.YtiddefbjnhhiiaaLen64
import Derived.Test.YtiddefbjnhhiiaaDivP
import Derived.Test.YtiddefbjnhhiiaaBits
import Derived.BigQuiet
import Derived.Deep.QuietTactic
import Derived.Laws.BitsLemmas
import Derived.WalkSmall
namespace Go.Proofs.Ytiddefbjnhhiiaa
open Go.RowKit Dv
set_option linter.unusedVariables false

theorem wraps_u64 (n : Int) (h₀ : 0 ≤ n) (h₁ : n < 2 ^ 64) : IntKind.u64.wrap n = n := by rw [IntKind.wrap_u64]; omega

set_option maxHeartbeats 4000000 in
theorem div64_pos (hi lo y : Nat) (w : World) (h0 : 1 ≤ hi) (h1 : hi < y) (hy : y < 18446744073709551616) (hl : lo < 18446744073709551616) :
    Calls Try.prog 33 #[.int .u64 (hi : Int), .int .u64 (lo : Int), .int .u64 (y : Int)] w fun e w' => e = .returned (.tuple #[.int .u64 (((hi * 18446744073709551616 + lo) / y : Nat) : Int), .int .u64 (((hi * 18446744073709551616 + lo) % y : Nat) : Int)]) ∧ w = w' := by
  obtain ⟨QF, hQF⟩ : ∃ a, (hi * 18446744073709551616 + lo) / y = a := ⟨_, rfl⟩
  obtain ⟨RF, hRF⟩ : ∃ a, (hi * 18446744073709551616 + lo) % y = a := ⟨_, rfl⟩
  rw [hQF, hRF]
  have HQF := Lib.hid hQF
  have HRF := Lib.hid hRF
  clear hQF hRF
  have t1 : ((y : Int) == 0) = false := by simp; omega
  have t2 : ((hi : Int) == 0) = false := by simp; omega
  have t3 : (hi : Int) < (y : Int) := by omega
  go_enter Try.func33, Try.ntmps33
  go_wp2_with fail
  refine (lz_any y _ (by omega) (by omega)).mono ?_
  rintro e w' ⟨s, rfl, hs, hY1, hY2, rfl⟩
  rw [Int.toNat_natCast] at hY1 hY2
  have hH2 : hi * 2 ^ s < 18446744073709551616 := Nat.lt_of_le_of_lt (Nat.mul_le_mul_right _ (by omega)) hY2
  have hlow := low_part lo s hs hl
  have hhv := halves hi lo s hs hl
  have hsh := shifted (hi * 18446744073709551616 + lo) y s (by omega)
  obtain ⟨Y, hY⟩ : ∃ Y, y * 2 ^ s = Y := ⟨_, rfl⟩
  obtain ⟨M, hM⟩ : ∃ M, lo * 2 ^ s % 18446744073709551616 = M := ⟨_, rfl⟩
  obtain ⟨U, hU⟩ : ∃ U, hi * 2 ^ s + lo / 2 ^ (64 - s) = U := ⟨_, rfl⟩
  have hUY : U < Y := by
    rw [← hU, ← hY]
    have hle : (hi + 1) * 2 ^ s ≤ y * 2 ^ s := Nat.mul_le_mul_right _ (by omega)
    rw [Nat.add_mul, Nat.one_mul] at hle
    omega
  have eYs : IntKind.u64.wrap ((y : Int) * 2 ^ s) = (Y : Int) := by
    rw [← hY]
    have : ((y : Int) * 2 ^ s) = ((y * 2 ^ s : Nat) : Int) := by push_cast; rfl
    rw [this]; exact M64.wrapN _ hY2
  have eH : IntKind.u64.wrap ((hi : Int) * 2 ^ s) = ((hi * 2 ^ s : Nat) : Int) := by
    have : ((hi : Int) * 2 ^ s) = ((hi * 2 ^ s : Nat) : Int) := by push_cast; rfl
    rw [this]; exact M64.wrapN _ hH2
  have eL : (lo : Int) / 2 ^ (64 - s) = ((lo / 2 ^ (64 - s) : Nat) : Int) := by push_cast; rfl
  have eO : bits .or .u64 ((hi * 2 ^ s : Nat) : Int) ((lo / 2 ^ (64 - s) : Nat) : Int) = (U : Int) := by
    rw [bits_join .u64 64 (by decide) wraps_u64 s _ _ (Int.natCast_nonneg _) (by push_cast; exact Int.mul_emod_left _ _) (by exact_mod_cast hH2) (Int.natCast_nonneg _) (by exact_mod_cast hlow) (by have : lo / 2 ^ (64 - s) < 2 ^ 64 := Nat.lt_of_lt_of_le hlow (Nat.pow_le_pow_right (by omega) (by omega)); exact_mod_cast this), ← hU]
    push_cast; rfl
  have eU : bits .or .u64 (IntKind.u64.wrap ((hi : Int) * 2 ^ s)) ((lo : Int) / 2 ^ (64 - s)) = (U : Int) := by rw [eH, eL, eO]
  have eM : IntKind.u64.wrap ((lo : Int) * 2 ^ s) = (M : Int) := by
    rw [← hM]
    have : ((lo : Int) * 2 ^ s) = ((lo * 2 ^ s : Nat) : Int) := by push_cast; rfl
    rw [this]; exact M64.wrapM _
  have hM64 : M < 18446744073709551616 := by rw [← hM]; exact Nat.mod_lt _ (by omega)
  rw [hY] at hY1 hY2
  rw [hM, hU] at hhv
  rw [hhv, hY] at hsh
  have HSH := Lib.hid hsh
  clear eH eL eO hsh hhv hM hU hlow hH2
  have HYs := Lib.hid hY
  clear hY
  obtain ⟨yn1, hyn1⟩ : ∃ a, Y / 4294967296 = a := ⟨_, rfl⟩
  obtain ⟨yn0, hyn0⟩ : ∃ a, Y % 4294967296 = a := ⟨_, rfl⟩
  obtain ⟨un1, hun1⟩ : ∃ a, M / 4294967296 = a := ⟨_, rfl⟩
  obtain ⟨un0, hun0⟩ : ∃ a, M % 4294967296 = a := ⟨_, rfl⟩
  have b1 : 2147483648 ≤ yn1 ∧ yn1 < 4294967296 := by omega
  have b2 : yn0 < 4294967296 := by omega
  have b3 : un1 < 4294967296 := by omega
  have b4 : un0 < 4294967296 := by omega
  obtain ⟨b1a, b1b⟩ := b1
  have eY1 : (Y : Int) / 4294967296 = (yn1 : Int) := by omega
  have eY0 : bits .and .u64 (Y : Int) 4294967295 = (yn0 : Int) := by rw [M64.maskN Y hY2, hyn0]
  have eM1 : (M : Int) / 4294967296 = (un1 : Int) := by omega
  have eM0 : bits .and .u64 (M : Int) 4294967295 = (un0 : Int) := by rw [M64.maskN M hM64, hun0]
  have hMs : M = un1 * 4294967296 + un0 := by omega
  have htd := two_digits Y U un1 un0 (by omega) b4
  rw [← hMs] at htd
  have HTD := Lib.hid htd
  clear htd hMs hun1 hun0
  have hst := di_start (u := un1) hY1 hY2 hUY b3
  rw [hyn1] at hst
  obtain ⟨hst1, hst2, hst3⟩ := hst
  obtain ⟨q0, hq0⟩ : ∃ a, U / yn1 = a := ⟨_, rfl⟩
  rw [hq0] at hst1 hst2 hst3
  obtain ⟨r0, hr0⟩ : ∃ a, U - q0 * yn1 = a := ⟨_, rfl⟩
  rw [hr0] at hst1 hst3
  have eq0 : (U : Int) / (yn1 : Int) = (q0 : Int) := by rw [← hq0]; push_cast; rfl
  have p1 : 0 ≤ (q0 : Int) * (yn1 : Int) ∧ (q0 : Int) * (yn1 : Int) ≤ (U : Int) := by
    have : (q0 : Int) * (yn1 : Int) = ((q0 * yn1 : Nat) : Int) := by push_cast; rfl
    rw [this]; omega
  obtain ⟨p1a, p1b⟩ := p1
  have er0 : (U : Int) - (q0 : Int) * (yn1 : Int) = (r0 : Int) := by
    have : (q0 : Int) * (yn1 : Int) = ((q0 * yn1 : Nat) : Int) := by push_cast; rfl
    rw [this]; omega
  have hq0b : q0 ≤ 4294967297 := hst1.2.2
  have hU64 : U < 18446744073709551616 := by omega
  have HST := Lib.hid hst1
  have HYN1 := Lib.hid hyn1
  have HYN0 := Lib.hid hyn0
  clear hst1 hst2 hq0 hr0 hyn1 hyn0
  go_wp2_with fail
  go_loop [15, 16] (fun sq sr => ∃ qa ra : Nat, DI Y U un1 qa ra ∧ ra < 4294967296 ∧ sq = .int .u64 (qa : Int) ∧ sr = .int .u64 (ra : Int)) (fun sq _ => (intOf sq).toNat)
  case atStart => exact ⟨q0, r0, HST.out, hst3, rfl, rfl⟩
  case round =>
    obtain ⟨qa, ra, hdi, hr, rfl, rfl⟩ := hrel
    have hqb : qa ≤ 4294967297 := hdi.2.2
    have hp := prod_le (q := qa) (z := yn0) hqb b2
    have hpc : (qa : Int) * (yn0 : Int) = ((qa * yn0 : Nat) : Int) := by push_cast; rfl
    have hp0 : 0 ≤ (qa : Int) * (yn0 : Int) := by rw [hpc]; omega
    have hp1 : (qa : Int) * (yn0 : Int) ≤ 18446744073709551615 := by rw [hpc]; omega
    by_cases hc : 4294967296 ≤ qa ∨ 4294967296 * ra + un1 < qa * yn0
    · have hmore := di_more hY1 hUY b3 hdi (by rw [HYN0.out]; exact hc)
      rw [HYN1.out] at hmore
      obtain ⟨m1, m2, m3⟩ := hmore
      obtain ⟨qb, hqb_⟩ : ∃ qb, qa - 1 = qb := ⟨_, rfl⟩
      rw [hqb_] at m2 m3
      have em : (qa : Int) - 1 = (qb : Int) := by omega
      have hlt : qb < qa := by omega
      have HM := Lib.hid m2
      have HC : Hid (¬ 4294967296 ≤ qa → 4294967296 * (ra : Int) + (un1 : Int) < (qa : Int) * (yn0 : Int)) := by
        show _ → _
        intro h4
        rcases hc with hc | hc
        · exact absurd hc h4
        · rw [hpc]; omega
      clear m2 hdi hqb_ hpc hc
      by_cases hbr : 4294967296 ≤ ra + yn1
      · have HQ : Hid (qb = (U * 4294967296 + un1) / Y) := di_break hY1 HM.out hbr m3
        have hbr' : 4294967296 ≤ (ra : Int) + (yn1 : Int) := by omega
        by_cases h4 : 4294967296 ≤ qa
        · have h4' : 4294967296 ≤ (qa : Int) := by omega
          have HQ1 := HQ
          clear HQ
          have hQ1 : qb < 4294967296 := by rw [HQ1.out]; exact digit_lt hY1 hUY b3
          obtain ⟨R1, hR1e⟩ : ∃ a, (U * 4294967296 + un1) % Y = a := ⟨_, rfl⟩
          have hR1 : R1 < Y := by rw [← hR1e]; exact Nat.mod_lt _ (by omega)
          have eR1 : IntKind.u64.wrap (IntKind.u64.wrap (IntKind.u64.wrap ((U : Int) * 4294967296) + (un1 : Int)) - IntKind.u64.wrap ((qb : Int) * (Y : Int))) = (R1 : Int) := by rw [rest_wrap hY1 hY2 HQ1.out, hR1e]
          have HR1 := Lib.hid hR1e
          clear hR1e
          obtain ⟨R0, hR0e⟩ : ∃ a, (R1 * 4294967296 + un0) % Y = a := ⟨_, rfl⟩
          have HR0 := Lib.hid hR0e
          have eRs : (R0 : Int) / 2 ^ s = (RF : Int) := by
            rw [← HRF.out, ← HSH.out.2, HTD.out.2, HR1.out, hR0e]; push_cast; rfl
          clear hR0e
          have hst := di_start (u := un0) hY1 hY2 hR1 b4
          rw [HYN1.out] at hst
          obtain ⟨hst1, hst2, hst3b⟩ := hst
          obtain ⟨q0b, hq0⟩ : ∃ a, R1 / yn1 = a := ⟨_, rfl⟩
          rw [hq0] at hst1 hst2 hst3b
          obtain ⟨r0b, hr0⟩ : ∃ a, R1 - q0b * yn1 = a := ⟨_, rfl⟩
          rw [hr0] at hst1 hst3b
          have eq0b : (R1 : Int) / (yn1 : Int) = (q0b : Int) := by rw [← hq0]; push_cast; rfl
          have p1' : 0 ≤ (q0b : Int) * (yn1 : Int) ∧ (q0b : Int) * (yn1 : Int) ≤ (R1 : Int) := by
            have : (q0b : Int) * (yn1 : Int) = ((q0b * yn1 : Nat) : Int) := by push_cast; rfl
            rw [this]; omega
          obtain ⟨p1a', p1b'⟩ := p1'
          have er0b : (R1 : Int) - (q0b : Int) * (yn1 : Int) = (r0b : Int) := by
            have : (q0b : Int) * (yn1 : Int) = ((q0b * yn1 : Nat) : Int) := by push_cast; rfl
            rw [this]; omega
          have hq0bb : q0b ≤ 4294967297 := hst1.2.2
          have hR164 : R1 < 18446744073709551616 := by omega
          have HSTb := Lib.hid hst1
          clear hst1 hst2 hq0 hr0
          go_wp2_with fail
          go_loop [18, 16] (fun sq sr => ∃ q r : Nat, DI Y R1 un0 q r ∧ r < 4294967296 ∧ sq = .int .u64 (q : Int) ∧ sr = .int .u64 (r : Int)) (fun sq _ => (intOf sq).toNat)
          case atStart => exact ⟨q0b, r0b, HSTb.out, hst3b, rfl, rfl⟩
          case round =>
            obtain ⟨q, r, hdi, hr, rfl, rfl⟩ := hrel
            have hqb2 : q ≤ 4294967297 := hdi.2.2
            have hp := prod_le (q := q) (z := yn0) hqb2 b2
            have hpc : (q : Int) * (yn0 : Int) = ((q * yn0 : Nat) : Int) := by push_cast; rfl
            have hp0 : 0 ≤ (q : Int) * (yn0 : Int) := by rw [hpc]; omega
            have hp1 : (q : Int) * (yn0 : Int) ≤ 18446744073709551615 := by rw [hpc]; omega
            by_cases hc : 4294967296 ≤ q ∨ 4294967296 * r + un0 < q * yn0
            · have hmore := di_more hY1 hR1 b4 hdi (by rw [HYN0.out]; exact hc)
              rw [HYN1.out] at hmore
              obtain ⟨m1, m2, m3⟩ := hmore
              obtain ⟨q', hq'⟩ : ∃ q', q - 1 = q' := ⟨_, rfl⟩
              rw [hq'] at m2 m3
              have em : (q : Int) - 1 = (q' : Int) := by omega
              have hlt : q' < q := by omega
              have HM := Lib.hid m2
              have HC : Hid (¬ 4294967296 ≤ q → 4294967296 * (r : Int) + (un0 : Int) < (q : Int) * (yn0 : Int)) := by
                show _ → _
                intro h4
                rcases hc with hc | hc
                · exact absurd hc h4
                · rw [hpc]; omega
              clear m2 hdi hq' hpc hc
              by_cases hbr : 4294967296 ≤ r + yn1
              · have HQ : Hid (q' = (R1 * 4294967296 + un0) / Y) := di_break hY1 HM.out hbr m3
                have hbr' : 4294967296 ≤ (r : Int) + (yn1 : Int) := by omega
                by_cases h4 : 4294967296 ≤ q
                · have h4' : 4294967296 ≤ (q : Int) := by omega
                  have hQlt : q' < 4294967296 := by rw [HQ.out]; exact digit_lt hY1 hR1 b4
                  have eR0 : IntKind.u64.wrap (IntKind.u64.wrap (IntKind.u64.wrap ((R1 : Int) * 4294967296) + (un0 : Int)) - IntKind.u64.wrap ((q' : Int) * (Y : Int))) = (R0 : Int) := by rw [rest_wrap hY1 hY2 HQ.out, HR0.out]
                  go_wp2
                  go_ret2
                  refine ⟨?_, rfl⟩
                  have hz1 : QF = qb * 4294967296 + q' := by rw [← HQF.out, ← HSH.out.1, HTD.out.1, HQ1.out, HQ.out, HR1.out]
                  have hz2 : (QF : Int) = (qb : Int) * 4294967296 + (q' : Int) := by omega
                  rw [hz2]
                  rfl
                · have h4' : ¬ 4294967296 ≤ (q : Int) := by omega
                  have hpr := HC.out h4
                  have hQlt : q' < 4294967296 := by rw [HQ.out]; exact digit_lt hY1 hR1 b4
                  have eR0 : IntKind.u64.wrap (IntKind.u64.wrap (IntKind.u64.wrap ((R1 : Int) * 4294967296) + (un0 : Int)) - IntKind.u64.wrap ((q' : Int) * (Y : Int))) = (R0 : Int) := by rw [rest_wrap hY1 hY2 HQ.out, HR0.out]
                  go_wp2
                  go_ret2
                  refine ⟨?_, rfl⟩
                  have hz1 : QF = qb * 4294967296 + q' := by rw [← HQF.out, ← HSH.out.1, HTD.out.1, HQ1.out, HQ.out, HR1.out]
                  have hz2 : (QF : Int) = (qb : Int) * 4294967296 + (q' : Int) := by omega
                  rw [hz2]
                  rfl
              · have hbr' : ¬ 4294967296 ≤ (r : Int) + (yn1 : Int) := by omega
                by_cases h4 : 4294967296 ≤ q
                · have h4' : 4294967296 ≤ (q : Int) := by omega
                  go_wp2_with fail
                  go_round
                  case rel => exact ⟨q', r + yn1, HM.out, by omega, rfl, by go_num⟩
                  case measure => simp [intOf]; omega
                · have h4' : ¬ 4294967296 ≤ (q : Int) := by omega
                  have hpr := HC.out h4
                  go_wp2_with fail
                  go_round
                  case rel => exact ⟨q', r + yn1, HM.out, by omega, rfl, by go_num⟩
                  case measure => simp [intOf]; omega
            · have h4' : ¬ 4294967296 ≤ (q : Int) := fun h => hc (Or.inl (by omega))
              have hpr : ¬ (4294967296 * (r : Int) + (un0 : Int) < (q : Int) * (yn0 : Int)) := by rw [hpc]; omega
              obtain ⟨q', hq'⟩ : ∃ q', q = q' := ⟨_, rfl⟩
              have HQ : Hid (q' = (R1 * 4294967296 + un0) / Y) := by rw [← hq']; exact di_done hY1 hdi (by rw [HYN0.out]; exact fun h => hc (Or.inr h))
              subst hq'
              clear hc hdi hpc
              have hQlt : q < 4294967296 := by rw [HQ.out]; exact digit_lt hY1 hR1 b4
              have eR0 : IntKind.u64.wrap (IntKind.u64.wrap (IntKind.u64.wrap ((R1 : Int) * 4294967296) + (un0 : Int)) - IntKind.u64.wrap ((q : Int) * (Y : Int))) = (R0 : Int) := by rw [rest_wrap hY1 hY2 HQ.out, HR0.out]
              go_wp2
              go_ret2
              refine ⟨?_, rfl⟩
              have hz1 : QF = qb * 4294967296 + q := by rw [← HQF.out, ← HSH.out.1, HTD.out.1, HQ1.out, HQ.out, HR1.out]
              have hz2 : (QF : Int) = (qb : Int) * 4294967296 + (q : Int) := by omega
              rw [hz2]
              rfl
        · have h4' : ¬ 4294967296 ≤ (qa : Int) := by omega
          have hpr := HC.out h4
          have HQ1 := HQ
          clear HQ
          have hQ1 : qb < 4294967296 := by rw [HQ1.out]; exact digit_lt hY1 hUY b3
          obtain ⟨R1, hR1e⟩ : ∃ a, (U * 4294967296 + un1) % Y = a := ⟨_, rfl⟩
          have hR1 : R1 < Y := by rw [← hR1e]; exact Nat.mod_lt _ (by omega)
          have eR1 : IntKind.u64.wrap (IntKind.u64.wrap (IntKind.u64.wrap ((U : Int) * 4294967296) + (un1 : Int)) - IntKind.u64.wrap ((qb : Int) * (Y : Int))) = (R1 : Int) := by rw [rest_wrap hY1 hY2 HQ1.out, hR1e]
          have HR1 := Lib.hid hR1e
          clear hR1e
          obtain ⟨R0, hR0e⟩ : ∃ a, (R1 * 4294967296 + un0) % Y = a := ⟨_, rfl⟩
          have HR0 := Lib.hid hR0e
          have eRs : (R0 : Int) / 2 ^ s = (RF : Int) := by
            rw [← HRF.out, ← HSH.out.2, HTD.out.2, HR1.out, hR0e]; push_cast; rfl
          clear hR0e
          have hst := di_start (u := un0) hY1 hY2 hR1 b4
          rw [HYN1.out] at hst
          obtain ⟨hst1, hst2, hst3b⟩ := hst
          obtain ⟨q0b, hq0⟩ : ∃ a, R1 / yn1 = a := ⟨_, rfl⟩
          rw [hq0] at hst1 hst2 hst3b
          obtain ⟨r0b, hr0⟩ : ∃ a, R1 - q0b * yn1 = a := ⟨_, rfl⟩
          rw [hr0] at hst1 hst3b
          have eq0b : (R1 : Int) / (yn1 : Int) = (q0b : Int) := by rw [← hq0]; push_cast; rfl
          have p1' : 0 ≤ (q0b : Int) * (yn1 : Int) ∧ (q0b : Int) * (yn1 : Int) ≤ (R1 : Int) := by
            have : (q0b : Int) * (yn1 : Int) = ((q0b * yn1 : Nat) : Int) := by push_cast; rfl
            rw [this]; omega
          obtain ⟨p1a', p1b'⟩ := p1'
          have er0b : (R1 : Int) - (q0b : Int) * (yn1 : Int) = (r0b : Int) := by
            have : (q0b : Int) * (yn1 : Int) = ((q0b * yn1 : Nat) : Int) := by push_cast; rfl
            rw [this]; omega
          have hq0bb : q0b ≤ 4294967297 := hst1.2.2
          have hR164 : R1 < 18446744073709551616 := by omega
          have HSTb := Lib.hid hst1
          clear hst1 hst2 hq0 hr0
          go_wp2_with fail
          go_loop [18, 16] (fun sq sr => ∃ q r : Nat, DI Y R1 un0 q r ∧ r < 4294967296 ∧ sq = .int .u64 (q : Int) ∧ sr = .int .u64 (r : Int)) (fun sq _ => (intOf sq).toNat)
          case atStart => exact ⟨q0b, r0b, HSTb.out, hst3b, rfl, rfl⟩
          case round =>
            obtain ⟨q, r, hdi, hr, rfl, rfl⟩ := hrel
            have hqb2 : q ≤ 4294967297 := hdi.2.2
            have hp := prod_le (q := q) (z := yn0) hqb2 b2
            have hpc : (q : Int) * (yn0 : Int) = ((q * yn0 : Nat) : Int) := by push_cast; rfl
            have hp0 : 0 ≤ (q : Int) * (yn0 : Int) := by rw [hpc]; omega
            have hp1 : (q : Int) * (yn0 : Int) ≤ 18446744073709551615 := by rw [hpc]; omega
            by_cases hc : 4294967296 ≤ q ∨ 4294967296 * r + un0 < q * yn0
            · have hmore := di_more hY1 hR1 b4 hdi (by rw [HYN0.out]; exact hc)
              rw [HYN1.out] at hmore
              obtain ⟨m1, m2, m3⟩ := hmore
              obtain ⟨q', hq'⟩ : ∃ q', q - 1 = q' := ⟨_, rfl⟩
              rw [hq'] at m2 m3
              have em : (q : Int) - 1 = (q' : Int) := by omega
              have hlt : q' < q := by omega
              have HM := Lib.hid m2
              have HC : Hid (¬ 4294967296 ≤ q → 4294967296 * (r : Int) + (un0 : Int) < (q : Int) * (yn0 : Int)) := by
                show _ → _
                intro h4
                rcases hc with hc | hc
                · exact absurd hc h4
                · rw [hpc]; omega
              clear m2 hdi hq' hpc hc
              by_cases hbr : 4294967296 ≤ r + yn1
              · have HQ : Hid (q' = (R1 * 4294967296 + un0) / Y) := di_break hY1 HM.out hbr m3
                have hbr' : 4294967296 ≤ (r : Int) + (yn1 : Int) := by omega
                by_cases h4 : 4294967296 ≤ q
                · have h4' : 4294967296 ≤ (q : Int) := by omega
                  have hQlt : q' < 4294967296 := by rw [HQ.out]; exact digit_lt hY1 hR1 b4
                  have eR0 : IntKind.u64.wrap (IntKind.u64.wrap (IntKind.u64.wrap ((R1 : Int) * 4294967296) + (un0 : Int)) - IntKind.u64.wrap ((q' : Int) * (Y : Int))) = (R0 : Int) := by rw [rest_wrap hY1 hY2 HQ.out, HR0.out]
                  go_wp2
                  go_ret2
                  refine ⟨?_, rfl⟩
                  have hz1 : QF = qb * 4294967296 + q' := by rw [← HQF.out, ← HSH.out.1, HTD.out.1, HQ1.out, HQ.out, HR1.out]
                  have hz2 : (QF : Int) = (qb : Int) * 4294967296 + (q' : Int) := by omega
                  rw [hz2]
                  rfl
                · have h4' : ¬ 4294967296 ≤ (q : Int) := by omega
                  have hpr := HC.out h4
                  have hQlt : q' < 4294967296 := by rw [HQ.out]; exact digit_lt hY1 hR1 b4
                  have eR0 : IntKind.u64.wrap (IntKind.u64.wrap (IntKind.u64.wrap ((R1 : Int) * 4294967296) + (un0 : Int)) - IntKind.u64.wrap ((q' : Int) * (Y : Int))) = (R0 : Int) := by rw [rest_wrap hY1 hY2 HQ.out, HR0.out]
                  go_wp2
                  go_ret2
                  refine ⟨?_, rfl⟩
                  have hz1 : QF = qb * 4294967296 + q' := by rw [← HQF.out, ← HSH.out.1, HTD.out.1, HQ1.out, HQ.out, HR1.out]
                  have hz2 : (QF : Int) = (qb : Int) * 4294967296 + (q' : Int) := by omega
                  rw [hz2]
                  rfl
              · have hbr' : ¬ 4294967296 ≤ (r : Int) + (yn1 : Int) := by omega
                by_cases h4 : 4294967296 ≤ q
                · have h4' : 4294967296 ≤ (q : Int) := by omega
                  go_wp2_with fail
                  go_round
                  case rel => exact ⟨q', r + yn1, HM.out, by omega, rfl, by go_num⟩
                  case measure => simp [intOf]; omega
                · have h4' : ¬ 4294967296 ≤ (q : Int) := by omega
                  have hpr := HC.out h4
                  go_wp2_with fail
                  go_round
                  case rel => exact ⟨q', r + yn1, HM.out, by omega, rfl, by go_num⟩
                  case measure => simp [intOf]; omega
            · have h4' : ¬ 4294967296 ≤ (q : Int) := fun h => hc (Or.inl (by omega))
              have hpr : ¬ (4294967296 * (r : Int) + (un0 : Int) < (q : Int) * (yn0 : Int)) := by rw [hpc]; omega
              obtain ⟨q', hq'⟩ : ∃ q', q = q' := ⟨_, rfl⟩
              have HQ : Hid (q' = (R1 * 4294967296 + un0) / Y) := by rw [← hq']; exact di_done hY1 hdi (by rw [HYN0.out]; exact fun h => hc (Or.inr h))
              subst hq'
              clear hc hdi hpc
              have hQlt : q < 4294967296 := by rw [HQ.out]; exact digit_lt hY1 hR1 b4
              have eR0 : IntKind.u64.wrap (IntKind.u64.wrap (IntKind.u64.wrap ((R1 : Int) * 4294967296) + (un0 : Int)) - IntKind.u64.wrap ((q : Int) * (Y : Int))) = (R0 : Int) := by rw [rest_wrap hY1 hY2 HQ.out, HR0.out]
              go_wp2
              go_ret2
              refine ⟨?_, rfl⟩
              have hz1 : QF = qb * 4294967296 + q := by rw [← HQF.out, ← HSH.out.1, HTD.out.1, HQ1.out, HQ.out, HR1.out]
              have hz2 : (QF : Int) = (qb : Int) * 4294967296 + (q : Int) := by omega
              rw [hz2]
              rfl
      · have hbr' : ¬ 4294967296 ≤ (ra : Int) + (yn1 : Int) := by omega
        by_cases h4 : 4294967296 ≤ qa
        · have h4' : 4294967296 ≤ (qa : Int) := by omega
          go_wp2_with fail
          go_round
          case rel => exact ⟨qb, ra + yn1, HM.out, by omega, rfl, by go_num⟩
          case measure => simp [intOf]; omega
        · have h4' : ¬ 4294967296 ≤ (qa : Int) := by omega
          have hpr := HC.out h4
          go_wp2_with fail
          go_round
          case rel => exact ⟨qb, ra + yn1, HM.out, by omega, rfl, by go_num⟩
          case measure => simp [intOf]; omega
    · have h4' : ¬ 4294967296 ≤ (qa : Int) := fun h => hc (Or.inl (by omega))
      have hpr : ¬ (4294967296 * (ra : Int) + (un1 : Int) < (qa : Int) * (yn0 : Int)) := by rw [hpc]; omega
      obtain ⟨qb, hqb_⟩ : ∃ qb, qa = qb := ⟨_, rfl⟩
      have HQ : Hid (qb = (U * 4294967296 + un1) / Y) := by rw [← hqb_]; exact di_done hY1 hdi (by rw [HYN0.out]; exact fun h => hc (Or.inr h))
      subst hqb_
      clear hc hdi hpc
      have HQ1 := HQ
      clear HQ
      have hQ1 : qa < 4294967296 := by rw [HQ1.out]; exact digit_lt hY1 hUY b3
      obtain ⟨R1, hR1e⟩ : ∃ a, (U * 4294967296 + un1) % Y = a := ⟨_, rfl⟩
      have hR1 : R1 < Y := by rw [← hR1e]; exact Nat.mod_lt _ (by omega)
      have eR1 : IntKind.u64.wrap (IntKind.u64.wrap (IntKind.u64.wrap ((U : Int) * 4294967296) + (un1 : Int)) - IntKind.u64.wrap ((qa : Int) * (Y : Int))) = (R1 : Int) := by rw [rest_wrap hY1 hY2 HQ1.out, hR1e]
      have HR1 := Lib.hid hR1e
      clear hR1e
      obtain ⟨R0, hR0e⟩ : ∃ a, (R1 * 4294967296 + un0) % Y = a := ⟨_, rfl⟩
      have HR0 := Lib.hid hR0e
      have eRs : (R0 : Int) / 2 ^ s = (RF : Int) := by
        rw [← HRF.out, ← HSH.out.2, HTD.out.2, HR1.out, hR0e]; push_cast; rfl
      clear hR0e
      have hst := di_start (u := un0) hY1 hY2 hR1 b4
      rw [HYN1.out] at hst
      obtain ⟨hst1, hst2, hst3b⟩ := hst
      obtain ⟨q0b, hq0⟩ : ∃ a, R1 / yn1 = a := ⟨_, rfl⟩
      rw [hq0] at hst1 hst2 hst3b
      obtain ⟨r0b, hr0⟩ : ∃ a, R1 - q0b * yn1 = a := ⟨_, rfl⟩
      rw [hr0] at hst1 hst3b
      have eq0b : (R1 : Int) / (yn1 : Int) = (q0b : Int) := by rw [← hq0]; push_cast; rfl
      have p1' : 0 ≤ (q0b : Int) * (yn1 : Int) ∧ (q0b : Int) * (yn1 : Int) ≤ (R1 : Int) := by
        have : (q0b : Int) * (yn1 : Int) = ((q0b * yn1 : Nat) : Int) := by push_cast; rfl
        rw [this]; omega
      obtain ⟨p1a', p1b'⟩ := p1'
      have er0b : (R1 : Int) - (q0b : Int) * (yn1 : Int) = (r0b : Int) := by
        have : (q0b : Int) * (yn1 : Int) = ((q0b * yn1 : Nat) : Int) := by push_cast; rfl
        rw [this]; omega
      have hq0bb : q0b ≤ 4294967297 := hst1.2.2
      have hR164 : R1 < 18446744073709551616 := by omega
      have HSTb := Lib.hid hst1
      clear hst1 hst2 hq0 hr0
      go_wp2_with fail
      go_loop [18, 16] (fun sq sr => ∃ q r : Nat, DI Y R1 un0 q r ∧ r < 4294967296 ∧ sq = .int .u64 (q : Int) ∧ sr = .int .u64 (r : Int)) (fun sq _ => (intOf sq).toNat)
      case atStart => exact ⟨q0b, r0b, HSTb.out, hst3b, rfl, rfl⟩
      case round =>
        obtain ⟨q, r, hdi, hr, rfl, rfl⟩ := hrel
        have hqb2 : q ≤ 4294967297 := hdi.2.2
        have hp := prod_le (q := q) (z := yn0) hqb2 b2
        have hpc : (q : Int) * (yn0 : Int) = ((q * yn0 : Nat) : Int) := by push_cast; rfl
        have hp0 : 0 ≤ (q : Int) * (yn0 : Int) := by rw [hpc]; omega
        have hp1 : (q : Int) * (yn0 : Int) ≤ 18446744073709551615 := by rw [hpc]; omega
        by_cases hc : 4294967296 ≤ q ∨ 4294967296 * r + un0 < q * yn0
        · have hmore := di_more hY1 hR1 b4 hdi (by rw [HYN0.out]; exact hc)
          rw [HYN1.out] at hmore
          obtain ⟨m1, m2, m3⟩ := hmore
          obtain ⟨q', hq'⟩ : ∃ q', q - 1 = q' := ⟨_, rfl⟩
          rw [hq'] at m2 m3
          have em : (q : Int) - 1 = (q' : Int) := by omega
          have hlt : q' < q := by omega
          have HM := Lib.hid m2
          have HC : Hid (¬ 4294967296 ≤ q → 4294967296 * (r : Int) + (un0 : Int) < (q : Int) * (yn0 : Int)) := by
            show _ → _
            intro h4
            rcases hc with hc | hc
            · exact absurd hc h4
            · rw [hpc]; omega
          clear m2 hdi hq' hpc hc
          by_cases hbr : 4294967296 ≤ r + yn1
          · have HQ : Hid (q' = (R1 * 4294967296 + un0) / Y) := di_break hY1 HM.out hbr m3
            have hbr' : 4294967296 ≤ (r : Int) + (yn1 : Int) := by omega
            by_cases h4 : 4294967296 ≤ q
            · have h4' : 4294967296 ≤ (q : Int) := by omega
              have hQlt : q' < 4294967296 := by rw [HQ.out]; exact digit_lt hY1 hR1 b4
              have eR0 : IntKind.u64.wrap (IntKind.u64.wrap (IntKind.u64.wrap ((R1 : Int) * 4294967296) + (un0 : Int)) - IntKind.u64.wrap ((q' : Int) * (Y : Int))) = (R0 : Int) := by rw [rest_wrap hY1 hY2 HQ.out, HR0.out]
              go_wp2
              go_ret2
              refine ⟨?_, rfl⟩
              have hz1 : QF = qa * 4294967296 + q' := by rw [← HQF.out, ← HSH.out.1, HTD.out.1, HQ1.out, HQ.out, HR1.out]
              have hz2 : (QF : Int) = (qa : Int) * 4294967296 + (q' : Int) := by omega
              rw [hz2]
              rfl
            · have h4' : ¬ 4294967296 ≤ (q : Int) := by omega
              have hpr := HC.out h4
              have hQlt : q' < 4294967296 := by rw [HQ.out]; exact digit_lt hY1 hR1 b4
              have eR0 : IntKind.u64.wrap (IntKind.u64.wrap (IntKind.u64.wrap ((R1 : Int) * 4294967296) + (un0 : Int)) - IntKind.u64.wrap ((q' : Int) * (Y : Int))) = (R0 : Int) := by rw [rest_wrap hY1 hY2 HQ.out, HR0.out]
              go_wp2
              go_ret2
              refine ⟨?_, rfl⟩
              have hz1 : QF = qa * 4294967296 + q' := by rw [← HQF.out, ← HSH.out.1, HTD.out.1, HQ1.out, HQ.out, HR1.out]
              have hz2 : (QF : Int) = (qa : Int) * 4294967296 + (q' : Int) := by omega
              rw [hz2]
              rfl
          · have hbr' : ¬ 4294967296 ≤ (r : Int) + (yn1 : Int) := by omega
            by_cases h4 : 4294967296 ≤ q
            · have h4' : 4294967296 ≤ (q : Int) := by omega
              go_wp2_with fail
              go_round
              case rel => exact ⟨q', r + yn1, HM.out, by omega, rfl, by go_num⟩
              case measure => simp [intOf]; omega
            · have h4' : ¬ 4294967296 ≤ (q : Int) := by omega
              have hpr := HC.out h4
              go_wp2_with fail
              go_round
              case rel => exact ⟨q', r + yn1, HM.out, by omega, rfl, by go_num⟩
              case measure => simp [intOf]; omega
        · have h4' : ¬ 4294967296 ≤ (q : Int) := fun h => hc (Or.inl (by omega))
          have hpr : ¬ (4294967296 * (r : Int) + (un0 : Int) < (q : Int) * (yn0 : Int)) := by rw [hpc]; omega
          obtain ⟨q', hq'⟩ : ∃ q', q = q' := ⟨_, rfl⟩
          have HQ : Hid (q' = (R1 * 4294967296 + un0) / Y) := by rw [← hq']; exact di_done hY1 hdi (by rw [HYN0.out]; exact fun h => hc (Or.inr h))
          subst hq'
          clear hc hdi hpc
          have hQlt : q < 4294967296 := by rw [HQ.out]; exact digit_lt hY1 hR1 b4
          have eR0 : IntKind.u64.wrap (IntKind.u64.wrap (IntKind.u64.wrap ((R1 : Int) * 4294967296) + (un0 : Int)) - IntKind.u64.wrap ((q : Int) * (Y : Int))) = (R0 : Int) := by rw [rest_wrap hY1 hY2 HQ.out, HR0.out]
          go_wp2
          go_ret2
          refine ⟨?_, rfl⟩
          have hz1 : QF = qa * 4294967296 + q := by rw [← HQF.out, ← HSH.out.1, HTD.out.1, HQ1.out, HQ.out, HR1.out]
          have hz2 : (QF : Int) = (qa : Int) * 4294967296 + (q : Int) := by omega
          rw [hz2]
          rfl

theorem div64_zero (lo y : Nat) (w : World) (h1 : 0 < y) (hy : y < 18446744073709551616) (hl : lo < 18446744073709551616) :
    Calls Try.prog 33 #[.int .u64 0, .int .u64 (lo : Int), .int .u64 (y : Int)] w fun e w' => e = .returned (.tuple #[.int .u64 ((lo / y : Nat) : Int), .int .u64 ((lo % y : Nat) : Int)]) ∧ Below w.heap.size w w' := by
  obtain ⟨QF, hQF⟩ : ∃ a, lo / y = a := ⟨_, rfl⟩
  obtain ⟨RF, hRF⟩ : ∃ a, lo % y = a := ⟨_, rfl⟩
  rw [hQF, hRF]
  have t1 : ((y : Int) == 0) = false := by simp; omega
  have t3 : (0 : Int) < (y : Int) := by omega
  have e1 : (lo : Int) / (y : Int) = (QF : Int) := by rw [← hQF]; push_cast; rfl
  have e2 : (lo : Int) % (y : Int) = (RF : Int) := by rw [← hRF]; push_cast; rfl
  have hQ : QF ≤ 18446744073709551615 := by rw [← hQF]; have := Nat.div_le_self lo y; omega
  have HE2 := Lib.hid e2
  clear hQF hRF e2
  go_enter Try.func33, Try.ntmps33
  go_wp2_with fail
  go_quiet (fail)
  go_wp2
  go_ret2
  exact ⟨by rw [← HE2.out]; rfl, below_drewN (Below.refl _ _) _⟩

theorem div64_any (hi lo y : Nat) (w : World) (h1 : hi < y) (hy : y < 18446744073709551616) (hl : lo < 18446744073709551616) :
    Calls Try.prog 33 #[.int .u64 (hi : Int), .int .u64 (lo : Int), .int .u64 (y : Int)] w fun e w' => e = .returned (.tuple #[.int .u64 (((hi * 18446744073709551616 + lo) / y : Nat) : Int), .int .u64 (((hi * 18446744073709551616 + lo) % y : Nat) : Int)]) ∧ Below w.heap.size w w' := by
  by_cases h0 : hi = 0
  · subst h0
    rw [Nat.zero_mul, Nat.zero_add]
    exact div64_zero lo y w h1 hy hl
  · exact (div64_pos hi lo y w (by omega) h1 hy hl).mono fun _ _ ⟨h2, h3⟩ => ⟨h2, by rw [← h3]; exact Below.refl _ _⟩
end Go.Proofs.Ytiddefbjnhhiiaa
