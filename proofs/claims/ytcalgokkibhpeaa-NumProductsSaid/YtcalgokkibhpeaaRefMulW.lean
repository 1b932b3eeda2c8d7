/-
  reckonerref01: wide, by, Mul, Quo: walks. Conditions: mantissas.
-/
import Derived.Test.YtcalgokkibhpeaaRefPrintW
import Derived.Test.YtcalgokkibhpeaaMulW
namespace Go.Proofs.Ytcalgokkibhpeaa
open Go.RowKit Num
set_option linter.unusedVariables false

set_option maxHeartbeats 800000 in
theorem wide_any (a b : Nat) (ha : a < 18446744073709551616) (hb : b < 18446744073709551616) (w : World) :
    Calls Try.prog 35 #[.int .u64 (a : Int), .int .u64 (b : Int)] w (MulPost a b w) := by
  obtain ⟨a1, ha1⟩ : ∃ x, a / 4294967296 = x := ⟨_, rfl⟩
  obtain ⟨a0, ha0⟩ : ∃ x, a % 4294967296 = x := ⟨_, rfl⟩
  obtain ⟨b1, hb1⟩ : ∃ x, b / 4294967296 = x := ⟨_, rfl⟩
  obtain ⟨b0, hb0⟩ : ∃ x, b % 4294967296 = x := ⟨_, rfl⟩
  have ea1 : (a : Int) / 4294967296 = (a1 : Int) := by omega
  have ea0 : bits .and .u64 (a : Int) 4294967295 = (a0 : Int) := by rw [M64.maskN a ha, ha0]
  have eb1 : (b : Int) / 4294967296 = (b1 : Int) := by omega
  have eb0 : bits .and .u64 (b : Int) 4294967295 = (b0 : Int) := by rw [M64.maskN b hb, hb0]
  have hab : a * b = a1 * b1 * (4294967296 * 4294967296) + (a1 * b0 + a0 * b1) * 4294967296 + a0 * b0 := by
    rw [← Lib.split_mul]
    have e1 : a = a1 * 4294967296 + a0 := by omega
    have e2 : b = b1 * 4294967296 + b0 := by omega
    rw [← e1, ← e2]
  have p1 := Lib.half_mul_le (a := a1) (b := b1) (by omega) (by omega)
  have p2 := Lib.half_mul_le (a := a1) (b := b0) (by omega) (by omega)
  have p3 := Lib.half_mul_le (a := a0) (b := b1) (by omega) (by omega)
  have p4 := Lib.half_mul_le (a := a0) (b := b0) (by omega) (by omega)
  have i11 : (a1 : Int) * (b1 : Int) = ((a1 * b1 : Nat) : Int) := by push_cast; rfl
  have i10 : (a1 : Int) * (b0 : Int) = ((a1 * b0 : Nat) : Int) := by push_cast; rfl
  have i01 : (a0 : Int) * (b1 : Int) = ((a0 * b1 : Nat) : Int) := by push_cast; rfl
  have i00 : (a0 : Int) * (b0 : Int) = ((a0 * b0 : Nat) : Int) := by push_cast; rfl
  generalize a1 * b1 = p11 at hab p1 i11
  generalize a1 * b0 = p10 at hab p2 i10
  generalize a0 * b1 = p01 at hab p3 i01
  generalize a0 * b0 = p00 at hab p4 i00
  clear ha1 ha0 hb1 hb0
  obtain ⟨y, hy⟩ : ∃ y, p10 + p00 / 4294967296 = y := ⟨_, rfl⟩
  have ey : (p10 : Int) + (p00 : Int) / 4294967296 = (y : Int) := by omega
  have hyb : y < 18446744073709551616 := by omega
  obtain ⟨y0, hy0⟩ : ∃ x, y % 4294967296 = x := ⟨_, rfl⟩
  have ey0 : bits .and .u64 (y : Int) 4294967295 = (y0 : Int) := by rw [M64.maskN y hyb, hy0]
  obtain ⟨z, hz⟩ : ∃ z, p01 + y0 = z := ⟨_, rfl⟩
  have ez : (p01 : Int) + (y0 : Int) = (z : Int) := by omega
  have hzb : z < 18446744073709551616 := by omega
  obtain ⟨x0, hx0⟩ : ∃ x, p00 % 4294967296 = x := ⟨_, rfl⟩
  have ex0 : bits .and .u64 (p00 : Int) 4294967295 = (x0 : Int) := by rw [M64.maskN p00 (by omega), hx0]
  obtain ⟨zl, hzl⟩ : ∃ x, z * 4294967296 % 18446744073709551616 = x := ⟨_, rfl⟩
  have ezl : IntKind.u64.wrap ((z : Int) * 4294967296) = (zl : Int) := by rw [IntKind.wrap_u64]; omega
  have elo : bits .or .u64 (zl : Int) (x0 : Int) = ((zl + x0 : Nat) : Int) := by
    rw [bits_join .u64 64 (by decide) wraps_u64 32 _ _ (by omega) (by omega) (by omega) (by omega) (by omega) (by omega)]
    push_cast; rfl
  obtain ⟨lo, hlo⟩ : ∃ x, zl + x0 = x := ⟨_, rfl⟩
  rw [hlo] at elo
  obtain ⟨hi, hhi⟩ : ∃ x, p11 + y / 4294967296 + z / 4294967296 = x := ⟨_, rfl⟩
  have hfin : Hid (a * b = hi * 18446744073709551616 + lo ∧ lo < 18446744073709551616) := by show _ ∧ _; omega
  have ehi : Hid ((p11 : Int) + (y : Int) / 4294967296 + (z : Int) / 4294967296 = (hi : Int)) := by show _ = _; omega
  have hb1 : p11 + y / 4294967296 + z / 4294967296 ≤ 18446744073709551615 := by omega
  clear hab hy hy0 hz hx0 hzl hlo hhi
  go_enter Try.func35, Try.ntmps35
  go_wp2
  go_ret2
  exact ⟨hi, lo, by rw [← ehi.out]; rfl, hfin.out.1, hfin.out.2, rfl⟩

/-! ### Long division, bit by bit -/
theorem bit_step (T d k : Nat) (hd : 0 < d) :
    (T / 2 ^ k % d * 2 + T / 2 ^ (k + 1) % d * 0 + 0 = T / 2 ^ k % d * 2) ∧
    (d ≤ 2 * (T / 2 ^ (k + 1) % d) + T / 2 ^ k % 2 → T / 2 ^ k / d = 2 * (T / 2 ^ (k + 1) / d) + 1 ∧ T / 2 ^ k % d = 2 * (T / 2 ^ (k + 1) % d) + T / 2 ^ k % 2 - d) ∧
    (2 * (T / 2 ^ (k + 1) % d) + T / 2 ^ k % 2 < d → T / 2 ^ k / d = 2 * (T / 2 ^ (k + 1) / d) ∧ T / 2 ^ k % d = 2 * (T / 2 ^ (k + 1) % d) + T / 2 ^ k % 2) := by
  have hv : T / 2 ^ (k + 1) = T / 2 ^ k / 2 := by rw [Nat.pow_succ, Nat.div_div_eq_div_mul]
  rw [hv]
  generalize T / 2 ^ k = V
  have h1 := Nat.div_add_mod (V / 2) d
  have h2 := Nat.mod_lt (V / 2) hd
  generalize hq : V / 2 / d = q at *
  generalize hr : V / 2 % d = r at *
  have hV : V = 2 * (d * q + r) + V % 2 := by omega
  have hV2 : V = d * (2 * q) + (2 * r + V % 2) := by
    rw [Nat.mul_left_comm]
    omega
  refine ⟨by omega, fun h => ?_, fun h => ?_⟩
  · have h3 : V = (2 * r + V % 2 - d) + d * (2 * q + 1) := by rw [Nat.mul_add]; omega
    have h4 : 2 * r + V % 2 - d < d := by omega
    constructor
    · conv => lhs; rw [h3]
      rw [Nat.add_mul_div_left _ _ hd, Nat.div_eq_of_lt h4, Nat.zero_add]
    · conv => lhs; rw [h3]
      rw [Nat.add_mul_mod_self_left, Nat.mod_eq_of_lt h4]
  · have h3 : V = (2 * r + V % 2) + d * (2 * q) := by omega
    constructor
    · conv => lhs; rw [h3]
      rw [Nat.add_mul_div_left _ _ hd, Nat.div_eq_of_lt h, Nat.zero_add]
    · conv => lhs; rw [h3]
      rw [Nat.add_mul_mod_self_left, Nat.mod_eq_of_lt h]
theorem q_small {hi lo d k : Nat} (hhi : hi < d) (hlo : lo < 18446744073709551616) (hk : k ≤ 64) (h1 : 1 ≤ k) : (hi * 18446744073709551616 + lo) / 2 ^ k / d < 9223372036854775808 := by
  have hp := Nat.two_pow_pos k
  rw [Nat.div_lt_iff_lt_mul (by omega), Nat.div_lt_iff_lt_mul hp]
  have h2 : 2 ≤ 2 ^ k := by
    have := Nat.pow_le_pow_right (n := 2) (by omega) h1
    simpa using this
  have h3 := Nat.mul_le_mul_left 9223372036854775808 (Nat.mul_le_mul (show hi + 1 ≤ d by omega) h2)
  rw [Nat.mul_assoc]
  omega
theorem bit_of {hi lo k : Nat} (hk : k < 64) : (hi * 18446744073709551616 + lo) / 2 ^ k % 2 = lo / 2 ^ k % 2 := by
  have e : 18446744073709551616 = 2 ^ (63 - k) * 2 * 2 ^ k := by
    rw [Nat.mul_right_comm, ← Nat.pow_add, show 63 - k + k = 63 by omega]
  have e2 : hi * 18446744073709551616 + lo = lo + hi * (2 ^ (63 - k)) * 2 * 2 ^ k := by
    rw [Nat.add_comm, e]
    simp only [Nat.mul_assoc]
  rw [e2, Nat.add_mul_div_right _ _ (Nat.two_pow_pos k)]
  omega
theorem top_div {hi lo d : Nat} (hhi : hi < d) (hlo : lo < 18446744073709551616) : (hi * 18446744073709551616 + lo) / 2 ^ 64 / d = 0 ∧ (hi * 18446744073709551616 + lo) / 2 ^ 64 % d = hi := by
  have e : (hi * 18446744073709551616 + lo) / 2 ^ 64 = hi := by omega
  rw [e]
  exact ⟨Nat.div_eq_of_lt hhi, Nat.mod_eq_of_lt hhi⟩

set_option maxHeartbeats 1600000 in
theorem by_any (a b c : Int) (w : World) (ha : -9223372036854775807 ≤ a ∧ a ≤ 9223372036854775807) (hb : -9223372036854775807 ≤ b ∧ b ≤ 9223372036854775807) (hc : -9223372036854775807 ≤ c ∧ c ≤ 9223372036854775807) (hc0 : c ≠ 0) :
    Calls Try.prog 33 #[.int .i64 a, .int .i64 b, .int .i64 c] w (MulEnd (negOf a b != decide (c < 0)) (a.natAbs * b.natAbs) c.natAbs w) := by
  obtain ⟨n, hn⟩ : ∃ n, a.natAbs = n := ⟨_, rfl⟩
  obtain ⟨m, hm⟩ : ∃ m, b.natAbs = m := ⟨_, rfl⟩
  obtain ⟨d, hd⟩ : ∃ d, c.natAbs = d := ⟨_, rfl⟩
  rw [hn, hm, hd]
  have hn2 : n ≤ 9223372036854775807 := by omega
  have hm2 : m ≤ 9223372036854775807 := by omega
  have hd2 : d ≤ 9223372036854775807 := by omega
  have hd0 : 0 < d := by omega
  obtain ⟨g, hg⟩ : ∃ g, (negOf a b != decide (c < 0)) = g := ⟨_, rfl⟩
  rw [hg]
  have hg' : (!((!(decide (a < 0) == decide (b < 0))) == decide (c < 0))) = g := hg
  have HN := Lib.hid hn
  have HM := Lib.hid hm
  have HD := Lib.hid hd
  clear hn hm hd hg
  go_enter Try.func33, Try.ntmps33
  go_wp2_with fail
  refine (rabs_any a _ ha).mono ?_
  rintro e w' ⟨rfl, rfl⟩
  rw [HN.out]
  go_wp2_with fail
  refine (rabs_any b _ hb).mono ?_
  rintro e w' ⟨rfl, rfl⟩
  rw [HM.out]
  go_wp2_with fail
  refine (wide_any n m (by omega) (by omega) _).mono ?_
  rintro e w' ⟨hi, lo, rfl, hmm, hlo, rfl⟩
  have HMM := Lib.hid hmm
  clear hmm
  go_wp2_with fail
  refine (rabs_any c _ hc).mono ?_
  rintro e w' ⟨rfl, rfl⟩
  rw [HD.out]
  by_cases hge : d ≤ hi
  · have hge' : (d : Int) ≤ (hi : Int) := by omega
    have hbig : Hid (¬ rnd (n * m) d ≤ 9223372036854775807) := by
      show ¬ _ ≤ _
      rw [HMM.out]
      unfold rnd
      have : 18446744073709551616 ≤ (hi * 18446744073709551616 + lo) / d := by
        rw [Nat.le_div_iff_mul_le hd0]
        have := Nat.mul_le_mul_left 18446744073709551616 hge
        omega
      intro h
      exact absurd (Nat.le_trans (Nat.le_trans this (Nat.le_add_right _ _)) h) (by omega)
    go_wp2
    go_ret2
    exact me_no hbig.out (Below.refl _ _)
  · have hge' : ¬ (d : Int) ≤ (hi : Int) := by omega
    obtain ⟨T, hT⟩ : ∃ T, hi * 18446744073709551616 + lo = T := ⟨_, rfl⟩
    have htop := top_div (d := d) (lo := lo) (show hi < d by omega) hlo
    have HBIT : Hid (∀ k, k < 64 → T / 2 ^ k % 2 = lo / 2 ^ k % 2) := fun k hk => by rw [← hT]; exact bit_of hk
    have HQS : Hid (∀ k, k ≤ 64 → 1 ≤ k → T / 2 ^ k / d < 9223372036854775808) := fun k h1 h2 => by rw [← hT]; exact q_small (by omega) hlo h1 h2
    rw [hT] at htop
    have HTOP := Lib.hid htop
    have HT := Lib.hid hT
    clear htop hT
    go_wp2_with fail
    go_loop [11, 12, 13, 14] (fun sq sr si so => ∃ k : Nat, k ≤ 64 ∧ sq = .int .u64 ((T / 2 ^ k / d : Nat) : Int) ∧ sr = .int .u64 ((T / 2 ^ k % d : Nat) : Int) ∧ si = .int .i64 ((k : Int) - 1)) (fun _ _ si _ => (intOf si + 1).toNat)
    case atStart => exact ⟨64, by omega, by rw [HTOP.out.1]; rfl, by rw [HTOP.out.2], by go_num⟩
    case round =>
      obtain ⟨k, hk, rfl, rfl, rfl⟩ := hrel
      by_cases hk0 : k = 0
      · subst hk0
        rw [Nat.pow_zero, Nat.div_one]
        have hrl : T % d < d := Nat.mod_lt _ hd0
        have hql : T / d < 18446744073709551616 := by
          rw [Nat.div_lt_iff_lt_mul hd0, ← HT.out]
          have := Nat.mul_le_mul_left 18446744073709551616 (show hi + 1 ≤ d by omega)
          omega
        have hrnd : rnd (n * m) d = T / d + if d ≤ 2 * (T % d) then 1 else 0 := by rw [HMM.out, HT.out]; rfl
        generalize T / d = q at *
        generalize T % d = r at *
        by_cases hup : d ≤ 2 * r
        · have hup' : (d : Int) - (r : Int) ≤ (r : Int) := by omega
          rw [if_pos hup] at hrnd
          have HR := Lib.hid hrnd
          clear hrnd
          by_cases hmax : q = 18446744073709551615
          · have ew : IntKind.u64.wrap ((q : Int) + 1) = 0 := by rw [hmax, IntKind.wrap_u64]; rfl
            have hno : Hid (¬ rnd (n * m) d ≤ 9223372036854775807) := by show ¬ _ ≤ _; rw [HR.out]; omega
            clear hmax hql
            go_wp2
            go_ret2
            exact me_no hno.out (Below.refl _ _)
          · obtain ⟨q1, hq1⟩ : ∃ q1, q + 1 = q1 := ⟨_, rfl⟩
            have eq1 : (q : Int) + 1 = (q1 : Int) := by omega
            have hq0 : ((q1 : Int) == 0) = false := by simp; omega
            have hq2 : q < 18446744073709551615 := by omega
            have HR1 : Hid (rnd (n * m) d = q1) := by show _ = _; rw [HR.out, hq1]
            clear hmax hq1 hql
            by_cases hbig : 9223372036854775807 < q1
            · have hbig' : 9223372036854775807 < (q1 : Int) := by omega
              have hno : Hid (¬ rnd (n * m) d ≤ 9223372036854775807) := by show ¬ _ ≤ _; rw [HR1.out]; omega
              go_wp2
              go_ret2
              exact me_no hno.out (Below.refl _ _)
            · have hbig' : (q1 : Int) ≤ 9223372036854775807 := by omega
              have hyes : Hid (rnd (n * m) d ≤ 9223372036854775807) := by show _ ≤ _; rw [HR1.out]; omega
              cases g
              · go_wp2
                go_ret2
                exact me_yes hyes.out (by rw [HR1.out]; simp [sgn]) (Below.refl _ _)
              · go_wp2
                go_ret2
                exact me_yes hyes.out (by rw [HR1.out]; simp [sgn]) (Below.refl _ _)
        · have hup' : ¬ (d : Int) - (r : Int) ≤ (r : Int) := by omega
          rw [if_neg hup] at hrnd
          have HR := Lib.hid hrnd
          clear hrnd
          by_cases hbig : 9223372036854775807 < q
          · have hbig' : 9223372036854775807 < (q : Int) := by omega
            have hno : Hid (¬ rnd (n * m) d ≤ 9223372036854775807) := by show ¬ _ ≤ _; rw [HR.out]; omega
            go_wp2
            go_ret2
            exact me_no hno.out (Below.refl _ _)
          · have hbig' : (q : Int) ≤ 9223372036854775807 := by omega
            have hyes : Hid (rnd (n * m) d ≤ 9223372036854775807) := by show _ ≤ _; rw [HR.out]; omega
            cases g
            · go_wp2
              go_ret2
              exact me_yes hyes.out (by rw [HR.out]; simp [sgn]) (Below.refl _ _)
            · go_wp2
              go_ret2
              exact me_yes hyes.out (by rw [HR.out]; simp [sgn]) (Below.refl _ _)
      · obtain ⟨i, rfl⟩ : ∃ i, k = i + 1 := ⟨k - 1, by omega⟩
        have hst := bit_step T d i hd0
        have hr := Nat.mod_lt (T / 2 ^ (i + 1)) hd0
        have hqs := HQS.out (i + 1) (by omega) (by omega)
        have hbit := HBIT.out i (by omega)
        obtain ⟨q, hq⟩ : ∃ q, T / 2 ^ (i + 1) / d = q := ⟨_, rfl⟩
        obtain ⟨r, hrr⟩ : ∃ r, T / 2 ^ (i + 1) % d = r := ⟨_, rfl⟩
        obtain ⟨bt, hbt⟩ : ∃ b, lo / 2 ^ i % 2 = b := ⟨_, rfl⟩
        rw [hbit, hbt, hq, hrr] at hst
        rw [hrr] at hr
        rw [hq] at hqs
        rw [hq, hrr]
        have hbt2 : bt < 2 := by omega
        have HST := Lib.hid hst
        have e1 : (((i + 1 : Nat) : Int) - 1) = (i : Int) := by omega
        rw [e1]
        have e2 : (r : Int) / 9223372036854775808 = 0 := by omega
        have e3 : bits .and .u64 ((lo : Int) / 2 ^ i) 1 = (bt : Int) := by
          have e : ((lo : Int) / 2 ^ i) = ((lo / 2 ^ i : Nat) : Int) := by push_cast; rfl
          have hlt : lo / 2 ^ i < 18446744073709551616 := Nat.lt_of_le_of_lt (Nat.div_le_self _ _) hlo
          have h := bits_and_u64_nat (lo / 2 ^ i) 1 hlt (by omega)
          rw [Nat.and_one_is_mod, hbt] at h
          rw [e]
          exact h
        have e4 : bits .or .u64 ((r : Int) * 2) (bt : Int) = ((2 * r + bt : Nat) : Int) := by
          rw [bits_join .u64 64 (by decide) wraps_u64 1 _ _ (by omega) (by omega) (by omega) (by omega) (by omega) (by omega)]
          omega
        have e5 : bits .or .u64 ((q : Int) * 2) 1 = ((2 * q + 1 : Nat) : Int) := by
          rw [bits_join .u64 64 (by decide) wraps_u64 1 _ _ (by omega) (by omega) (by omega) (by omega) (by omega) (by omega)]
          omega
        clear hst hq hrr hbt hbit e1 hk0
        by_cases hup : d ≤ 2 * r + bt
        · have hup' : (d : Int) ≤ 2 * (r : Int) + (bt : Int) := by omega
          obtain ⟨f1, f2⟩ := HST.out.2.1 hup
          have F1 := Lib.hid f1
          have F2 := Lib.hid f2
          clear f1 f2
          go_wp2_with fail
          go_round
          case rel => exact ⟨i, by omega, by rw [F1.out]; first | rfl | (simp; done) | go_num, by rw [F2.out]; first | rfl | (simp; done) | go_num, by trivial⟩
          case measure => simp [intOf] <;> omega
        · have hup' : ¬ (d : Int) ≤ 2 * (r : Int) + (bt : Int) := by omega
          obtain ⟨f1, f2⟩ := HST.out.2.2 (by omega)
          have F1 := Lib.hid f1
          have F2 := Lib.hid f2
          clear f1 f2
          go_wp2_with fail
          go_round
          case rel => exact ⟨i, by omega, by rw [F1.out]; first | rfl | (simp; done) | go_num, by rw [F2.out]; first | rfl | (simp; done) | go_num, by trivial⟩
          case measure => simp [intOf] <;> omega

theorem refmul_any (a b : Int) (w : World) (ha : -9223372036854775807 ≤ a ∧ a ≤ 9223372036854775807) (hb : -9223372036854775807 ≤ b ∧ b ≤ 9223372036854775807) :
    Calls Try.prog 23 #[.int .i64 a, .int .i64 b] w (MulEnd (negOf a b) (a.natAbs * b.natAbs) 1000000 w) := by
  have hg : (negOf a b != decide ((1000000 : Int) < 0)) = negOf a b := by cases negOf a b <;> rfl
  have h := by_any a b 1000000
  rw [hg, show ((1000000 : Int).natAbs) = 1000000 from rfl] at h
  have H := Lib.hid h
  clear h hg
  go_enter Try.func23, Try.ntmps23
  go_wp2_with fail
  refine (H.out _ ha hb (by omega) (by omega)).mono ?_
  rintro e w' ⟨rfl, hbl⟩
  go_wp2
  go_ret2
  exact ⟨rfl, hbl⟩
theorem refquo_any (a b : Int) (w : World) (ha : -9223372036854775807 ≤ a ∧ a ≤ 9223372036854775807) (hb : -9223372036854775807 ≤ b ∧ b ≤ 9223372036854775807) (hb0 : b ≠ 0) :
    Calls Try.prog 25 #[.int .i64 a, .int .i64 b] w (MulEnd (negOf a b) (a.natAbs * 1000000) b.natAbs w) := by
  have hg : (negOf a 1000000 != decide (b < 0)) = negOf a b := by
    unfold negOf
    rw [decide_eq_false (show ¬ (1000000 : Int) < 0 by omega)]
    cases decide (a < 0) <;> cases decide (b < 0) <;> rfl
  have h := by_any a 1000000 b
  rw [hg, show ((1000000 : Int).natAbs) = 1000000 from rfl] at h
  have H := Lib.hid h
  have tb : (b == 0) = false := by simp; omega
  clear h hg
  go_enter Try.func25, Try.ntmps25
  go_wp2_with fail
  refine (H.out _ ha (by omega) hb hb0).mono ?_
  rintro e w' ⟨rfl, hbl⟩
  go_wp2
  go_ret2
  exact ⟨rfl, hbl⟩
theorem refquo_zero (a : Int) (w : World) :
    Calls Try.prog 25 #[.int .i64 a, .int .i64 0] w fun e w' => e = .returned (.tuple #[.int .i64 0, .bool false]) ∧ w = w' := by
  go_enter Try.func25, Try.ntmps25
  go_wp2
  go_ret2
  exact ⟨rfl, rfl⟩
end Go.Proofs.Ytcalgokkibhpeaa
