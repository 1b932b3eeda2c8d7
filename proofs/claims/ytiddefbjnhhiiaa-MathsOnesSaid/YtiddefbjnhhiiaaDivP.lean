/-
  Plain: long division by digits of 32 bits. No program in sight.
-/
import Derived.WalkKit
import Derived.Lib.Hide
namespace Go.Proofs.Ytiddefbjnhhiiaa
namespace Dv
set_option linter.unusedVariables false

/-- One digit is guessed: q, and what is left, r; Y: the divisor, U: what is divided, u: its next digit. -/
def DI (Y U u q r : Nat) : Prop := q * (Y / 4294967296) + r = U ∧ (U * 4294967296 + u) / Y ≤ q ∧ q ≤ 4294967297

theorem Y_split (Y : Nat) : Y = Y / 4294967296 * 4294967296 + Y % 4294967296 := by omega

theorem di_start {Y U u : Nat} (hY : 9223372036854775808 ≤ Y) (hY2 : Y < 18446744073709551616) (hU : U < Y) (hu : u < 4294967296) :
    DI Y U u (U / (Y / 4294967296)) (U - U / (Y / 4294967296) * (Y / 4294967296)) ∧ U / (Y / 4294967296) * (Y / 4294967296) ≤ U ∧ U - U / (Y / 4294967296) * (Y / 4294967296) < 4294967296 := by
  unfold DI
  obtain ⟨a, ha⟩ : ∃ a, Y / 4294967296 = a := ⟨_, rfl⟩
  have hs := Y_split Y
  rw [ha] at hs ⊢
  have ha1 : 2147483648 ≤ a := by omega
  have ha2 : a < 4294967296 := by omega
  have hle : U / a * a ≤ U := Nat.div_mul_le_self U a
  have hmod : U - U / a * a = U % a := by
    have := Nat.div_add_mod U a
    rw [Nat.mul_comm] at this; omega
  refine ⟨⟨Nat.add_sub_cancel' hle, ?_, ?_⟩, hle, ?_⟩
  · rw [Nat.le_div_iff_mul_le (by omega)]
    have h1 : (U * 4294967296 + u) / Y * Y ≤ U * 4294967296 + u := Nat.div_mul_le_self _ _
    have h2 : (U * 4294967296 + u) / Y * (a * 4294967296) ≤ (U * 4294967296 + u) / Y * Y := Nat.mul_le_mul_left _ (by omega)
    rw [← Nat.mul_assoc] at h2
    omega
  · have h1 : U / a < 4294967298 := by
      rw [Nat.div_lt_iff_lt_mul (by omega)]
      omega
    omega
  · rw [hmod]
    exact Nat.lt_trans (Nat.mod_lt _ (by omega)) ha2

theorem prod_le {q z : Nat} (hq : q ≤ 4294967297) (hz : z < 4294967296) : q * z ≤ 18446744073709551615 := by
  have := Nat.mul_le_mul hq (show z ≤ 4294967295 by omega)
  omega

/-- A guess that is seen to be too great. -/
theorem di_more {Y U u q r : Nat} (hY : 9223372036854775808 ≤ Y) (hU : U < Y) (hu : u < 4294967296) (h : DI Y U u q r)
    (hc : 4294967296 ≤ q ∨ 4294967296 * r + u < q * (Y % 4294967296)) : 1 ≤ q ∧ DI Y U u (q - 1) (r + Y / 4294967296) ∧ q - 1 ≤ 4294967296 := by
  obtain ⟨h1, h2, h3⟩ := h
  have hs := Y_split Y
  have hq1 : 1 ≤ q := by
    rcases hc with hc | hc
    · omega
    · rcases Nat.eq_zero_or_pos q with e | e
      · rw [e] at hc; simp at hc
      · exact e
  have hlt : (U * 4294967296 + u) / Y < q := by
    rcases hc with hc | hc
    · refine Nat.lt_of_lt_of_le ?_ hc
      rw [Nat.div_lt_iff_lt_mul (by omega)]
      omega
    · rw [Nat.div_lt_iff_lt_mul (by omega)]
      have e : q * Y = q * (Y / 4294967296) * 4294967296 + q * (Y % 4294967296) := by
        conv => lhs; rw [hs]
        rw [Nat.mul_add, Nat.mul_assoc]
      rw [e]
      omega
  refine ⟨hq1, ⟨?_, by omega, by omega⟩, by omega⟩
  have e : (q - 1) * (Y / 4294967296) + Y / 4294967296 = q * (Y / 4294967296) := by
    conv => rhs; rw [show q = (q - 1) + 1 by omega]
    rw [Nat.add_mul, Nat.one_mul]
  omega

theorem di_done {Y U u q r : Nat} (hY : 9223372036854775808 ≤ Y) (h : DI Y U u q r) (hc : ¬ 4294967296 * r + u < q * (Y % 4294967296)) : q = (U * 4294967296 + u) / Y := by
  obtain ⟨h1, h2, h3⟩ := h
  have hs := Y_split Y
  refine Nat.le_antisymm ?_ h2
  rw [Nat.le_div_iff_mul_le (by omega)]
  have e : q * Y = q * (Y / 4294967296) * 4294967296 + q * (Y % 4294967296) := by
    conv => lhs; rw [hs]
    rw [Nat.mul_add, Nat.mul_assoc]
  rw [e]
  omega

theorem di_break {Y U u q r : Nat} (hY : 9223372036854775808 ≤ Y) (h : DI Y U u q r) (hr : 4294967296 ≤ r) (hq : q ≤ 4294967296) : q = (U * 4294967296 + u) / Y := by
  refine di_done hY h ?_
  have := Nat.mul_le_mul hq (show Y % 4294967296 ≤ 4294967295 by omega)
  omega

/-- What is left behind a digit, reckoned with wraps. -/
theorem rest_wrap {Y U u q : Nat} (hY : 9223372036854775808 ≤ Y) (hY2 : Y < 18446744073709551616) (hq : q = (U * 4294967296 + u) / Y) :
    IntKind.u64.wrap (IntKind.u64.wrap (IntKind.u64.wrap ((U : Int) * 4294967296) + (u : Int)) - IntKind.u64.wrap ((q : Int) * (Y : Int))) = (((U * 4294967296 + u) % Y : Nat) : Int) := by
  have h1 := Nat.div_add_mod (U * 4294967296 + u) Y
  rw [← hq, Nat.mul_comm] at h1
  have h2 := Nat.mod_lt (U * 4294967296 + u) (show 0 < Y by omega)
  obtain ⟨R, hR⟩ : ∃ R, (U * 4294967296 + u) % Y = R := ⟨_, rfl⟩
  rw [hR] at h1 h2 ⊢
  obtain ⟨p, hp⟩ : ∃ p, q * Y = p := ⟨_, rfl⟩
  have hp' : (q : Int) * (Y : Int) = (p : Int) := by rw [← hp]; exact (Int.natCast_mul q Y).symm
  rw [hp] at h1
  rw [hp']
  simp only [IntKind.wrap_u64]
  omega
theorem digit_lt {Y U u : Nat} (hY : 9223372036854775808 ≤ Y) (hU : U < Y) (hu : u < 4294967296) : (U * 4294967296 + u) / Y < 4294967296 := by
  rw [Nat.div_lt_iff_lt_mul (by omega)]
  omega

/-- Two digits, one behind the other. -/
theorem two_digits (Y U a b : Nat) (hY : 0 < Y) (hb : b < 4294967296) :
    (U * 18446744073709551616 + (a * 4294967296 + b)) / Y = (U * 4294967296 + a) / Y * 4294967296 + ((U * 4294967296 + a) % Y * 4294967296 + b) / Y ∧
    (U * 18446744073709551616 + (a * 4294967296 + b)) % Y = ((U * 4294967296 + a) % Y * 4294967296 + b) % Y := by
  have h1 := Nat.div_add_mod (U * 4294967296 + a) Y
  obtain ⟨q, hq⟩ : ∃ q, (U * 4294967296 + a) / Y = q := ⟨_, rfl⟩
  obtain ⟨r, hr⟩ : ∃ r, (U * 4294967296 + a) % Y = r := ⟨_, rfl⟩
  rw [hq, hr] at h1 ⊢
  have e : U * 18446744073709551616 + (a * 4294967296 + b) = (r * 4294967296 + b) + Y * (q * 4294967296) := by
    rw [← Nat.mul_assoc]
    omega
  rw [e, Nat.add_mul_div_left _ _ hY, Nat.add_mul_mod_self_left]
  exact ⟨Nat.add_comm _ _, rfl⟩

/-- What was shifted is divided as it was. -/
theorem shifted (n y s : Nat) (hy : 0 < y) : n * 2 ^ s / (y * 2 ^ s) = n / y ∧ n * 2 ^ s % (y * 2 ^ s) / 2 ^ s = n % y := by
  have hp : 0 < 2 ^ s := Nat.two_pow_pos s
  exact ⟨Nat.mul_div_mul_right _ _ hp, by rw [Nat.mul_mod_mul_right, Nat.mul_div_cancel _ hp]⟩

/-- The two halves, shifted. -/
theorem halves (hi lo s : Nat) (hs : s ≤ 63) (hl : lo < 18446744073709551616) :
    (hi * 18446744073709551616 + lo) * 2 ^ s = (hi * 2 ^ s + lo / 2 ^ (64 - s)) * 18446744073709551616 + lo * 2 ^ s % 18446744073709551616 := by
  have hp : 2 ^ (64 - s) * 2 ^ s = 18446744073709551616 := by rw [← Nat.pow_add, show 64 - s + s = 64 by omega]
  have e1 : lo * 2 ^ s / 18446744073709551616 = lo / 2 ^ (64 - s) := by
    rw [← hp, Nat.mul_div_mul_right _ _ (Nat.two_pow_pos s)]
  have e2 := Nat.div_add_mod (lo * 2 ^ s) 18446744073709551616
  rw [e1] at e2
  rw [Nat.add_mul, Nat.mul_right_comm]
  rw [← e2]
  generalize hi * 2 ^ s = p
  omega
theorem low_part (lo s : Nat) (hs : s ≤ 63) (hl : lo < 18446744073709551616) : lo / 2 ^ (64 - s) < 2 ^ s := by
  rw [Nat.div_lt_iff_lt_mul (Nat.two_pow_pos _), ← Nat.pow_add, show s + (64 - s) = 64 by omega]
  exact hl
end Dv
end Go.Proofs.Ytiddefbjnhhiiaa
