/-
  Plain: n & (2^i - 1) of an int64 is n's remainder. No program in sight.
-/
import Derived.WalkKit
namespace Go.Proofs.YtffogjhjgmohiaaDoor
open Go.RowKit

theorem and_i64 (n : Int) (i : Nat) (hi : i ≤ 62) : bits .and .i64 n ((2 ^ i - 1 : Nat) : Int) = n % ((2 ^ i : Nat) : Int) := by
  have hp : 0 < 2 ^ i := Nat.two_pow_pos i
  have hle : 2 ^ i ≤ 2 ^ 62 := Nat.pow_le_pow_right (by omega) hi
  have h64 : (2 : Int) ^ 64 = ((2 ^ 64 : Nat) : Int) := by simp
  have h1 : 0 ≤ n % ((2 ^ 64 : Nat) : Int) := Int.emod_nonneg _ (by omega)
  obtain ⟨m, hm⟩ := Int.eq_ofNat_of_zero_le h1
  have hm64 : m < 2 ^ 64 := by have := Int.emod_lt_of_pos n (show (0 : Int) < ((2 ^ 64 : Nat) : Int) by omega); omega
  have hmask : (2 ^ i - 1) % 2 ^ 64 = 2 ^ i - 1 := Nat.mod_eq_of_lt (by omega)
  have e0 : (BitVec.ofInt 64 n &&& BitVec.ofNat 64 (2 ^ i - 1)).toNat = m % 2 ^ i := by
    rw [BitVec.toNat_and, BitVec.toNat_ofInt, BitVec.toNat_ofNat, hmask, hm]
    exact Nat.and_two_pow_sub_one_eq_mod m i
  have e3 : bits .and .i64 n ((2 ^ i - 1 : Nat) : Int) = IntKind.i64.wrap (((BitVec.ofInt 64 n &&& BitVec.ofNat 64 (2 ^ i - 1)).toNat : Nat) : Int) := by
    simp only [bits, BitVec.ofInt_natCast]; rfl
  rw [e3, e0]
  have hlt : m % 2 ^ i < 2 ^ i := Nat.mod_lt _ hp
  have e1 : IntKind.i64.wrap ((m % 2 ^ i : Nat) : Int) = ((m % 2 ^ i : Nat) : Int) := IntWalk.i64_in _ ⟨by omega, by omega⟩
  have hd : ((2 ^ i : Nat) : Int) ∣ ((2 ^ 64 : Nat) : Int) := by
    have : 2 ^ i ∣ 2 ^ 64 := Nat.pow_dvd_pow 2 (by omega)
    exact_mod_cast this
  have e2 : n % ((2 ^ i : Nat) : Int) = (m : Int) % ((2 ^ i : Nat) : Int) := by rw [← Int.emod_emod_of_dvd n hd, hm]
  rw [e2]
  exact e1
theorem and_i64_40 (n : Int) : bits .and .i64 n 1099511627775 = n % 1099511627776 := and_i64 n 40 (by omega)
theorem and_i64_1 (n : Int) : bits .and .i64 n 1 = n % 2 := and_i64 n 1 (by omega)
theorem and_i64_2 (n : Int) : bits .and .i64 n 3 = n % 4 := and_i64 n 2 (by omega)
theorem and_i64_3 (n : Int) : bits .and .i64 n 7 = n % 8 := and_i64 n 3 (by omega)
theorem and_i64_4 (n : Int) : bits .and .i64 n 15 = n % 16 := and_i64 n 4 (by omega)
theorem and_i64_5 (n : Int) : bits .and .i64 n 31 = n % 32 := and_i64 n 5 (by omega)
theorem and_i64_6 (n : Int) : bits .and .i64 n 63 = n % 64 := and_i64 n 6 (by omega)
theorem and_i64_7 (n : Int) : bits .and .i64 n 127 = n % 128 := and_i64 n 7 (by omega)
end Go.Proofs.YtffogjhjgmohiaaDoor
