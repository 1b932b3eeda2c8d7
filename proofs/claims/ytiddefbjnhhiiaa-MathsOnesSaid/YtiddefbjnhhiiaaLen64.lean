/-
  math/bits: Len64, LeadingZeros64: walks. Condition: the argument is a uint64.
-/
import Derived.Test.YtiddefbjnhhiiaaNumW
import Derived.Lib.BitFns
import Derived.Outline
namespace Go.Proofs.Ytiddefbjnhhiiaa
open Go.RowKit
set_option linter.unusedVariables false

theorem l8_size : Lib.len8tab.size = 256 := by decide +kernel
theorem l8_all : ∀ n : Fin 256, (Lib.len8tab[n.val]'(by rw [l8_size]; exact n.isLt)).toNat = Lib.bitLen n.val := by decide +kernel
theorem l8_at (k : Nat) (h : k < Lib.len8tab.size) : (Lib.len8tab[k]).toNat = Lib.bitLen k := l8_all ⟨k, by rw [l8_size] at h; exact h⟩
theorem l8_le (k : Nat) (h : k < 256) : Lib.bitLen k ≤ 8 := Lib.bitLen_le8 ⟨k, h⟩

/-- What the table's number comes to. -/
theorem l8_sum {x : Nat} (d m : Nat) {y : Int} (hy : y.toNat = x / m) (hlt : x / m < 256) (hb : Lib.bitLen x = d + Lib.bitLen (x / m)) (hd : d ≤ 56) (h : y.toNat < Lib.len8tab.size) :
    wrap64 ((d : Int) + wrap64 ((Lib.len8tab[y.toNat]).toNat : Int)) = (Lib.bitLen x : Int) := by
  have e := l8_at y.toNat h
  rw [e, hy]
  have := l8_le _ hlt
  rw [IntWalk.wrap64_in (Lib.bitLen (x / m) : Int) (by omega), IntWalk.wrap64_in _ (by omega)]
  omega

set_option maxHeartbeats 4000000 in
set_option maxRecDepth 100000 in
theorem len64_any (x : Int) (w : World) (h0 : 0 ≤ x) (h1 : x ≤ 18446744073709551615) :
    Calls Try.prog 37 #[.int .u64 x] w fun e w' => e = .returned (.int .i64 (Lib.bitLen x.toNat : Int)) ∧ w = w' := by
  have hsz := l8_size
  go_enter Try.func37, Try.ntmps37
  go_wp2
  all_goals (go_ret; refine ⟨congrArg Ending.returned (congrArg (Value.int IntKind.i64) ?_), rfl⟩)
  · exact l8_sum 56 72057594037927936 (by omega) (by omega) (Lib.bitLen_shift56 x.toNat (by omega) (by omega)) (by omega) _
  · exact l8_sum 48 281474976710656 (by omega) (by omega) (Lib.bitLen_shift48 x.toNat (by omega) (by omega)) (by omega) _
  · exact l8_sum 40 1099511627776 (by omega) (by omega) (Lib.bitLen_shift40 x.toNat (by omega) (by omega)) (by omega) _
  · exact l8_sum 32 4294967296 (by omega) (by omega) (Lib.bitLen_shift32 x.toNat (by omega) (by omega)) (by omega) _
  · exact l8_sum 24 16777216 (by omega) (by omega) (Lib.bitLen_shift24 x.toNat (by omega) (by omega)) (by omega) _
  · exact l8_sum 16 65536 (by omega) (by omega) (Lib.bitLen_shift16 x.toNat (by omega) (by omega)) (by omega) _
  · exact l8_sum 8 256 (by omega) (by omega) (Lib.bitLen_shift8 x.toNat (by omega) (by omega)) (by omega) _
  · have e := l8_at x.toNat (by rw [l8_size]; omega)
    have := l8_le x.toNat (by omega)
    rw [e, IntWalk.wrap64_in (Lib.bitLen x.toNat : Int) (by omega), IntWalk.wrap64_in _ (by omega)]

theorem bl_le (f : Nat) : ∀ x, Lib.bitLenAux f x ≤ f := by
  induction f with
  | zero => intro x; simp [Lib.bitLenAux]
  | succ f ih => intro x; have := ih (x / 2); simp only [Lib.bitLenAux]; split <;> omega
theorem bl_spec (f : Nat) : ∀ x, x < 2 ^ f → x < 2 ^ Lib.bitLenAux f x ∧ (x ≠ 0 → 1 ≤ Lib.bitLenAux f x ∧ 2 ^ (Lib.bitLenAux f x - 1) ≤ x) := by
  induction f with
  | zero => intro x h; simp at h; subst h; simp [Lib.bitLenAux]
  | succ f ih =>
    intro x h
    by_cases hx : x = 0
    · subst hx; simp [Lib.bitLenAux]
    · rw [Nat.pow_succ] at h
      obtain ⟨h1, h2⟩ := ih (x / 2) (by omega)
      simp only [Lib.bitLenAux, if_neg hx]
      refine ⟨by rw [Nat.add_comm, Nat.pow_succ]; omega, fun _ => ⟨by omega, ?_⟩⟩
      by_cases hx2 : x / 2 = 0
      · have : Lib.bitLenAux f (x / 2) = 0 := by rw [hx2]; cases f <;> simp [Lib.bitLenAux]
        rw [this]; simp; omega
      · obtain ⟨h3, h4⟩ := h2 hx2
        have e : 1 + Lib.bitLenAux f (x / 2) - 1 = (Lib.bitLenAux f (x / 2) - 1) + 1 := by omega
        rw [e, Nat.pow_succ]; omega

/-- How far y is shifted: its highest bit is then at 63. -/
def LzPost (y : Nat) (w : World) (e : Ending) (w' : World) : Prop :=
  ∃ s : Nat, e = .returned (.int .i64 (s : Int)) ∧ s ≤ 63 ∧ 9223372036854775808 ≤ y * 2 ^ s ∧ y * 2 ^ s < 18446744073709551616 ∧ w = w'
theorem lz_any (y : Int) (w : World) (h0 : 1 ≤ y) (h1 : y ≤ 18446744073709551615) :
    Calls Try.prog 35 #[.int .u64 y] w (LzPost y.toNat w) := by
  have hb := bl_spec 64 y.toNat (by omega)
  have hl := bl_le 64 y.toNat
  obtain ⟨b1, b2⟩ := hb
  obtain ⟨b3, b4⟩ := b2 (by omega)
  obtain ⟨b, hb⟩ : ∃ b, Lib.bitLen y.toNat = b := ⟨_, rfl⟩
  have hb' : Lib.bitLenAux 64 y.toNat = b := hb
  rw [hb'] at b1 b3 b4 hl
  have e1 : y.toNat * 2 ^ (64 - b) < 18446744073709551616 := by
    have := Nat.mul_lt_mul_of_pos_right b1 (Nat.two_pow_pos (64 - b))
    rw [← Nat.pow_add, show b + (64 - b) = 64 by omega] at this
    exact this
  have e2 : 9223372036854775808 ≤ y.toNat * 2 ^ (64 - b) := by
    have := Nat.mul_le_mul_right (2 ^ (64 - b)) b4
    rw [← Nat.pow_add, show b - 1 + (64 - b) = 63 by omega] at this
    exact this
  have E1 := Lib.hid e1
  have E2 := Lib.hid e2
  have HB := Lib.hid hb
  clear e1 e2 hb hb' b1 b2 b4
  go_enter Try.func35, Try.ntmps35
  go_wp2_with fail
  refine (len64_any y _ (by omega) h1).mono ?_
  rintro e w' ⟨rfl, rfl⟩
  rw [HB.out]
  go_wp2
  go_ret
  exact ⟨64 - b, by refine congrArg Ending.returned (congrArg (Value.int IntKind.i64) ?_); omega, by omega, E2.out, E1.out, rfl⟩
end Go.Proofs.Ytiddefbjnhhiiaa
