/-
  math/bits: Mul64, Add64: walks. Conditions: the arguments are of their kind.
-/
import Derived.Test.YtffogjhjgmohiaaDoorErrs
import Derived.Test.YtffogjhjgmohiaaDoorNum
import Derived.WalkKit
import Derived.Lib.Hide
import Derived.Outline
import Derived.Lib.Mul64
import Derived.Laws.Bits64b
import Derived.Laws.Externs
import Derived.Laws.RangeAny
namespace Go.Proofs.YtffogjhjgmohiaaDoor
open Go.RowKit
set_option linter.unusedVariables false

namespace M64
theorem maskN (a : Nat) (ha : a < 18446744073709551616) : bits .and .u64 (a : Int) 4294967295 = ((a % 4294967296 : Nat) : Int) := by
  have h := bits_and_u64_nat a 4294967295 ha (by omega)
  have e : a &&& 4294967295 = a % 4294967296 := Nat.and_two_pow_sub_one_eq_mod a 32
  rw [e] at h
  exact h
theorem divN (a : Nat) : (a : Int) / 4294967296 = ((a / 4294967296 : Nat) : Int) := by omega
theorem mulN (a b : Nat) : (a : Int) * (b : Int) = ((a * b : Nat) : Int) := (Int.natCast_mul a b).symm
theorem addN (a b : Nat) : (a : Int) + (b : Int) = ((a + b : Nat) : Int) := (Int.natCast_add a b).symm
theorem wrapN (a : Nat) (ha : a < 18446744073709551616) : IntKind.u64.wrap (a : Int) = (a : Int) := by rw [IntKind.wrap_u64]; omega
theorem wrapM (a : Nat) : IntKind.u64.wrap (a : Int) = ((a % 18446744073709551616 : Nat) : Int) := by rw [IntKind.wrap_u64]; omega
end M64

set_option maxHeartbeats 1000000 in
theorem mul64_any (x y : Nat) (hx : x < 18446744073709551616) (hy : y < 18446744073709551616) (w : World) :
    Calls Tryd.prog 59 #[.int .u64 x, .int .u64 y] w fun e w' => e = .returned (.tuple #[.int .u64 ((x * y / 18446744073709551616 : Nat) : Int), .int .u64 ((x * y % 18446744073709551616 : Nat) : Int)]) ∧ w = w' := by
  obtain ⟨bd, bt, bw, hhi⟩ := Lib.mul64_hi x y hx hy
  have ba := Lib.half_mul_le (a := x / 4294967296) (b := y / 4294967296) (by omega) (by omega)
  have bb := Lib.half_mul_le (a := x / 4294967296) (b := y % 4294967296) (by omega) (by omega)
  have bc := Lib.half_mul_le (a := x % 4294967296) (b := y / 4294967296) (by omega) (by omega)
  have ba' : x / 4294967296 * (y / 4294967296) < 18446744073709551616 := by omega
  have bb' : x / 4294967296 * (y % 4294967296) < 18446744073709551616 := by omega
  have bc' : x % 4294967296 * (y / 4294967296) < 18446744073709551616 := by omega
  have bh1 : x / 4294967296 * (y / 4294967296) + (x / 4294967296 * (y % 4294967296) + x % 4294967296 * (y % 4294967296) / 4294967296) / 4294967296 < 18446744073709551616 := by omega
  have bh : x / 4294967296 * (y / 4294967296) + (x / 4294967296 * (y % 4294967296) + x % 4294967296 * (y % 4294967296) / 4294967296) / 4294967296 + ((x / 4294967296 * (y % 4294967296) + x % 4294967296 * (y % 4294967296) / 4294967296) % 4294967296 + x % 4294967296 * (y / 4294967296)) / 4294967296 < 18446744073709551616 := by omega
  go_enter Tryd.func59, Tryd.ntmps59
  go_wp2
  simp only [M64.maskN x hx, M64.maskN y hy, M64.divN, M64.mulN, M64.addN, M64.wrapN _ bd, M64.wrapN _ bb', M64.wrapN _ bt, M64.maskN _ bt, M64.wrapN _ bc', M64.wrapN _ bw, M64.wrapN _ ba', M64.wrapN _ bh1, M64.wrapN _ bh, M64.wrapM (x * y)]
  rw [hhi]
  go_ret2
  exact ⟨rfl, rfl⟩

/-- math/bits.Add64 with no carry: a call runs here and now. -/
theorem add64_run (x y : Nat) (w : World) :
    (callFunc 60 #[.int .u64 x, .int .u64 y, .int .u64 0]).run Tryd.prog w =
      .ok (.value (.tuple #[.int .u64 (((x + y) % 18446744073709551616 : Nat) : Int), .int .u64 (((x + y) / 18446744073709551616 : Nat) : Int)])) w := by
  rw [run_callFunc_extern Tryd.func60 (by kernel_rfl) (by kernel_rfl) (by kernel_rfl) (e := add64Entry) (by kernel_rfl), run_add64 x y 0 (by omega) (by omega) (by omega) (by omega)]
  simp only [Result.andThen]
  congr 5 <;> omega
/-- Mul64, the two halves under names. -/
def MulPost (x y : Nat) (w : World) (e : Ending) (w' : World) : Prop :=
  ∃ hi lo : Nat, e = .returned (.tuple #[.int .u64 (hi : Int), .int .u64 (lo : Int)]) ∧ x * y = hi * 18446744073709551616 + lo ∧ lo < 18446744073709551616 ∧ w = w'
theorem mul64_ex (x y : Nat) (hx : x < 18446744073709551616) (hy : y < 18446744073709551616) (w : World) :
    Calls Tryd.prog 59 #[.int .u64 x, .int .u64 y] w (MulPost x y w) :=
  (mul64_any x y hx hy w).mono fun _ _ ⟨he, hw⟩ => ⟨_, _, he, by omega, by omega, hw⟩
/-- Add64, sum and carry under names. -/
theorem add64_ex (x : Nat) (y : Int) (hy : 0 ≤ y) : ∃ sm cr : Nat,
    (∀ w : World, (callFunc 60 #[.int .u64 (x : Int), .int .u64 y, .int .u64 0]).run Tryd.prog w = .ok (.value (.tuple #[.int .u64 (sm : Int), .int .u64 (cr : Int)])) w) ∧
    x + y.toNat = cr * 18446744073709551616 + sm ∧ sm < 18446744073709551616 := by
  obtain ⟨k, rfl⟩ := Int.eq_ofNat_of_zero_le hy
  exact ⟨_, _, fun w => add64_run x k w, by simp; omega, by omega⟩
theorem signed_yes (n : Nat) (m : Bool) (w : World) (h : n ≤ 9223372036854775807) :
    Calls Tryd.prog 61 #[.int .u64 (n : Int), .bool m] w fun e w' => e = .returned (.tuple #[.int .i64 (Num.sgn m n), .bool true]) ∧ w = w' := by
  cases m
  · go_enter Tryd.func61, Tryd.ntmps61
    go_wp2
    go_ret2
    exact ⟨rfl, rfl⟩
  · go_enter Tryd.func61, Tryd.ntmps61
    go_wp2
    go_ret2
    exact ⟨rfl, rfl⟩
theorem signed_no (n : Nat) (m : Bool) (w : World) (h : 9223372036854775807 < n) (h2 : n < 18446744073709551616) :
    Calls Tryd.prog 61 #[.int .u64 (n : Int), .bool m] w fun e w' => e = .returned (.tuple #[.int .i64 0, .bool false]) ∧ w = w' := by
  go_enter Tryd.func61, Tryd.ntmps61
  go_wp2
  go_ret2
  exact ⟨rfl, rfl⟩

open Go.RowKit Num
set_option linter.unusedVariables false

def ParsePost (l : List UInt8) (w : World) (e : Ending) (w' : World) : Prop :=
  (∀ n, parse l = some n → e = .returned (.tuple #[.int .i64 (n : Int), .bool true])) ∧ (parse l = none → e = .returned (.tuple #[.int .i64 0, .bool false])) ∧ Below w.heap.size w w'

theorem below_iter (w : World) (s : ByteArray) (p : Nat) : Below w.heap.size w (w.iter s p) := (Below.refl _ _).alloc (Nat.le_refl _) _
theorem pp_no {l : List UInt8} {w w' : World} (h : parse l = none) (hb : Below w.heap.size w w') : ParsePost l w (.returned (.tuple #[.int .i64 0, .bool false])) w' :=
  ⟨fun n hn => by (rw [h] at hn; cases hn), fun _ => rfl, hb⟩
theorem pp_yes {l : List UInt8} {w w' : World} {n : Nat} (h : parse l = some n) (hb : Below w.heap.size w w') : ParsePost l w (.returned (.tuple #[.int .i64 (n : Int), .bool true])) w' :=
  ⟨fun m hn => by rw [h] at hn; injection hn with hn; rw [hn], fun hn => by (rw [h] at hn; cases hn), hb⟩

/-! ### Plain steps: l: all; c: the byte that is next -/
theorem drop_at (s : ByteArray) (pos : Nat) (h : pos < s.size) : s.data.toList.drop pos = s[pos] :: s.data.toList.drop (pos + 1) := by
  rw [List.drop_eq_getElem_cons (by simpa using h)]; rfl
theorem pv_point {c : UInt8} {r : List UInt8} {n : Nat} {p : Int} {d z : Nat} (hz : c.toNat = z) (h : z = 46) (hp : p < 0) : pv (c :: r) n p d = pv r n 0 d := by
  rw [pv, if_pos ⟨by omega, hp⟩]
theorem pv_bad {c : UInt8} {r : List UInt8} {n : Nat} {p : Int} {d z : Nat} (hz : c.toNat = z) (h : z = 46 → 0 ≤ p) (h2 : z < 48 ∨ 57 < z ∨ p = 6) : pv (c :: r) n p d = none := by
  rw [pv, if_neg (show ¬ (c.toNat = 46 ∧ p < 0) by omega), if_pos (by omega)]
theorem pv_digit {c : UInt8} {r : List UInt8} {n : Nat} {p : Int} {d z : Nat} (hz : c.toNat = z) (h1 : 48 ≤ z) (h2 : z ≤ 57) (hp : p ≠ 6) : pv (c :: r) n p d = pv r (n * 10 + (z - 48)) (if 0 ≤ p then p + 1 else p) (d + 1) := by
  rw [pv, if_neg (show ¬ (c.toNat = 46 ∧ p < 0) by omega), if_neg (show ¬ (c.toNat < 48 ∨ 57 < c.toNat ∨ p = 6) by omega), hz]
theorem none_of {l r : List UInt8} {n : Nat} {p : Int} {d : Nat} (h : pv r n p d = pv l 0 (-1) 0) (h2 : pv r n p d = none) : parse l = none := by
  unfold parse; rw [← h, h2]; rfl
/-- Too great on the way: there is no number. -/
theorem none_big {l r : List UInt8} {n : Nat} {p : Int} {d : Nat} (h : pv r n p d = pv l 0 (-1) 0) (h1 : -1 ≤ p) (h2 : p ≤ 6) (hn : 18446744073709551616 ≤ n) : parse l = none := by
  unfold parse; rw [← h]
  cases hp : pv r n p d with
  | none => rfl
  | some x =>
    obtain ⟨n', p', d'⟩ := x
    have hm := (pv_mono r n p d n' p' d' h1 h2 hp).1
    simp only [pend]
    rw [if_pos]
    refine Or.inr (Or.inr ?_)
    have : 1 ≤ 10 ^ (6 - (max p' 0).toNat) := Nat.pow_pos (by omega)
    have := Nat.le_mul_of_pos_right n' this
    omega

theorem pend_neg {n : Nat} {p : Int} {d : Nat} (h : p < 0) : pend (some (n, p, d)) = if d = 0 then none else if 9223372036854775807 < n * 10 ^ (6 - 0) then none else some (n * 10 ^ (6 - 0)) := by
  have e : (max p 0).toNat = 0 := by omega
  simp only [pend, e]
  by_cases h1 : d = 0
  · rw [if_pos (Or.inl h1), if_pos h1]
  · rw [if_neg h1]
    by_cases h2 : 9223372036854775807 < n * 10 ^ (6 - 0)
    · rw [if_pos (Or.inr (Or.inr h2)), if_pos h2]
    · rw [if_neg h2, if_neg (by omega)]
theorem pend_pos {n k d : Nat} : pend (some (n, (k : Int), d)) = if d = 0 ∨ k = 0 then none else if 9223372036854775807 < n * 10 ^ (6 - k) then none else some (n * 10 ^ (6 - k)) := by
  have e : (max (k : Int) 0).toNat = k := by omega
  simp only [pend, e]
  by_cases h1 : d = 0 ∨ k = 0
  · rw [if_pos h1, if_pos (by omega)]
  · rw [if_neg h1]
    by_cases h2 : 9223372036854775807 < n * 10 ^ (6 - k)
    · rw [if_pos (Or.inr (Or.inr h2)), if_pos h2]
    · rw [if_neg h2, if_neg (by omega)]
theorem big_step {m hi lo k : Nat} (hk : k < 6) (hm : m * 10 = hi * 18446744073709551616 + lo) (h : 0 < hi) : 18446744073709551616 ≤ m * 10 ^ (6 - k) := by
  have e : 6 - k = (6 - (k + 1)) + 1 := by omega
  rw [e, Nat.pow_succ, Nat.mul_comm (10 ^ _), ← Nat.mul_assoc, hm]
  have := Nat.le_mul_of_pos_right (hi * 18446744073709551616 + lo) (Nat.pow_pos (n := 6 - (k + 1)) (show 0 < 10 by omega))
  omega
theorem small_step {m lo k : Nat} (hk : k < 6) (hm : m * 10 = 0 * 18446744073709551616 + lo) : lo * 10 ^ (6 - (k + 1)) = m * 10 ^ (6 - k) := by
  have e : 6 - k = (6 - (k + 1)) + 1 := by omega
  rw [e, Nat.pow_succ, Nat.mul_comm (10 ^ _) 10, ← Nat.mul_assoc, hm]
  simp

set_option maxHeartbeats 1600000 in
theorem parse_any (s : ByteArray) (w : World) (hsz : s.size ≤ 1000000000000000000) :
    Calls Tryd.prog 48 #[.string s] w (ParsePost s.data.toList w) := by
  go_enter Tryd.func48, Tryd.ntmps48
  go_wp2
  go_loopw [4, 5, 6] (fun sn sp sd wr => ∃ (pos n : Nat) (p : Int) (d : Nat), wr = w.iter s pos ∧ pos ≤ s.size ∧ sn = .int .u64 (n : Int) ∧ sp = .int .i64 p ∧ sd = .int .i64 (d : Int) ∧ pv (s.data.toList.drop pos) n p d = pv s.data.toList 0 (-1) 0 ∧ n < 18446744073709551616 ∧ -1 ≤ p ∧ p ≤ 6 ∧ d ≤ pos)
    (fun _ _ _ wr => s.size - wr.iterPos w.heap.size)
  case atStart => exact ⟨0, 0, -1, 0, rfl, by omega, rfl, rfl, rfl, rfl, by omega, by omega, by omega, by omega⟩
  case round =>
    obtain ⟨pos, n, p, d, rfl, hpos, rfl, rfl, rfl, hpv, hn, hp1, hp6, hd⟩ := hrel
    have hbel := below_iter w s pos
    by_cases hlt : pos < s.size
    · rw [drop_at s pos hlt] at hpv
      by_cases ha : s[pos].toNat < 128
      · have hnx := fun ty => run_next_ascii (P := Tryd.prog) w s pos ty hlt ha
        obtain ⟨c, hc⟩ : ∃ c : UInt8, s[pos] = c := ⟨_, rfl⟩
        simp only [hc] at hnx hpv ha
        clear hc
        obtain ⟨z, hz⟩ : ∃ z : Nat, c.toNat = z := ⟨_, rfl⟩
        simp only [hz] at hnx ha
        have HZ := Lib.hid hz
        have HPV := Lib.hid hpv
        clear hz hpv
        by_cases h46 : z = 46
        · have t46 : ((z : Int) == 46) = true := by simp; omega
          by_cases hp : p < 0
          · have hst : Hid (pv (s.data.toList.drop (pos + 1)) n 0 d = pv s.data.toList 0 (-1) 0) := by
              show _ = _
              rw [← HPV.out, pv_point HZ.out h46 hp]
            clear h46
            go_wp2
            go_roundw
            case rel => exact ⟨pos + 1, n, 0, d, rfl, by omega, rfl, rfl, rfl, hst.out, hn, by omega, by omega, by omega⟩
            case measure => simp; omega
          · have hno : Hid (parse s.data.toList = none) := none_of HPV.out (pv_bad HZ.out (by omega) (by omega))
            have hp0 : 0 ≤ p := by omega
            have hdi : (z : Int) < 48 := by omega
            clear h46
            go_wp2
            go_ret2
            exact pp_no hno.out (below_iter w s _)
        · have t46 : ((z : Int) == 46) = false := by simp; omega
          by_cases hdig : z < 48 ∨ 57 < z ∨ p = 6
          · have hno : Hid (parse s.data.toList = none) := none_of HPV.out (pv_bad HZ.out (by omega) hdig)
            clear h46
            rcases hdig with hdig | hdig | hdig
            · have hdi : (z : Int) < 48 := by omega
              go_wp2
              go_ret2
              exact pp_no hno.out (below_iter w s _)
            · have hdi : 57 < (z : Int) := by omega
              have hdi2 : 48 ≤ (z : Int) := by omega
              go_wp2
              go_ret2
              exact pp_no hno.out (below_iter w s _)
            · have t6 : (p == 6) = true := by simp; omega
              clear hdig
              go_wp2
              all_goals go_ret2
              all_goals exact pp_no hno.out (below_iter w s _)
          · have hz1 : 48 ≤ (z : Int) := by omega
            have hz2 : (z : Int) ≤ 57 := by omega
            have hp6' : p < 6 := by omega
            have t6 : (p == 6) = false := by simp; omega
            have hst : Hid (pv (s.data.toList.drop (pos + 1)) (n * 10 + (z - 48)) (if 0 ≤ p then p + 1 else p) (d + 1) = pv s.data.toList 0 (-1) 0) := by
              show _ = _
              rw [← HPV.out, pv_digit HZ.out (by omega) (by omega) (by omega)]
            clear h46 hdig
            obtain ⟨p', hp'⟩ : ∃ p', (if 0 ≤ p then p + 1 else p) = p' := ⟨_, rfl⟩
            rw [hp'] at hst
            have hp'' : -1 ≤ p' ∧ p' ≤ 6 := by rw [← hp']; split <;> omega
            obtain ⟨q1, q2⟩ := hp''
            by_cases hp0 : 0 ≤ p
            · have HP' : Hid (p' = p + 1) := by show _ = _; rw [← hp', if_pos hp0]
              clear hp'
              go_wp2_with fail
              refine (mul64_ex n 10 hn (by omega) _).mono ?_
              rintro e w' ⟨hi, lo, rfl, hm, hlo, rfl⟩
              obtain ⟨sm, cr, hadd, hs1, hs2⟩ := add64_ex lo ((z : Int) - 48) (by omega)
              by_cases hov : 0 < hi + cr
              · have hno : Hid (parse s.data.toList = none) := none_big hst.out q1 q2 (by omega)
                have hcr : cr ≤ 1 := by omega
                have hhi : hi ≤ 10 := by omega
                have hov' : 0 < (hi : Int) + (cr : Int) := by omega
                clear hm hs1 hov
                go_wp2
                go_ret2
                exact pp_no hno.out (below_iter w s _)
              · have h0 : hi = 0 ∧ cr = 0 := by omega
                obtain ⟨rfl, rfl⟩ := h0
                have hsm : Hid (n * 10 + (z - 48) = sm) := by show _ = _; omega
                clear hm hs1 hov
                go_wp2
                go_roundw
                case rel => exact ⟨pos + 1, sm, p', d + 1, rfl, by omega, rfl, by rw [HP'.out], by go_num, by rw [← hsm.out]; exact hst.out, hs2, q1, q2, by omega⟩
                case measure => simp; omega
            · have HP' : Hid (p' = p) := by show _ = _; rw [← hp', if_neg hp0]
              clear hp'
              go_wp2_with fail
              refine (mul64_ex n 10 hn (by omega) _).mono ?_
              rintro e w' ⟨hi, lo, rfl, hm, hlo, rfl⟩
              obtain ⟨sm, cr, hadd, hs1, hs2⟩ := add64_ex lo ((z : Int) - 48) (by omega)
              by_cases hov : 0 < hi + cr
              · have hno : Hid (parse s.data.toList = none) := none_big hst.out q1 q2 (by omega)
                have hcr : cr ≤ 1 := by omega
                have hhi : hi ≤ 10 := by omega
                have hov' : 0 < (hi : Int) + (cr : Int) := by omega
                clear hm hs1 hov
                go_wp2
                go_ret2
                exact pp_no hno.out (below_iter w s _)
              · have h0 : hi = 0 ∧ cr = 0 := by omega
                obtain ⟨rfl, rfl⟩ := h0
                have hsm : Hid (n * 10 + (z - 48) = sm) := by show _ = _; omega
                clear hm hs1 hov
                go_wp2
                go_roundw
                case rel => exact ⟨pos + 1, sm, p', d + 1, rfl, by omega, rfl, by rw [HP'.out], by go_num, by rw [← hsm.out]; exact hst.out, hs2, q1, q2, by omega⟩
                case measure => simp; omega
      · have hnx := fun ty => run_next_any (P := Tryd.prog) w s pos ty hlt
        have hdh := decode_high s pos hlt (by omega)
        obtain ⟨z, hz⟩ : ∃ z, (Utf8.decode s pos).1 = z := ⟨_, rfl⟩
        obtain ⟨wd, hwd⟩ : ∃ z, (Utf8.decode s pos).2 = z := ⟨_, rfl⟩
        simp only [hz, hwd] at hnx hdh
        obtain ⟨hd1, hd2⟩ := hdh
        have hno : Hid (parse s.data.toList = none) := none_of hpv (pv_bad (z := s[pos].toNat) rfl (by omega) (by omega))
        have t46 : (z == 46) = false := by simp; omega
        have hdi : 57 < z := by omega
        have hdi2 : 48 ≤ z := by omega
        clear hz hwd hpv ha
        go_wp2
        go_ret2
        exact pp_no hno.out (below_iter w s _)
    · have hnx := fun ty => run_next_end (P := Tryd.prog) w s pos ty hlt
      have hend : Hid (parse s.data.toList = pend (some (n, p, d))) := by
        show _ = _
        unfold parse
        rw [← hpv, List.drop_eq_nil_of_le (by show s.data.toList.length ≤ _; have : s.data.toList.length = s.size := rfl; omega)]
        rfl
      clear hpv
      by_cases hp0 : p < 0
      · have hF0 : Hid (pend (some (n, p, d)) = if d = 0 then none else if 9223372036854775807 < n * 10 ^ (6 - 0) then none else some (n * 10 ^ (6 - 0))) := pend_neg hp0
        have hk06 : 0 ≤ 6 := by omega
        obtain ⟨F, hF⟩ : ∃ F, n * 10 ^ (6 - 0) = F := ⟨_, rfl⟩
        rw [hF] at hF0
        go_wp2
        go_loopw [4, 12] (fun sn sk wr => ∃ (k m : Nat), k ≤ 6 ∧ m < 18446744073709551616 ∧ m * 10 ^ (6 - k) = n * 10 ^ (6 - 0) ∧ sn = .int .u64 (m : Int) ∧ sk = .int .i64 (k : Int) ∧ wr = w.iter s pos) (fun _ sk _ => 6 - (intOf sk).toNat)
        case atStart => exact ⟨0, n, by omega, hn, rfl, rfl, by first | rfl | (rw [show max p 0 = 0 by omega]; rfl), rfl⟩
        case round =>
          obtain ⟨k, m, hk, hm18, hmF, rfl, rfl, rfl⟩ := hrel
          rw [hF] at hmF
          have HMF := Lib.hid hmF
          have HFF := Lib.hid hF
          clear hmF hF
          by_cases hk6 : k < 6
          · go_wp2_with fail
            refine (mul64_ex m 10 hm18 (by omega) _).mono ?_
            rintro e w' ⟨hi, lo, rfl, hm, hlo, rfl⟩
            by_cases hov : 0 < hi
            · have hno : Hid (parse s.data.toList = none) := by
                show _ = _
                rw [hend.out, hF0.out]
                have hb : 18446744073709551616 ≤ F := by rw [← HMF.out]; exact big_step hk6 hm hov
                split
                · rfl
                · rw [if_pos (by omega)]
              have hov' : 0 < (hi : Int) := by omega
              clear hm hov
              go_wp2
              go_ret2
              exact pp_no hno.out (below_iter w s _)
            · obtain rfl : hi = 0 := by omega
              have hnx2 : Hid (lo * 10 ^ (6 - (k + 1)) = n * 10 ^ (6 - 0)) := by
                show _ = _
                rw [HFF.out, ← HMF.out]
                exact small_step hk6 hm
              clear hm hov
              go_wp2
              go_roundw
              case rel => exact ⟨k + 1, lo, by omega, hlo, hnx2.out, rfl, by go_num, by trivial⟩
              case measure => simp [intOf]; omega
          · have hk6' : k = 6 := by omega
            have hm : Hid (m = F) := by show _ = _; rw [← HMF.out, hk6']; simp
            by_cases hd0 : d = 0
            · have td : ((d : Int) == 0) = true := by simp; omega
              have hno : Hid (parse s.data.toList = none) := by show _ = _; rw [hend.out, hF0.out, if_pos hd0]
              clear hd0 hk6'
              go_wp2
              go_ret2
              exact pp_no hno.out (below_iter w s _)
            · have td : ((d : Int) == 0) = false := by simp; omega
              have tp : (p == 0) = false := by simp; omega
              by_cases hbig : 9223372036854775807 < m
              · have hno : Hid (parse s.data.toList = none) := by show _ = _; rw [hend.out, hF0.out, if_neg hd0, ← hm.out, if_pos hbig]
                clear hd0 hk6'
                go_wp2_with fail
                refine (signed_no m false _ hbig hm18).mono ?_
                rintro e w' ⟨rfl, rfl⟩
                go_wp2
                go_ret2
                exact pp_no hno.out (below_iter w s _)
              · have hyes : Hid (parse s.data.toList = some m) := by show _ = _; rw [hend.out, hF0.out, if_neg hd0, ← hm.out, if_neg hbig]
                clear hd0 hk6'
                go_wp2_with fail
                refine (signed_yes m false _ (by omega)).mono ?_
                rintro e w' ⟨rfl, rfl⟩
                go_wp2
                go_ret2
                exact pp_yes hyes.out (below_iter w s _)
      · obtain ⟨k0, rfl⟩ := Int.eq_ofNat_of_zero_le (show 0 ≤ p by omega)
        have hF0 : Hid (pend (some (n, (k0 : Int), d)) = if d = 0 ∨ k0 = 0 then none else if 9223372036854775807 < n * 10 ^ (6 - k0) then none else some (n * 10 ^ (6 - k0))) := pend_pos
        have hk06 : k0 ≤ 6 := by omega
        obtain ⟨F, hF⟩ : ∃ F, n * 10 ^ (6 - k0) = F := ⟨_, rfl⟩
        rw [hF] at hF0
        go_wp2
        go_loopw [4, 12] (fun sn sk wr => ∃ (k m : Nat), k ≤ 6 ∧ m < 18446744073709551616 ∧ m * 10 ^ (6 - k) = n * 10 ^ (6 - k0) ∧ sn = .int .u64 (m : Int) ∧ sk = .int .i64 (k : Int) ∧ wr = w.iter s pos) (fun _ sk _ => 6 - (intOf sk).toNat)
        case atStart => exact ⟨k0, n, by omega, hn, rfl, rfl, rfl, rfl⟩
        case round =>
          obtain ⟨k, m, hk, hm18, hmF, rfl, rfl, rfl⟩ := hrel
          rw [hF] at hmF
          have HMF := Lib.hid hmF
          have HFF := Lib.hid hF
          clear hmF hF
          by_cases hk6 : k < 6
          · go_wp2_with fail
            refine (mul64_ex m 10 hm18 (by omega) _).mono ?_
            rintro e w' ⟨hi, lo, rfl, hm, hlo, rfl⟩
            by_cases hov : 0 < hi
            · have hno : Hid (parse s.data.toList = none) := by
                show _ = _
                rw [hend.out, hF0.out]
                have hb : 18446744073709551616 ≤ F := by rw [← HMF.out]; exact big_step hk6 hm hov
                split
                · rfl
                · rw [if_pos (by omega)]
              have hov' : 0 < (hi : Int) := by omega
              clear hm hov
              go_wp2
              go_ret2
              exact pp_no hno.out (below_iter w s _)
            · obtain rfl : hi = 0 := by omega
              have hnx2 : Hid (lo * 10 ^ (6 - (k + 1)) = n * 10 ^ (6 - k0)) := by
                show _ = _
                rw [HFF.out, ← HMF.out]
                exact small_step hk6 hm
              clear hm hov
              go_wp2
              go_roundw
              case rel => exact ⟨k + 1, lo, by omega, hlo, hnx2.out, rfl, by go_num, by trivial⟩
              case measure => simp [intOf]; omega
          · have hk6' : k = 6 := by omega
            have hm : Hid (m = F) := by show _ = _; rw [← HMF.out, hk6']; simp
            by_cases hd0 : d = 0 ∨ k0 = 0
            · have hno : Hid (parse s.data.toList = none) := by show _ = _; rw [hend.out, hF0.out, if_pos hd0]
              clear hk6'
              by_cases hd00 : d = 0
              · have td : ((d : Int) == 0) = true := by simp; omega
                clear hd0 hd00
                go_wp2
                go_ret2
                exact pp_no hno.out (below_iter w s _)
              · have td : ((d : Int) == 0) = false := by simp; omega
                have tp : ((k0 : Int) == 0) = true := by simp; omega
                clear hd0 hd00
                go_wp2
                go_ret2
                exact pp_no hno.out (below_iter w s _)
            · have td : ((d : Int) == 0) = false := by simp; omega
              have tp : ((k0 : Int) == 0) = false := by simp; omega
              by_cases hbig : 9223372036854775807 < m
              · have hno : Hid (parse s.data.toList = none) := by show _ = _; rw [hend.out, hF0.out, if_neg hd0, ← hm.out, if_pos hbig]
                clear hd0 hk6'
                go_wp2_with fail
                refine (signed_no m false _ hbig hm18).mono ?_
                rintro e w' ⟨rfl, rfl⟩
                go_wp2
                go_ret2
                exact pp_no hno.out (below_iter w s _)
              · have hyes : Hid (parse s.data.toList = some m) := by show _ = _; rw [hend.out, hF0.out, if_neg hd0, ← hm.out, if_neg hbig]
                clear hd0 hk6'
                go_wp2_with fail
                refine (signed_yes m false _ (by omega)).mono ?_
                rintro e w' ⟨rfl, rfl⟩
                go_wp2
                go_ret2
                exact pp_yes hyes.out (below_iter w s _)
end Go.Proofs.YtffogjhjgmohiaaDoor
