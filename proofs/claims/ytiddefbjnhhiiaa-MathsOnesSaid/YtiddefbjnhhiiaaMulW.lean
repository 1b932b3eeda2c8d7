/-
  num: scaled, Mul, Quo: walks. Conditions: mantissas.
-/
import Derived.Test.YtiddefbjnhhiiaaPrintW
import Derived.Test.YtiddefbjnhhiiaaDiv64
namespace Go.Proofs.Ytiddefbjnhhiiaa
open Go.RowKit Num
set_option linter.unusedVariables false

/-- a times b by c, rounded, if it fits 64 bits. -/
def ScaledPost (a b c : Nat) (w : World) (e : Ending) (w' : World) : Prop :=
  (rnd (a * b) c < 18446744073709551616 → e = .returned (.tuple #[.int .u64 (rnd (a * b) c : Int), .bool true])) ∧ (18446744073709551616 ≤ rnd (a * b) c → ∃ v : Int, e = .returned (.tuple #[.int .u64 v, .bool false])) ∧ Below w.heap.size w w'

theorem sp_yes {a b c v : Nat} {w w' : World} {x : Int} (h : rnd (a * b) c = v) (hv : v < 18446744073709551616) (hx : x = (v : Int)) (hb : Below w.heap.size w w') : ScaledPost a b c w (.returned (.tuple #[.int .u64 x, .bool true])) w' :=
  ⟨fun _ => by rw [h, hx], fun h2 => absurd h2 (by omega), hb⟩
theorem sp_no {a b c : Nat} {w w' : World} {x : Int} (h : 18446744073709551616 ≤ rnd (a * b) c) (hb : Below w.heap.size w w') : ScaledPost a b c w (.returned (.tuple #[.int .u64 x, .bool false])) w' :=
  ⟨fun h2 => absurd h2 (by omega), fun _ => ⟨_, rfl⟩, hb⟩

set_option maxHeartbeats 800000 in
theorem scaled_any (a b c : Nat) (w : World) (ha : a < 18446744073709551616) (hb : b < 18446744073709551616) (hc : c < 18446744073709551616) (hc0 : 0 < c) :
    Calls Try.prog 26 #[.int .u64 (a : Int), .int .u64 (b : Int), .int .u64 (c : Int)] w (ScaledPost a b c w) := by
  go_enter Try.func26, Try.ntmps26
  go_wp2_with fail
  refine (mul64_ex a b ha hb _).mono ?_
  rintro e w' ⟨hi, lo, rfl, hm, hlo, rfl⟩
  have HM := Lib.hid hm
  clear hm
  by_cases hge : c ≤ hi
  · have hge' : (c : Int) ≤ (hi : Int) := by omega
    have hbig : Hid (18446744073709551616 ≤ rnd (a * b) c) := by
      show _ ≤ _
      rw [HM.out]
      unfold rnd
      have : 18446744073709551616 ≤ (hi * 18446744073709551616 + lo) / c := by
        rw [Nat.le_div_iff_mul_le hc0]
        have := Nat.mul_le_mul_left 18446744073709551616 hge
        omega
      exact Nat.le_trans this (Nat.le_add_right _ _)
    go_wp2
    go_ret2
    exact sp_no hbig.out (Below.refl _ _)
  · have hge' : ¬ (c : Int) ≤ (hi : Int) := by omega
    go_wp2_with fail
    refine (div64_any hi lo c _ (by omega) hc hlo).mono ?_
    rintro e w1 ⟨rfl, hbl⟩
    obtain ⟨T, hT⟩ : ∃ T, hi * 18446744073709551616 + lo = T := ⟨_, rfl⟩
    rw [hT]
    have hrl : T % c < c := Nat.mod_lt _ hc0
    have hql : T / c < 18446744073709551616 := by
      rw [Nat.div_lt_iff_lt_mul hc0, ← hT]
      have := Nat.mul_le_mul_left 18446744073709551616 (show hi + 1 ≤ c by omega)
      omega
    obtain ⟨q, hq⟩ : ∃ q, T / c = q := ⟨_, rfl⟩
    obtain ⟨r, hr⟩ : ∃ r, T % c = r := ⟨_, rfl⟩
    have hrnd : rnd (a * b) c = q + if c ≤ 2 * r then 1 else 0 := by rw [HM.out, hT]; unfold rnd; rw [hq, hr]
    rw [hr] at hrl
    rw [hq] at hql
    rw [hq, hr]
    clear hq hr hT
    by_cases hup : c ≤ 2 * r
    · have hup' : (c : Int) - (r : Int) ≤ (r : Int) := by omega
      rw [if_pos hup] at hrnd
      have HR := Lib.hid hrnd
      clear hrnd
      by_cases hmax : q = 18446744073709551615
      · have ew : IntKind.u64.wrap ((q : Int) + 1) = 0 := by rw [hmax, IntKind.wrap_u64]; rfl
        have hq18 : Hid (18446744073709551616 ≤ rnd (a * b) c) := by show _ ≤ _; rw [HR.out]; omega
        have hd : decide ((r : Int) < (c : Int) - (r : Int)) = false := by simp; omega
        clear hmax hql
        go_wp2
        go_ret2
        exact sp_no hq18.out hbl
      · have hq1 : ((q : Int) + 1 != 0) = true := by simp; omega
        have hq2 : q < 18446744073709551615 := by omega
        go_wp2
        go_ret2
        exact sp_yes HR.out (by omega) (by omega) hbl
    · have hup' : ¬ (c : Int) - (r : Int) ≤ (r : Int) := by omega
      have hlt' : (r : Int) < (c : Int) - (r : Int) := by omega
      rw [if_neg hup] at hrnd
      have HR := Lib.hid hrnd
      clear hrnd
      go_wp2
      all_goals go_ret2
      all_goals exact sp_yes HR.out (by omega) (by omega) hbl

/-- A product by c, or a quotient: how great it is, and its sign; 0 and false where it is too great. -/
def mulV (neg : Bool) (n c : Nat) : Int := if rnd n c ≤ 9223372036854775807 then sgn neg (rnd n c) else 0
def mulOk (n c : Nat) : Bool := decide (rnd n c ≤ 9223372036854775807)
theorem mulV_yes {neg : Bool} {n c : Nat} (h : rnd n c ≤ 9223372036854775807) : mulV neg n c = sgn neg (rnd n c) ∧ mulOk n c = true := ⟨if_pos h, decide_eq_true h⟩
theorem mulV_no {neg : Bool} {n c : Nat} (h : ¬ rnd n c ≤ 9223372036854775807) : mulV neg n c = 0 ∧ mulOk n c = false := ⟨if_neg h, decide_eq_false h⟩

/-- The end that num.Mul, num.Quo share, and the references. -/
def MulEnd (neg : Bool) (n c : Nat) (w : World) (e : Ending) (w' : World) : Prop := e = .returned (.tuple #[.int .i64 (mulV neg n c), .bool (mulOk n c)]) ∧ Below w.heap.size w w'
theorem me_yes {neg : Bool} {n c : Nat} {w w' : World} {x : Int} (h : rnd n c ≤ 9223372036854775807) (hx : x = sgn neg (rnd n c)) (hb : Below w.heap.size w w') : MulEnd neg n c w (.returned (.tuple #[.int .i64 x, .bool true])) w' :=
  ⟨by rw [(mulV_yes (neg := neg) h).1, (mulV_yes (neg := neg) h).2, hx], hb⟩
theorem me_no {neg : Bool} {n c : Nat} {w w' : World} (h : ¬ rnd n c ≤ 9223372036854775807) (hb : Below w.heap.size w w') : MulEnd neg n c w (.returned (.tuple #[.int .i64 0, .bool false])) w' :=
  ⟨by rw [(mulV_no (neg := neg) h).1, (mulV_no (neg := neg) h).2], hb⟩

def negOf (a b : Int) : Bool := decide (a < 0) != decide (b < 0)

theorem mul_any (a b : Int) (w : World) (ha : -9223372036854775807 ≤ a ∧ a ≤ 9223372036854775807) (hb : -9223372036854775807 ≤ b ∧ b ≤ 9223372036854775807) :
    Calls Try.prog 13 #[.int .i64 a, .int .i64 b] w (MulEnd (negOf a b) (a.natAbs * b.natAbs) 1000000 w) := by
  obtain ⟨n, hn⟩ : ∃ n, a.natAbs = n := ⟨_, rfl⟩
  obtain ⟨m, hm⟩ : ∃ m, b.natAbs = m := ⟨_, rfl⟩
  rw [hn, hm]
  have hn2 : n ≤ 9223372036854775807 := by omega
  have hm2 : m ≤ 9223372036854775807 := by omega
  obtain ⟨g, hg⟩ : ∃ g, negOf a b = g := ⟨_, rfl⟩
  rw [hg]
  have hg' : (!(decide (a < 0) == decide (b < 0))) = g := hg
  have HN := Lib.hid hn
  have HM := Lib.hid hm
  clear hn hm hg
  go_enter Try.func13, Try.ntmps13
  go_wp2_with fail
  refine (nabs_any a _ ha).mono ?_
  rintro e w' ⟨rfl, rfl⟩
  rw [HN.out]
  go_wp2_with fail
  refine (nabs_any b _ hb).mono ?_
  rintro e w' ⟨rfl, rfl⟩
  rw [HM.out]
  go_wp2_with fail
  refine (scaled_any n m 1000000 _ (by omega) (by omega) (by omega) (by omega)).mono ?_
  rintro e w1 ⟨h1, h2, hbl⟩
  by_cases hr : rnd (n * m) 1000000 ≤ 9223372036854775807
  · obtain rfl := h1 (by omega)
    clear h1 h2
    have HR := Lib.hid hr
    obtain ⟨R, hR⟩ : ∃ R, rnd (n * m) 1000000 = R := ⟨_, rfl⟩
    rw [hR] at hr ⊢
    have HRR := Lib.hid hR
    clear hR
    go_wp2_with fail
    refine (signed_yes R g _ hr).mono ?_
    rintro e w' ⟨rfl, rfl⟩
    go_wp2
    go_ret2
    exact me_yes HR.out (by rw [HRR.out]) hbl
  · have HR := Lib.hid hr
    by_cases hr2 : rnd (n * m) 1000000 < 18446744073709551616
    · obtain rfl := h1 hr2
      clear h1 h2
      obtain ⟨R, hR⟩ : ∃ R, rnd (n * m) 1000000 = R := ⟨_, rfl⟩
      rw [hR] at hr hr2 ⊢
      clear hR
      go_wp2_with fail
      refine (signed_no R g _ (by omega) hr2).mono ?_
      rintro e w' ⟨rfl, rfl⟩
      go_wp2
      go_ret2
      exact me_no HR.out hbl
    · obtain ⟨v, rfl⟩ := h2 (by omega)
      clear h1 h2 hr hr2
      go_wp2
      go_ret2
      exact me_no HR.out hbl

end Go.Proofs.Ytiddefbjnhhiiaa
