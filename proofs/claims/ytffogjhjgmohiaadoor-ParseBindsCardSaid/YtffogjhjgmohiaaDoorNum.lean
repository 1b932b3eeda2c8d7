/-
  Plain arithmetic of mantissas: no program in sight. Conditions: none beyond each lemma's own.
-/
import Derived.WalkKit
namespace Go.Proofs.YtffogjhjgmohiaaDoor
namespace Num

/-- May a + b be a mantissa? -/
def addOk (a b : Int) : Bool := decide (-9223372036854775807 ≤ a + b ∧ a + b ≤ 9223372036854775807)

/-- n / c to the nearest, half up (c ≥ 1). -/
def rnd (n c : Nat) : Nat := n / c + if c ≤ 2 * (n % c) then 1 else 0

/-- The value of a product by c, or of a quotient: how great it is. -/
def sgn (neg : Bool) (n : Nat) : Int := if neg then -(n : Int) else n

/-! ### Digits -/
def digs : Nat → Nat → List UInt8
  | 0, _ => []
  | f + 1, n => if n = 0 then [] else digs f (n / 10) ++ [UInt8.ofNat (48 + n % 10)]

/-- The digits of n, none of 0. -/
def dig (n : Nat) : List UInt8 := digs n n

theorem digs_fuel (f : Nat) : ∀ (g n : Nat), n ≤ f → n ≤ g → digs f n = digs g n := by
  induction f with
  | zero => intro g n h _; obtain rfl : n = 0 := by omega
            cases g <;> simp [digs]
  | succ f ih =>
    intro g n h1 h2
    cases g with
    | zero => obtain rfl : n = 0 := by omega
              simp [digs]
    | succ g =>
      by_cases h : n = 0
      · simp [digs, h]
      · simp only [digs, if_neg h]
        rw [ih g (n / 10) (by omega) (by omega)]

theorem dig_zero : dig 0 = [] := rfl
theorem dig_step (n : Nat) (h : n ≠ 0) : dig n = dig (n / 10) ++ [UInt8.ofNat (48 + n % 10)] := by
  unfold dig
  cases n with
  | zero => exact absurd rfl h
  | succ n =>
    rw [digs, if_neg h, digs_fuel n ((n + 1) / 10) _ (by omega) (Nat.le_refl _)]

/-- What stands behind the point: k digits, the noughts at the end struck. -/
def frs (n : Nat) : Nat → List UInt8
  | 0 => []
  | k + 1 => if frs n k = [] ∧ n / 10 ^ k % 10 = 0 then [] else UInt8.ofNat (48 + n / 10 ^ k % 10) :: frs n k

def whole (n : Nat) : List UInt8 := if n / 1000000 = 0 then [48] else dig (n / 1000000)
def frac (n : Nat) : List UInt8 := if frs n 6 = [] then [] else 46 :: frs n 6
/-- The text of how great a mantissa is; of a mantissa. -/
def txtAbs (n : Nat) : List UInt8 := whole n ++ frac n
def txt (a : Int) : List UInt8 := if a < 0 then 45 :: txtAbs a.natAbs else txtAbs a.natAbs

theorem u8_dig (d : Nat) (h : d < 10) : (UInt8.ofNat (48 + d)).toNat = 48 + d := by
  simp [UInt8.toNat_ofNat']; omega

/-! ### Reading: n: what has been read; p: how many digits stand behind the point (-1: no point); d: how many digits -/
def pv : List UInt8 → Nat → Int → Nat → Option (Nat × Int × Nat)
  | [], n, p, d => some (n, p, d)
  | c :: l, n, p, d =>
    if c.toNat = 46 ∧ p < 0 then pv l n 0 d
    else if c.toNat < 48 ∨ 57 < c.toNat ∨ p = 6 then none
    else pv l (n * 10 + (c.toNat - 48)) (if 0 ≤ p then p + 1 else p) (d + 1)

def pend : Option (Nat × Int × Nat) → Option Nat
  | none => none
  | some (n, p, d) => if d = 0 ∨ p = 0 ∨ 9223372036854775807 < n * 10 ^ (6 - (max p 0).toNat) then none else some (n * 10 ^ (6 - (max p 0).toNat))

def parse (l : List UInt8) : Option Nat := pend (pv l 0 (-1) 0)

theorem pv_app (a b : List UInt8) : ∀ n p d, pv (a ++ b) n p d = (pv a n p d).bind fun x => pv b x.1 x.2.1 x.2.2 := by
  induction a with
  | nil => intro n p d; rfl
  | cons c a ih =>
    intro n p d
    simp only [List.cons_append, pv]
    split
    · exact ih ..
    · split
      · rfl
      · exact ih ..

/-- What is read only grows; how many digits stand behind the point is within bounds. -/
theorem pv_mono (l : List UInt8) : ∀ n p d n' p' d', -1 ≤ p → p ≤ 6 → pv l n p d = some (n', p', d') → n ≤ n' ∧ p ≤ p' ∧ p' ≤ 6 ∧ d ≤ d' ∧ (p' - max p 0 ≤ 6) ∧ n * 10 ^ (max p' 0 - max p 0).toNat ≤ n' := by
  induction l with
  | nil =>
    intro n p d n' p' d' h1 h2 h
    simp only [pv, Option.some.injEq, Prod.mk.injEq] at h
    obtain ⟨rfl, rfl, rfl⟩ := h
    refine ⟨by omega, by omega, by omega, by omega, by omega, by simp⟩
  | cons c l ih =>
    intro n p d n' p' d' h1 h2 h
    simp only [pv] at h
    split at h
    · rename_i hc
      obtain ⟨a1, a2, a3, a4, a5, a6⟩ := ih _ _ _ _ _ _ (by omega) (by omega) h
      refine ⟨a1, by omega, a3, a4, by omega, ?_⟩
      have e : max p 0 = max (0 : Int) 0 := by omega
      rw [e]; exact a6
    · split at h
      · cases h
      · rename_i hb hc
        have hp6 : p ≠ 6 := fun e => hc (Or.inr (Or.inr e))
        by_cases hp : 0 ≤ p
        · rw [if_pos hp] at h
          obtain ⟨a1, a2, a3, a4, a5, a6⟩ := ih _ _ _ _ _ _ (by omega) (by omega) h
          refine ⟨by omega, by omega, a3, by omega, by omega, ?_⟩
          have e : (max p' 0 - max p 0).toNat = (max p' 0 - max (p + 1) 0).toNat + 1 := by omega
          rw [e, Nat.pow_succ]
          refine Nat.le_trans ?_ a6
          rw [Nat.mul_comm (10 ^ _) 10, ← Nat.mul_assoc]
          exact Nat.mul_le_mul_right _ (by omega)
        · rw [if_neg hp] at h
          obtain ⟨a1, a2, a3, a4, a5, a6⟩ := ih _ _ _ _ _ _ (by omega) (by omega) h
          refine ⟨by omega, by omega, a3, by omega, by omega, ?_⟩
          refine Nat.le_trans ?_ a6
          exact Nat.mul_le_mul_right _ (by omega)

theorem len_frs (n : Nat) : ∀ k, (frs n k).length ≤ k := by
  intro k
  induction k with
  | zero => simp [frs]
  | succ k ih => simp only [frs]; split <;> simp; omega

theorem u8_range {d : Nat} (h : d < 10) : 48 ≤ (UInt8.ofNat (48 + d)).toNat ∧ (UInt8.ofNat (48 + d)).toNat ≤ 57 := by
  rw [u8_dig d h]; omega

theorem mod_succ (n k : Nat) : n % 10 ^ (k + 1) = n / 10 ^ k % 10 * 10 ^ k + n % 10 ^ k := by
  rw [Nat.pow_succ, Nat.mod_mul, Nat.mul_comm, Nat.add_comm]

theorem frs_nil (n : Nat) : ∀ k, frs n k = [] ↔ n % 10 ^ k = 0 := by
  intro k
  induction k with
  | zero => simp [frs, Nat.mod_one]
  | succ k ih =>
    rw [mod_succ]
    have hp : 0 < 10 ^ k := Nat.pow_pos (by omega)
    simp only [frs]
    split
    · rename_i h
      have := ih.1 h.1
      simp [this, h.2]
    · rename_i h
      refine ⟨fun e => by simp at e, fun e => absurd ?_ h⟩
      rw [ih]
      refine ⟨by omega, ?_⟩
      by_cases hz : n / 10 ^ k % 10 = 0
      · exact hz
      · have : 0 < n / 10 ^ k % 10 * 10 ^ k := Nat.mul_pos (by omega) hp
        omega

/-- The digits behind the point, read. -/
theorem pv_frs (N : Nat) : ∀ (k n : Nat) (p : Int) (d : Nat), 0 ≤ p → p + k ≤ 6 →
    ∃ x, pv (frs N k) n p d = some (n * 10 ^ (frs N k).length + x, p + (frs N k).length, d + (frs N k).length) ∧ x * 10 ^ (k - (frs N k).length) = N % 10 ^ k := by
  intro k
  induction k with
  | zero => intro n p d _ _; exact ⟨0, by simp [frs, pv], by simp [Nat.mod_one]⟩
  | succ k ih =>
    intro n p d hp hk
    have hl := len_frs N k
    by_cases h : frs N k = [] ∧ N / 10 ^ k % 10 = 0
    · have e : frs N (k + 1) = [] := by simp [frs, h]
      refine ⟨0, by simp [e, pv], ?_⟩
      rw [(frs_nil N (k + 1)).1 e]; simp
    · have e : frs N (k + 1) = UInt8.ofNat (48 + N / 10 ^ k % 10) :: frs N k := by simp only [frs, if_neg h]
      have hd : N / 10 ^ k % 10 < 10 := Nat.mod_lt _ (by omega)
      obtain ⟨x, h1, h2⟩ := ih (n * 10 + N / 10 ^ k % 10) (p + 1) (d + 1) (by omega) (by omega)
      have hr := u8_range hd
      rw [e]
      refine ⟨N / 10 ^ k % 10 * 10 ^ (frs N k).length + x, ?_, ?_⟩
      · rw [pv, if_neg (by omega), if_neg (by omega), if_pos hp, u8_dig _ hd]
        have e2 : 48 + N / 10 ^ k % 10 - 48 = N / 10 ^ k % 10 := by omega
        rw [e2, h1]
        simp only [List.length_cons, Option.some.injEq, Prod.mk.injEq]
        refine ⟨?_, by omega, by omega⟩
        rw [Nat.pow_succ, Nat.add_mul, Nat.mul_assoc n, Nat.mul_comm 10]; omega
      · rw [mod_succ, ← h2, List.length_cons]
        have e3 : k + 1 - ((frs N k).length + 1) = k - (frs N k).length := by omega
        rw [e3, Nat.add_mul, Nat.mul_assoc, ← Nat.pow_add]
        have e4 : (frs N k).length + (k - (frs N k).length) = k := by omega
        rw [e4]

/-- Whole digits, read. -/
theorem pv_dig (f : Nat) : ∀ (n m d : Nat), n ≤ f → pv (dig n) m (-1) d = some (m * 10 ^ (dig n).length + n, -1, d + (dig n).length) := by
  induction f with
  | zero => intro n m d h; obtain rfl : n = 0 := by omega
            simp [dig_zero, pv]
  | succ f ih =>
    intro n m d h
    by_cases hz : n = 0
    · subst hz; simp [dig_zero, pv]
    · rw [dig_step n hz, pv_app, ih (n / 10) m d (by omega)]
      have hd : n % 10 < 10 := Nat.mod_lt _ (by omega)
      have hr := u8_range hd
      simp only [Option.bind_some, pv, List.length_append, List.length_cons, List.length_nil]
      rw [if_neg (by omega), if_neg (by omega), if_neg (by omega), u8_dig _ hd]
      simp only [Option.some.injEq, Prod.mk.injEq]
      refine ⟨?_, trivial, by omega⟩
      rw [Nat.zero_add, Nat.pow_succ, Nat.add_mul, Nat.mul_assoc]; omega

theorem pv_zeros (j : Nat) : ∀ (p : Int) (d : Nat), pv (List.replicate j 48) 0 (-1) d = some (0, -1, d + j) ∧ (0 ≤ p → p + j ≤ 6 → ∀ n, pv (List.replicate j 48) n p d = some (n * 10 ^ j, p + j, d + j)) := by
  induction j with
  | zero => intro p d; simp [pv]
  | succ j ih =>
    intro p d
    refine ⟨?_, fun hp hj n => ?_⟩
    · rw [List.replicate_succ, pv]
      simp only [UInt8.reduceToNat]
      rw [if_neg (by omega), if_neg (by omega), if_neg (by omega)]
      have := (ih 0 (d + 1)).1
      simp only [Nat.zero_mul, Nat.sub_self, Nat.add_zero, this, Option.some.injEq, Prod.mk.injEq, true_and]
      omega
    · rw [List.replicate_succ, pv]
      simp only [UInt8.reduceToNat]
      rw [if_neg (by omega), if_neg (by omega), if_pos hp]
      have := (ih (p + 1) (d + 1)).2 (by omega) (by omega) (n * 10)
      simp only [Nat.sub_self, Nat.add_zero, this, Option.some.injEq, Prod.mk.injEq]
      refine ⟨?_, by omega, by omega⟩
      rw [Nat.pow_succ, Nat.mul_assoc, Nat.mul_comm 10]

theorem pv_whole (N d : Nat) : ∃ k, 0 < k ∧ pv (whole N) 0 (-1) d = some (N / 1000000, -1, d + k) ∧ k = (whole N).length := by
  unfold whole
  by_cases h : N / 1000000 = 0
  · rw [if_pos h, h]
    exact ⟨1, by omega, by simp [pv], by simp⟩
  · rw [if_neg h]
    refine ⟨(dig (N / 1000000)).length, ?_, ?_, rfl⟩
    · rw [dig_step _ h]; simp
    · rw [pv_dig _ _ _ _ (Nat.le_refl _)]; simp

theorem parse_txtAbs (N : Nat) (h : N ≤ 9223372036854775807) : parse (txtAbs N) = some N := by
  obtain ⟨k, hk, hw, -⟩ := pv_whole N 0
  unfold parse txtAbs frac
  rw [pv_app, hw]
  simp only [Option.bind_some]
  by_cases hf : frs N 6 = []
  · rw [if_pos hf]
    have := (frs_nil N 6).1 hf
    simp only [pv, pend]
    rw [if_neg]
    · congr 1
      have e : (6 - (max (-1 : Int) 0).toNat) = 6 := rfl
      rw [e]; omega
    · have e : (6 - (max (-1 : Int) 0).toNat) = 6 := rfl
      rw [e]; omega
  · rw [if_neg hf, pv]
    simp only [UInt8.reduceToNat]
    rw [if_pos ⟨trivial, by omega⟩]
    obtain ⟨x, h1, h2⟩ := pv_frs N 6 (N / 1000000) 0 (0 + k) (by omega) (by omega)
    rw [h1]
    have hl := len_frs N 6
    have hl0 : 0 < (frs N 6).length := List.length_pos_iff.2 hf
    simp only [pend]
    have e : (6 - (max (0 + ((frs N 6).length : Int)) 0).toNat) = 6 - (frs N 6).length := by omega
    have e2 : (N / 1000000 * 10 ^ (frs N 6).length + x) * 10 ^ (6 - (frs N 6).length) = N := by
      rw [Nat.add_mul, Nat.mul_assoc, ← Nat.pow_add, h2]
      have e4 : (frs N 6).length + (6 - (frs N 6).length) = 6 := by omega
      rw [e4]; omega
    rw [e, e2, if_neg (by omega)]

/-! ### What stands in a text -/
theorem dig_all (f : Nat) : ∀ n, n ≤ f → ∀ c ∈ dig n, 48 ≤ c.toNat ∧ c.toNat ≤ 57 := by
  induction f with
  | zero => intro n h; obtain rfl : n = 0 := by omega
            simp [dig_zero]
  | succ f ih =>
    intro n h
    by_cases hz : n = 0
    · subst hz; simp [dig_zero]
    · rw [dig_step n hz]
      intro c hc
      rcases List.mem_append.1 hc with hc | hc
      · exact ih (n / 10) (by omega) c hc
      · simp only [List.mem_singleton] at hc; subst hc; exact u8_range (Nat.mod_lt _ (by omega))
theorem whole_all (n : Nat) : ∀ c ∈ whole n, 48 ≤ c.toNat ∧ c.toNat ≤ 57 := by
  unfold whole
  split
  · simp
  · exact dig_all _ _ (Nat.le_refl _)
theorem whole_ne (n : Nat) : whole n ≠ [] := by
  unfold whole
  split
  · simp
  · rename_i h; rw [dig_step _ h]; simp
theorem frs_all (n : Nat) : ∀ k, ∀ c ∈ frs n k, 48 ≤ c.toNat ∧ c.toNat ≤ 57 := by
  intro k
  induction k with
  | zero => simp [frs]
  | succ k ih =>
    simp only [frs]
    split
    · simp
    · intro c hc
      rcases List.mem_cons.1 hc with rfl | hc
      · exact u8_range (Nat.mod_lt _ (by omega))
      · exact ih c hc
theorem frs_last (n : Nat) : ∀ k (h : frs n k ≠ []), (frs n k).getLast h ≠ 48 := by
  intro k
  induction k with
  | zero => intro h; exact absurd rfl h
  | succ k ih =>
    by_cases hz : frs n k = [] ∧ n / 10 ^ k % 10 = 0
    · intro h; exact absurd (by simp [frs, hz]) h
    · intro h
      have e : frs n (k + 1) = UInt8.ofNat (48 + n / 10 ^ k % 10) :: frs n k := by simp only [frs, if_neg hz]
      simp only [e]
      by_cases hk : frs n k = []
      · simp only [hk, List.getLast_singleton]
        intro e2
        have := congrArg UInt8.toNat e2
        rw [u8_dig _ (Nat.mod_lt _ (by omega))] at this
        simp only [UInt8.reduceToNat] at this
        exact hz ⟨hk, by omega⟩
      · rw [List.getLast_cons hk]; exact ih hk
theorem len_dig (f : Nat) : ∀ n k, n ≤ f → n < 10 ^ k → (dig n).length ≤ k := by
  induction f with
  | zero => intro n k h _; obtain rfl : n = 0 := by omega
            simp [dig_zero]
  | succ f ih =>
    intro n k h hk
    by_cases hz : n = 0
    · subst hz; simp [dig_zero]
    · cases k with
      | zero => simp at hk; omega
      | succ k =>
        rw [dig_step n hz]
        rw [Nat.pow_succ] at hk
        have := ih (n / 10) k (by omega) (by omega)
        simp; omega
theorem len_txtAbs (N : Nat) (h : N ≤ 9223372036854775807) : 1 ≤ (txtAbs N).length ∧ (txtAbs N).length ≤ 20 := by
  have h1 : 0 < (whole N).length := List.length_pos_iff.2 (whole_ne N)
  have h2 : (whole N).length ≤ 13 := by
    unfold whole
    split
    · simp
    · exact len_dig _ _ 13 (Nat.le_refl _) (by omega)
  have h3 : (frac N).length ≤ 7 := by
    unfold frac
    split
    · simp
    · have := len_frs N 6; simp; omega
  unfold txtAbs
  rw [List.length_append]
  omega
theorem txtAbs_head (N : Nat) : ∃ c l, txtAbs N = c :: l ∧ 48 ≤ c.toNat ∧ c.toNat ≤ 57 := by
  have h1 := whole_ne N
  have h2 := whole_all N
  unfold txtAbs
  cases h : whole N with
  | nil => exact absurd h h1
  | cons c l => exact ⟨c, l ++ frac N, rfl, h2 c (by rw [h]; simp)⟩
theorem point_txtAbs (N : Nat) : 46 ∈ txtAbs N ↔ N % 1000000 ≠ 0 := by
  have hw : (46 : UInt8) ∉ whole N := fun h => by have := whole_all N _ h; simp at this
  have hf : (46 : UInt8) ∈ frac N ↔ N % 1000000 ≠ 0 := by
    unfold frac
    have e := frs_nil N 6
    split
    · rename_i h; have := e.1 h; simp; omega
    · rename_i h; simp; intro h0; exact h (e.2 (by omega))
  unfold txtAbs
  rw [List.mem_append]
  exact ⟨fun h => hf.1 (h.resolve_left hw), fun h => Or.inr (hf.2 h)⟩
theorem last_txtAbs (N : Nat) (h : N % 1000000 ≠ 0) : ∀ e, (txtAbs N).getLast e ≠ 48 := by
  have hz : frs N 6 ≠ [] := fun e => h ((frs_nil N 6).1 e)
  have e2 : txtAbs N = whole N ++ [46] ++ frs N 6 := by unfold txtAbs frac; rw [if_neg hz]; simp
  intro e
  simp only [e2]
  rw [List.getLast_append_of_ne_nil (h₂ := hz)]
  exact frs_last N 6 hz

theorem txtAbs_inj {N M : Nat} (hN : N ≤ 9223372036854775807) (hM : M ≤ 9223372036854775807) (h : txtAbs N = txtAbs M) : N = M := by
  have a := parse_txtAbs N hN
  have b := parse_txtAbs M hM
  rw [h, b] at a
  injection a with a
  exact a.symm

theorem txt_inj {a b : Int} (ha : -9223372036854775807 ≤ a ∧ a ≤ 9223372036854775807) (hb : -9223372036854775807 ≤ b ∧ b ≤ 9223372036854775807) (h : txt a = txt b) : a = b := by
  unfold txt at h
  obtain ⟨c, l, e, h1, h2⟩ := txtAbs_head a.natAbs
  obtain ⟨c', l', e', h1', h2'⟩ := txtAbs_head b.natAbs
  by_cases pa : a < 0
  · by_cases pb : b < 0
    · rw [if_pos pa, if_pos pb] at h
      injection h with _ h
      have := txtAbs_inj (by omega) (by omega) h
      omega
    · rw [if_pos pa, if_neg pb, e'] at h
      injection h with h _
      rw [← h] at h1'; simp at h1'
  · by_cases pb : b < 0
    · rw [if_neg pa, if_pos pb, e] at h
      injection h with h _
      rw [h] at h1; simp at h1
    · rw [if_neg pa, if_neg pb] at h
      have := txtAbs_inj (by omega) (by omega) h
      omega

/-! ### Which bytes are a number: as the statement counts them -/
def tally : List UInt8 → Nat × Nat × Nat → Nat × Nat × Nat
  | [], s => s
  | c :: l, (d, p, b) => tally l (if c.toNat = 46 then (d, p + 1, b) else if 48 ≤ c.toNat ∧ c.toNat ≤ 57 then (d + 1, p, if 0 < p then b + 1 else b) else (d, 9, b))

theorem tally_bad (l : List UInt8) : ∀ d p b, 2 ≤ p ∨ 7 ≤ b ∧ 1 ≤ p → 2 ≤ (tally l (d, p, b)).2.1 ∨ 7 ≤ (tally l (d, p, b)).2.2 ∧ 1 ≤ (tally l (d, p, b)).2.1 := by
  induction l with
  | nil => intro d p b h; exact h
  | cons c l ih =>
    intro d p b h
    rw [tally]
    split
    · exact ih _ _ _ (by omega)
    · split
      · refine ih _ _ _ ?_
        rw [if_pos (by omega)]
        omega
      · exact ih _ _ _ (by omega)

/-- The two readers side by side: p = -1: no point yet. -/
theorem pv_tally (l : List UInt8) : ∀ (n : Nat) (p : Int) (d pt b : Nat), -1 ≤ p → p ≤ 6 → (p < 0 → pt = 0 ∧ b = 0) → (0 ≤ p → pt = 1 ∧ (b : Int) = p) → n < 10 ^ d → p ≤ d →
    match pv l n p d with
    | some (n', p', d') => (tally l (d, pt, b)).1 = d' ∧ (p' < 0 → (tally l (d, pt, b)).2.1 = 0) ∧ (0 ≤ p' → (tally l (d, pt, b)).2.1 = 1 ∧ ((tally l (d, pt, b)).2.2 : Int) = p') ∧ n' < 10 ^ d' ∧ p' ≤ d' ∧ -1 ≤ p' ∧ p' ≤ 6
    | none => 2 ≤ (tally l (d, pt, b)).2.1 ∨ 7 ≤ (tally l (d, pt, b)).2.2 ∧ 1 ≤ (tally l (d, pt, b)).2.1 := by
  induction l with
  | nil => intro n p d pt b h1 h2 h3 h4 h5 h6
           exact ⟨rfl, fun h => (h3 h).1, fun h => h4 h, h5, h6, h1, h2⟩
  | cons c l ih =>
    intro n p d pt b h1 h2 h3 h4 h5 h6
    rw [pv, tally]
    by_cases hc : c.toNat = 46
    · rw [if_pos hc]
      by_cases hp : p < 0
      · rw [if_pos ⟨hc, hp⟩]
        obtain ⟨rfl, rfl⟩ := h3 hp
        exact ih n 0 d 1 0 (by omega) (by omega) (by omega) (fun _ => ⟨rfl, rfl⟩) h5 (by omega)
      · rw [if_neg (by omega), if_pos (by omega)]
        obtain ⟨rfl, hb⟩ := h4 (by omega)
        exact tally_bad l _ _ _ (by omega)
    · rw [if_neg hc, if_neg (by omega)]
      by_cases hd : 48 ≤ c.toNat ∧ c.toNat ≤ 57
      · rw [if_pos hd]
        by_cases hp6 : p = 6
        · rw [if_pos (by omega)]
          obtain ⟨rfl, hb⟩ := h4 (by omega)
          exact tally_bad l _ _ _ (by rw [if_pos (by omega)]; omega)
        · rw [if_neg (by omega)]
          refine ih _ _ _ _ _ (by split <;> omega) (by split <;> omega) ?_ ?_ ?_ (by split <;> omega)
          · intro h
            have hp : ¬ 0 ≤ p := fun e => by rw [if_pos e] at h; omega
            obtain ⟨rfl, rfl⟩ := h3 (by omega)
            simp
          · intro h
            have hp : 0 ≤ p := by
              by_cases e : 0 ≤ p
              · exact e
              · rw [if_neg e] at h; omega
            obtain ⟨rfl, hb⟩ := h4 hp
            rw [if_pos hp, if_pos (by omega)]
            exact ⟨rfl, by omega⟩
          · rw [Nat.pow_succ]; omega
      · rw [if_neg hd, if_pos (by omega)]
        exact tally_bad l _ _ _ (by omega)

/-- Of digits that stand right there is a number, but where they are more than twelve; of others there is none. -/
theorem parse_tally (l : List UInt8) :
    ((parse l).isSome = true → 0 < (tally l (0, 0, 0)).1 ∧ (tally l (0, 0, 0)).2.1 ≤ 1 ∧ ((tally l (0, 0, 0)).2.1 = 0 ∨ 1 ≤ (tally l (0, 0, 0)).2.2 ∧ (tally l (0, 0, 0)).2.2 ≤ 6)) ∧
    (0 < (tally l (0, 0, 0)).1 ∧ (tally l (0, 0, 0)).2.1 ≤ 1 ∧ ((tally l (0, 0, 0)).2.1 = 0 ∨ 1 ≤ (tally l (0, 0, 0)).2.2 ∧ (tally l (0, 0, 0)).2.2 ≤ 6) → (parse l).isSome = false → 12 < (tally l (0, 0, 0)).1) := by
  have h := pv_tally l 0 (-1) 0 0 0 (by omega) (by omega) (fun _ => ⟨rfl, rfl⟩) (by omega) (by simp) (by omega)
  unfold parse
  cases hp : pv l 0 (-1) 0 with
  | none =>
    rw [hp] at h
    simp only [pend, Option.isSome_none] at h ⊢
    refine ⟨by simp, fun h2 _ => ?_⟩
    omega
  | some x =>
    obtain ⟨n, p, d⟩ := x
    rw [hp] at h
    simp only at h
    obtain ⟨a1, a2, a3, a4, a5, a6, a7⟩ := h
    simp only [pend]
    by_cases hz : d = 0 ∨ p = 0 ∨ 9223372036854775807 < n * 10 ^ (6 - (max p 0).toNat)
    · rw [if_pos hz]
      refine ⟨by simp, fun h2 _ => ?_⟩
      rw [a1] at h2 ⊢
      rcases hz with hz | hz | hz
      · omega
      · have := a3 (by omega); omega
      · refine Nat.lt_of_not_le fun hd => ?_
        have e1 : n * 10 ^ (6 - (max p 0).toNat) < 10 ^ (d + (6 - (max p 0).toNat)) := by
          rw [Nat.pow_add]; exact Nat.mul_lt_mul_of_pos_right a4 (Nat.pow_pos (by omega))
        have e2 : 10 ^ (d + (6 - (max p 0).toNat)) ≤ 10 ^ 18 := Nat.pow_le_pow_right (by omega) (by omega)
        omega
    · rw [if_neg hz]
      refine ⟨fun _ => ?_, by simp⟩
      rw [a1]
      refine ⟨by omega, ?_, ?_⟩
      · by_cases e : p < 0
        · have := a2 e; omega
        · have := a3 (by omega); omega
      · by_cases e : p < 0
        · have := a2 e; omega
        · have := a3 (by omega); omega
theorem parse_le {l : List UInt8} {n : Nat} (h : parse l = some n) : n ≤ 9223372036854775807 := by
  unfold parse pend at h
  split at h
  · cases h
  · split at h
    · cases h
    · injection h with h; omega

/-! ### Digits with noughts ahead, or behind the point -/
theorem parse_noughts (N i j : Nat) (hj : j < 6) (hN : N ≤ 9223372036854775807) (hm : N % 1000000 = 0) :
    parse (List.replicate i 48 ++ txtAbs N ++ [46] ++ List.replicate (j + 1) 48) = some N ∧ parse (txtAbs N ++ [46]) = none := by
  have hf : frac N = [] := by unfold frac; rw [if_pos ((frs_nil N 6).2 (by omega))]
  have ht : txtAbs N = whole N := by unfold txtAbs; rw [hf, List.append_nil]
  have h46 : ∀ n d l, pv ((46 : UInt8) :: l) n (-1) d = pv l n 0 d := by
    intro n d l
    rw [pv]
    simp only [UInt8.reduceToNat]
    rw [if_pos ⟨trivial, by omega⟩]
  constructor
  · obtain ⟨k, hk, hw, -⟩ := pv_whole N (0 + i)
    unfold parse
    rw [ht, List.append_assoc, List.append_assoc, pv_app, (pv_zeros i 0 0).1]
    simp only [Option.bind_some]
    rw [pv_app, hw]
    simp only [Option.bind_some]
    rw [List.singleton_append, h46, (pv_zeros (j + 1) 0 _).2 (by omega) (by omega)]
    simp only [pend]
    have e : (6 - (max (0 + ((j + 1 : Nat) : Int)) 0).toNat) = 6 - (j + 1) := by omega
    have e2 : N / 1000000 * 10 ^ (j + 1) * 10 ^ (6 - (j + 1)) = N := by
      rw [Nat.mul_assoc, ← Nat.pow_add]
      have e4 : j + 1 + (6 - (j + 1)) = 6 := by omega
      rw [e4]; omega
    rw [e, e2, if_neg (by omega)]
  · obtain ⟨k, hk, hw, -⟩ := pv_whole N 0
    unfold parse
    rw [ht, pv_app, hw]
    simp only [Option.bind_some]
    rw [h46]
    simp [pv, pend]
end Num
end Go.Proofs.YtffogjhjgmohiaaDoor
