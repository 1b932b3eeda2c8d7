/-
  Plain: what one round of Print's loops does. No program in sight.
-/
import Derived.Test.YtbnebiobahajjaaGreatDoorNum
import Derived.WalkKit
import Derived.Lib.Hide
namespace Go.Proofs.YtbnebiobahajjaaGreatDoor
namespace Num
open Go.RowKit

/-- Bytes as cells. -/
def bv (l : List UInt8) : List Value := l.map fun c => Value.int .u8 (c.toNat : Int)
theorem bv_len (l : List UInt8) : (bv l).length = l.length := by simp [bv]
theorem bv_snoc (l : List UInt8) (c : UInt8) : bv l ++ [Value.int .u8 (c.toNat : Int)] = bv (l ++ [c]) := by simp [bv]

/-- Behind k rounds: n is left, l was written, tail: nothing but noughts yet. -/
def PInv (N k n : Nat) (l : List UInt8) (tail : Bool) : Prop :=
  n = N / 10 ^ k ∧ (k ≤ 6 → l.reverse = frs N k ∧ (tail = true ↔ frs N k = [])) ∧ (7 ≤ k → txtAbs N = dig n ++ l.reverse ∧ tail = false) ∧ k ≤ 20 ∧ l.length ≤ k + 1

theorem PInv_start (N : Nat) : PInv N 0 N [] true := ⟨by simp, fun _ => ⟨rfl, by simp [frs]⟩, fun h => by omega, by omega, by simp⟩

theorem PInv_k {N k n : Nat} {l : List UInt8} {t : Bool} (hN : N < 18446744073709551616) (h : PInv N k n l t) (hc : k < 7 ∨ 0 < n) : k < 20 := by
  rcases hc with hc | hc
  · omega
  · refine Nat.lt_of_not_le fun hk => ?_
    have e : N / 10 ^ k = 0 := Nat.div_eq_of_lt (Nat.lt_of_lt_of_le hN (Nat.le_trans (by omega) (Nat.pow_le_pow_right (n := 10) (by omega) hk)))
    rw [h.1, e] at hc
    omega

theorem div_step (N k : Nat) : N / 10 ^ k / 10 = N / 10 ^ (k + 1) := by rw [Nat.div_div_eq_div_mul, Nat.pow_succ]

/-- A nought at the end is passed over. -/
theorem PInv_skip {N k n : Nat} {l : List UInt8} {t : Bool} (h : PInv N k n l t) (hk : k < 6) (ht : t = true) (hd : n % 10 = 0) : PInv N (k + 1) (n / 10) l true := by
  obtain ⟨h1, h2, h3, h4, h5⟩ := h
  obtain ⟨a1, a2⟩ := h2 (by omega)
  have e0 := a2.1 ht
  have e : frs N (k + 1) = [] := by simp only [frs]; rw [if_pos ⟨e0, by rw [← h1]; exact hd⟩]
  refine ⟨by rw [h1, div_step], fun _ => ⟨by rw [a1, e0, e], by simp [e]⟩, fun h => by omega, by omega, by omega⟩

/-- A digit behind the point. -/
theorem PInv_dig {N k n : Nat} {l : List UInt8} {t : Bool} (h : PInv N k n l t) (hk : k < 6) (hd : t = false ∨ n % 10 ≠ 0) : PInv N (k + 1) (n / 10) (l ++ [UInt8.ofNat (48 + n % 10)]) false := by
  obtain ⟨h1, h2, h3, h4, h5⟩ := h
  obtain ⟨a1, a2⟩ := h2 (by omega)
  have hn : ¬ (frs N k = [] ∧ N / 10 ^ k % 10 = 0) := fun ⟨x, y⟩ => by
    rw [← h1] at y
    rcases hd with hd | hd
    · have := a2.2 x; rw [hd] at this; cases this
    · exact hd y
  have e : frs N (k + 1) = UInt8.ofNat (48 + n % 10) :: frs N k := by rw [h1]; simp only [frs]; rw [if_neg hn]
  refine ⟨by rw [h1, div_step], fun _ => ⟨by rw [List.reverse_append, a1, e]; rfl, by simp [e]⟩, fun h => by omega, by omega, by simp; omega⟩

theorem whole_last (W : Nat) (hW : W / 10 ≠ 0 ∨ True) : (if W = 0 then [48] else dig W) = dig (W / 10) ++ [UInt8.ofNat (48 + W % 10)] := by
  split
  · rename_i h; subst h; simp [dig_zero]
  · rename_i h; exact dig_step W h

/-- The seventh digit, nothing behind the point. -/
theorem PInv_first {N n : Nat} {l : List UInt8} {t : Bool} (h : PInv N 6 n l t) (ht : t = true) : PInv N 7 (n / 10) (l ++ [UInt8.ofNat (48 + n % 10)]) false := by
  obtain ⟨h1, h2, h3, h4, h5⟩ := h
  obtain ⟨a1, a2⟩ := h2 (by omega)
  have e0 := a2.1 ht
  refine ⟨by rw [h1, div_step], fun h => by omega, fun _ => ⟨?_, rfl⟩, by omega, by simp; omega⟩
  unfold txtAbs whole frac
  rw [if_pos e0, List.append_nil, List.reverse_append, a1, e0, List.append_nil]
  have e : N / 1000000 = n := by rw [h1]
  rw [e]
  exact whole_last n (.inr trivial)
/-- The seventh digit, the point ahead of what stands behind it. -/
theorem PInv_point {N n : Nat} {l : List UInt8} {t : Bool} (h : PInv N 6 n l t) (ht : t = false) : PInv N 7 (n / 10) (l ++ [46] ++ [UInt8.ofNat (48 + n % 10)]) false := by
  obtain ⟨h1, h2, h3, h4, h5⟩ := h
  obtain ⟨a1, a2⟩ := h2 (by omega)
  have e0 : ¬ frs N 6 = [] := fun e => by have := a2.2 e; rw [ht] at this; cases this
  have hl := len_frs N 6
  rw [← a1, List.length_reverse] at hl
  refine ⟨by rw [h1, div_step], fun h => by omega, fun _ => ⟨?_, rfl⟩, by omega, by simp; omega⟩
  unfold txtAbs whole frac
  rw [if_neg e0, List.reverse_append, List.reverse_append, a1]
  have e : N / 1000000 = n := by rw [h1]
  rw [e, whole_last n (.inr trivial)]
  simp
/-- A whole digit. -/
theorem PInv_whole {N k n : Nat} {l : List UInt8} {t : Bool} (hN : N < 18446744073709551616) (h : PInv N k n l t) (hk : 7 ≤ k) (hn : 0 < n) : PInv N (k + 1) (n / 10) (l ++ [UInt8.ofNat (48 + n % 10)]) false := by
  have hk2 := PInv_k hN h (.inr hn)
  obtain ⟨h1, h2, h3, h4, h5⟩ := h
  obtain ⟨a1, a2⟩ := h3 hk
  refine ⟨by rw [h1, div_step], fun h => by omega, fun _ => ⟨?_, rfl⟩, by omega, by simp; omega⟩
  rw [a1, List.reverse_append, dig_step n (by omega)]
  simp
theorem PInv_end {N k n : Nat} {l : List UInt8} {t : Bool} (h : PInv N k n l t) (hk : 7 ≤ k) (hn : n = 0) : txtAbs N = l.reverse := by
  obtain ⟨h1, h2, h3, h4, h5⟩ := h
  obtain ⟨a1, a2⟩ := h3 hk
  rw [a1, hn, dig_zero]; rfl

/-! ### The exchange from both ends -/
def RInv (L : List UInt8) (i : Nat) (X : List UInt8) : Prop :=
  X.length = L.length ∧ ∀ k, k < L.length → X[k]? = if k < i ∨ L.length - 1 - i < k then L[L.length - 1 - k]? else L[k]?
theorem RInv_start (L : List UInt8) : RInv L 0 L := ⟨rfl, fun k hk => by rw [if_neg (by omega)]⟩
theorem RInv_step {L X : List UInt8} {i : Nat} (h : RInv L i X) (hi : i < L.length - 1 - i) :
    RInv L (i + 1) ((X.set i (X.getD (L.length - 1 - i) 0)).set (L.length - 1 - i) (X.getD i 0)) := by
  obtain ⟨h1, h2⟩ := h
  have hx : ∀ k, k < L.length → X.getD k 0 = (if k < i ∨ L.length - 1 - i < k then L[L.length - 1 - k]? else L[k]?).getD 0 := fun k hk => by rw [List.getD_eq_getElem?_getD, h2 k hk]
  refine ⟨by simp [h1], fun k hk => ?_⟩
  rw [List.getElem?_set, List.getElem?_set]
  simp only [List.length_set, h1]
  by_cases e1 : L.length - 1 - i = k
  · rw [if_pos e1, if_pos (by omega), if_pos (by omega), hx i (by omega), if_neg (by omega)]
    have : L.length - 1 - k = i := by omega
    rw [this, List.getElem?_eq_getElem (by omega)]; rfl
  · rw [if_neg e1]
    by_cases e2 : i = k
    · rw [if_pos e2, if_pos (by omega), if_pos (by omega), hx _ (by omega), if_neg (by omega)]
      subst e2
      rw [List.getElem?_eq_getElem (by omega)]; rfl
    · rw [if_neg e2, h2 k hk]
      by_cases e3 : k < i ∨ L.length - 1 - i < k
      · rw [if_pos e3, if_pos (by omega)]
      · rw [if_neg e3, if_neg (by omega)]
theorem RInv_end {L X : List UInt8} {i : Nat} (h : RInv L i X) (hi : ¬ i < L.length - 1 - i) : X = L.reverse := by
  obtain ⟨h1, h2⟩ := h
  apply List.ext_getElem?
  intro k
  by_cases hk : k < L.length
  · rw [h2 k hk, List.getElem?_reverse hk]
    split
    · rfl
    · have : L.length - 1 - k = k := by omega
      rw [this]
  · rw [List.getElem?_eq_none (by omega), List.getElem?_eq_none (by simp; omega)]
theorem RInv_step' {L X : List UInt8} {i j : Nat} (h : RInv L i X) (hj : i + j + 1 = L.length) (hi : i < j) : RInv L (i + 1) ((X.set i (X.getD j 0)).set j (X.getD i 0)) := by
  have e : j = L.length - 1 - i := by omega
  rw [e]; exact RInv_step h (by omega)
theorem RInv_end' {L X : List UInt8} {i j : Nat} (h : RInv L i X) (hj : i + j + 1 = L.length) (hi : ¬ i < j) : X = L.reverse := RInv_end h (by omega)
theorem bv_get (l : List UInt8) (k : Nat) (h : k < l.length) : (bv l)[k]? = some (Value.int .u8 ((l.getD k 0).toNat : Int)) := by
  simp [bv, h]
theorem bv_set (l : List UInt8) (k : Nat) (c : UInt8) : (bv l).set k (Value.int .u8 (c.toNat : Int)) = bv (l.set k c) := by
  simp [bv, List.map_set]
end Num
end Go.Proofs.YtbnebiobahajjaaGreatDoor
