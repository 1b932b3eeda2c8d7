/-
  value: the order of values. No program in sight. Conditions: each theorem's own.
-/
import Derived.Test.YtkkfgobdkbcdhaaDoorComp
import Derived.Test.YtkkfgobdkbcdhaaDoorTurns
namespace Go.Proofs.YtkkfgobdkbcdhaaDoor
open Go.RowKit Num
set_option linter.unusedVariables false
set_option linter.unusedSimpArgs false

theorem cb_neg : ∀ a b : List UInt8, Lib.compareBytes b a = - Lib.compareBytes a b
  | [], [] => rfl
  | [], _ :: _ => rfl
  | _ :: _, [] => rfl
  | a :: at_, b :: bt => by
    unfold Lib.compareBytes
    by_cases h1 : a < b
    · have h2 : ¬ b < a := fun h => absurd (UInt8.lt_trans h1 h) (UInt8.lt_irrefl _)
      rw [if_pos h1, if_neg h2, if_pos h1]; rfl
    · by_cases h2 : b < a
      · simp only [if_neg h1, if_pos h2]
      · rw [if_neg h1, if_neg h2, if_neg h2, if_neg h1]; exact cb_neg at_ bt
theorem cb_range : ∀ a b : List UInt8, Lib.compareBytes a b = -1 ∨ Lib.compareBytes a b = 0 ∨ Lib.compareBytes a b = 1
  | [], [] => .inr (.inl rfl)
  | [], _ :: _ => .inl rfl
  | _ :: _, [] => .inr (.inr rfl)
  | a :: at_, b :: bt => by
    unfold Lib.compareBytes
    by_cases h1 : a < b
    · rw [if_pos h1]; exact .inl rfl
    · by_cases h2 : b < a
      · rw [if_neg h1, if_pos h2]; exact .inr (.inr rfl)
      · rw [if_neg h1, if_neg h2]; exact cb_range at_ bt
theorem u8_eq {a b : UInt8} (h1 : ¬ a < b) (h2 : ¬ b < a) : a = b := by
  rw [UInt8.lt_iff_toNat_lt] at h1 h2
  exact UInt8.toNat_inj.1 (by omega)
theorem cb_zero : ∀ a b : List UInt8, Lib.compareBytes a b = 0 → a = b
  | [], [], _ => rfl
  | [], _ :: _, h => by simp [Lib.compareBytes] at h
  | _ :: _, [], h => by simp [Lib.compareBytes] at h
  | a :: at_, b :: bt, h => by
    unfold Lib.compareBytes at h
    by_cases h1 : a < b
    · rw [if_pos h1] at h; simp at h
    · by_cases h2 : b < a
      · rw [if_neg h1, if_pos h2] at h; simp at h
      · rw [if_neg h1, if_neg h2] at h
        rw [u8_eq h1 h2, cb_zero at_ bt h]
theorem cb_self : ∀ a : List UInt8, Lib.compareBytes a a = 0 := fun a => by have := cb_neg a a; omega
theorem cb_trans : ∀ a b c : List UInt8, Lib.compareBytes a b ≤ 0 → Lib.compareBytes b c ≤ 0 → Lib.compareBytes a c ≤ 0
  | [], _, [], _, _ => by simp [Lib.compareBytes]
  | [], _, _ :: _, _, _ => by simp [Lib.compareBytes]
  | _ :: _, [], _, h, _ => by simp [Lib.compareBytes] at h
  | _ :: _, _ :: _, [], _, h => by simp [Lib.compareBytes] at h
  | a :: at_, b :: bt, c :: ct, h, k => by
    unfold Lib.compareBytes at h k ⊢
    by_cases h1 : a < b
    · by_cases k1 : b < c
      · rw [if_pos (UInt8.lt_trans h1 k1)]; decide
      · by_cases k2 : c < b
        · rw [if_neg k1, if_pos k2] at k; simp at k
        · have := u8_eq k1 k2; subst this
          rw [if_pos h1]; decide
    · by_cases h2 : b < a
      · rw [if_neg h1, if_pos h2] at h; simp at h
      · have := u8_eq h1 h2; subst this
        rw [if_neg h1, if_neg h2] at h
        by_cases k1 : a < c
        · rw [if_pos k1]; decide
        · by_cases k2 : c < a
          · rw [if_neg k1, if_pos k2] at k; simp at k
          · rw [if_neg k1, if_neg k2] at k ⊢
            exact cb_trans at_ bt ct h k
theorem cmpK_neg (k n k' n' : Int) (s s' : ByteArray) : cmpK k' n' s' k n s = - cmpK k n s k' n' s' := by
  unfold cmpK
  by_cases h : k = k'
  · subst h
    rw [if_pos rfl, if_pos rfl]
    by_cases h2 : k = 2
    · rw [if_pos h2, if_pos h2]; exact cb_neg _ _
    · rw [if_neg h2, if_neg h2]
      by_cases h3 : n < n'
      · rw [if_pos h3, if_neg (by omega), if_pos h3]; rfl
      · by_cases h4 : n' < n
        · simp only [if_neg h3, if_pos h4]
        · rw [if_neg h3, if_neg h4, if_neg h4, if_neg h3]; rfl
  · rw [if_neg h, if_neg (fun e => h e.symm)]; omega
theorem cmpV_neg (x y : RV) : cmpV y x = - cmpV x y := cmpK_neg _ _ _ _ _ _
theorem cmpK_range (k n k' n' : Int) (s s' : ByteArray) (h : 0 ≤ k ∧ k ≤ 4) (h' : 0 ≤ k' ∧ k' ≤ 4) : -4 ≤ cmpK k n s k' n' s' ∧ cmpK k n s k' n' s' ≤ 4 := by
  unfold cmpK
  split
  · split
    · rcases cb_range s.data.toList s'.data.toList with e | e | e <;> rw [e] <;> omega
    · split
      · omega
      · split <;> omega
  · omega
theorem cmpV_range (x y : RV) : -4 ≤ cmpV x y ∧ cmpV x y ≤ 4 := cmpK_range _ _ _ _ _ _ (rv_k _) (rv_k _)
theorem cmpV_full {x y : RV} (hx : x.k ≠ 0) (hy : y.k ≠ 0) : cmpV x y = cmpK x.k x.n x.s y.k y.n y.s := by unfold cmpV; rw [likeR_of hx, likeR_of hy]
theorem cmpK_trans (k n k' n' k'' n'' : Int) (s s' s'' : ByteArray) (h : cmpK k n s k' n' s' ≤ 0) (h' : cmpK k' n' s' k'' n'' s'' ≤ 0) : cmpK k n s k'' n'' s'' ≤ 0 := by
  unfold cmpK at *
  by_cases e : k = k'
  · subst e
    rw [if_pos rfl] at h
    by_cases e' : k = k''
    · subst e'
      rw [if_pos rfl] at h' ⊢
      by_cases h2 : k = 2
      · rw [if_pos h2] at h h' ⊢; exact cb_trans _ _ _ h h'
      · rw [if_neg h2] at h h' ⊢
        split at h
        · split at h'
          · rw [if_pos (by omega)]; omega
          · split at h'
            · omega
            · rw [if_pos (by omega)]; omega
        · split at h
          · omega
          · split at h'
            · rw [if_pos (by omega)]; omega
            · split at h'
              · omega
              · rw [if_neg (by omega), if_neg (by omega)]; omega
    · rw [if_neg e'] at h' ⊢; exact h'
  · rw [if_neg e] at h
    by_cases e' : k' = k''
    · subst e'; rw [if_neg e]; exact h
    · rw [if_neg e'] at h'
      rw [if_neg (by omega)]; omega
/-- What the law asks of three values' order. -/
theorem order_fact (A B C : RV) (hA : A.ok) (hB : B.ok) :
    cmpV A A = 0 ∧ cmpV B A = - cmpV A B ∧ (-4 ≤ cmpV A B ∧ cmpV A B ≤ 4) ∧
    (A.k ≠ 0 → B.k ≠ 0 → C.k ≠ 0 → (cmpV A B ≤ 0 → cmpV B C ≤ 0 → cmpV A C ≤ 0) ∧ (A.k < B.k → cmpV A B < 0) ∧ (cmpV A B = 0 → A.k ≠ 4 → A.k = B.k ∧ A.n = B.n ∧ A.s = B.s)) ∧
    (A.k = 1 → B.k = 1 → (cmpV A B < 0 ↔ A.n < B.n)) := by
  refine ⟨by have := cmpV_neg A A; omega, cmpV_neg A B, cmpV_range A B, fun ha hb hc => ⟨fun h1 h2 => ?_, fun h1 => ?_, fun h1 h4 => ?_⟩, fun ha hb => ?_⟩
  · rw [cmpV_full ha hb] at h1
    rw [cmpV_full hb hc] at h2
    rw [cmpV_full ha hc]
    exact cmpK_trans _ _ _ _ _ _ _ _ _ h1 h2
  · rw [cmpV_full ha hb]
    unfold cmpK
    rw [if_neg (by omega)]
    omega
  · rw [cmpV_full ha hb] at h1
    unfold cmpK at h1
    by_cases e : A.k = B.k
    · rw [if_pos e] at h1
      refine ⟨e, ?_⟩
      by_cases h2 : A.k = 2
      · rw [if_pos h2] at h1
        have hs := cb_zero _ _ h1
        cases A <;> cases B <;> simp_all [RV.k, RV.n, RV.s]
        exact ByteArray.ext hs
      · rw [if_neg h2] at h1
        have hn : A.n = B.n := by split at h1; omega; split at h1 <;> omega
        refine ⟨hn, ?_⟩
        cases A <;> cases B <;> first | rfl | simp_all [RV.k, RV.s]
    · rw [if_neg e] at h1; omega
  · rw [cmpV_full (by omega) (by omega)]
    unfold cmpK
    rw [if_pos (by omega), if_neg (by omega)]
    split
    · rename_i h; exact ⟨fun _ => h, fun _ => by omega⟩
    · rename_i h
      split
      · exact ⟨fun e => by omega, fun e => absurd e h⟩
      · exact ⟨fun e => by omega, fun e => absurd e h⟩
end Go.Proofs.YtkkfgobdkbcdhaaDoor
