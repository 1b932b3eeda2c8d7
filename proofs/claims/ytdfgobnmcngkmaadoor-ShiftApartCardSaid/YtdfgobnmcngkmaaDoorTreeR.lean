/-
  tree: Leaves: walk. Conditions: each theorem's own.
-/
import Derived.Test.YtdfgobnmcngkmaaDoorTreeN
import Derived.Deep.CutBlock
import Derived.Deep.DeepCutAuto
namespace Go.Proofs.YtdfgobnmcngkmaaDoor
open Go.RowKit
set_option linter.unusedVariables false
set_option linter.unusedSimpArgs false

/-- What a yield that counts says, from a count on, so often. -/
def runY (y : Nat → Bool) (c : Nat) : Nat → Bool × Nat
  | 0 => (true, c)
  | m + 1 => if y (c + 1) then runY y (c + 1) m else (false, c + 1)
theorem runY_true {y : Nat → Bool} {m : Nat} : ∀ {c : Nat}, (runY y c m).1 = true → runY y c m = (true, c + m) := by
  induction m with
  | zero => intro c _; rfl
  | succ m ih =>
    intro c h
    unfold runY at h ⊢
    by_cases hy : y (c + 1) = true
    · rw [if_pos hy] at h ⊢
      rw [ih h]
      congr 1
      omega
    · rw [if_neg hy] at h; cases h
theorem runY_add {y : Nat → Bool} {m m' : Nat} : ∀ {c : Nat}, runY y c m = (true, c + m) → runY y c (m + m') = runY y (c + m) m' := by
  induction m with
  | zero => intro c _; rw [Nat.zero_add, Nat.add_zero]
  | succ m ih =>
    intro c h
    rw [show m + 1 + m' = (m + m') + 1 by omega]
    unfold runY at h ⊢
    by_cases hy : y (c + 1) = true
    · rw [if_pos hy] at h ⊢
      have h' := runY_true (y := y) (m := m) (c := c + 1) (by rw [h])
      rw [ih h', show c + 1 + m = c + (m + 1) by omega]
      rw [← show runY y (c + (m + 1)) m' = _ from rfl]
      cases m' <;> rfl
    · rw [if_neg hy] at h; cases h
theorem runY_stop {y : Nat → Bool} {m m' : Nat} : ∀ {c : Nat}, (runY y c m).1 = false → runY y c (m + m') = runY y c m := by
  induction m with
  | zero => intro c h; cases h
  | succ m ih =>
    intro c h
    rw [show m + 1 + m' = (m + m') + 1 by omega]
    unfold runY at h ⊢
    by_cases hy : y (c + 1) = true
    · rw [if_pos hy] at h ⊢
      rw [if_pos hy, ih h]
    · rw [if_neg hy, if_neg hy]
mutual
def leavesT : Tr → Nat
  | .mk _ [] => 1
  | .mk _ (t :: l) => leavesT t + leavesL l
def leavesL : List Tr → Nat
  | [] => 0
  | t :: l => leavesT t + leavesL l
end
theorem leavesT_mk {s : Sc} {l : List Tr} (h : l ≠ []) : leavesT (.mk s l) = leavesL l := by
  cases l with
  | nil => exact absurd rfl h
  | cons t l => simp only [leavesT, leavesL]
theorem leavesL_append (l l' : List Tr) : leavesL (l ++ l') = leavesL l + leavesL l' := by
  induction l with
  | nil => simp [leavesL]
  | cons t l ih => simp only [List.cons_append, leavesL, ih]; omega
theorem leavesL_take {l : List Tr} {k : Nat} {t : Tr} (h : l[k]? = some t) : leavesL (l.take (k + 1)) = leavesL (l.take k) + leavesT t := by
  rw [List.take_add_one, h, leavesL_append]
  simp [leavesL]
theorem leavesL_drop {l : List Tr} {k : Nat} {t : Tr} (h : l[k]? = some t) : leavesL l = leavesL (l.take k) + leavesT t + leavesL (l.drop (k + 1)) := by
  rw [← leavesL_take h, ← leavesL_append, List.take_append_drop]
mutual
theorem leaves_le : ∀ t : Tr, 1 ≤ leavesT t ∧ leavesT t ≤ sizeT t
  | .mk s [] => by simp only [leavesT, sizeT, sizeL]; omega
  | .mk s (t :: l) => by
    have h1 := leaves_le t
    have h2 := leavesL_le l
    simp only [leavesT, sizeT, sizeL]
    omega
theorem leavesL_le : ∀ l : List Tr, leavesL l ≤ sizeL l
  | [] => by simp only [leavesL, sizeL]; omega
  | t :: l => by
    have h1 := leaves_le t
    have h2 := leavesL_le l
    simp only [leavesL, sizeL]
    omega
end
/-- Block b holds a count. -/
def CountAt (b : Nat) (W : World) (c : Nat) : Prop := W.heap[b]? = some (.cells #[.int .i64 (c : Int)] 3 (0, 0))
/-- A function that counts up what lies in block b, and says by the count. -/
def Yields (k : Nat) (caps : Array Value) (b : Nat) (y : Nat → Bool) (J : World → Prop) : Prop := ∀ (W : World) (c : Nat) (f : Fl), c < 1000000000 → CountAt b W c → J W →
  Calls Tryd.prog k (#[f.val] ++ caps) W fun e w' => e = .returned (.bool (y (c + 1))) ∧ ExtX b W w' ∧ CountAt b w' (c + 1)
theorem CountAt.ext {b c : Nat} {W w : World} (h : CountAt b W c) (hE : Ext W w) : CountAt b w c := hE.blk h
end Go.Proofs.YtdfgobnmcngkmaaDoor
