/-
  The package value: what makes values: walks. Conditions: each theorem's own.
-/
import Derived.Test.YtffogjhjgmohiaaDoorRows
import Derived.WalkKit
import Derived.Lib.Hide
import Derived.Outline
import Derived.Lib.Strings
import Derived.Test.YtffogjhjgmohiaaDoorMask
namespace Go.Proofs.YtffogjhjgmohiaaDoor
open Go.RowKit
set_option linter.unusedVariables false

/-- A call that hands back one value, and writes nothing that was there. -/
def RetV (k n : Int) (s : ByteArray) (w : World) (e : Ending) (w' : World) : Prop := e = .returned (.agg #[.int .i64 k, .int .i64 n, .string s]) ∧ Below w.heap.size w w'
theorem bcell {W w1 : World} (hb : Below W.heap.size W w1) : (∀ b o, b < W.heap.size → w1.cell? ⟨b, o, none⟩ = W.cell? ⟨b, o, none⟩) ∧ (∀ b o, b < W.heap.size → w1.frozen? ⟨b, o, none⟩ = W.frozen? ⟨b, o, none⟩) :=
  ⟨fun b o h => hb.cell (p := ⟨b, o, none⟩) h, fun b o h => hb.frozen (p := ⟨b, o, none⟩) h⟩

/-- A result's block, filled behind a call. -/
theorem below_fill {W w1 : World} {o : Obj} (hb : Below (W.alloc o).heap.size (W.alloc o) w1) (a b c : Value) :
    Below W.heap.size W (((w1.setCell ⟨W.heap.size, 0, none⟩ a).setCell ⟨W.heap.size, 1, none⟩ b).setCell ⟨W.heap.size, 2, none⟩ c) :=
  (((((Below.refl _ _).alloc (Nat.le_refl _) o).trans (hb.mono (by simp))).setCell (p := ⟨W.heap.size, 0, none⟩) (Nat.le_refl _) _).setCell (p := ⟨W.heap.size, 1, none⟩) (Nat.le_refl _) _).setCell (p := ⟨W.heap.size, 2, none⟩) (Nat.le_refl _) _

/-- A value's fields. -/
theorem vfield0 (k n : Int) (s : ByteArray) (w : World) : (Instr.field 26 (.agg #[.int .i64 k, .int .i64 n, .string s]) 0).run Tryd.prog w = .ok (.int .i64 k) w := by kernel_rfl
theorem vfield1 (k n : Int) (s : ByteArray) (w : World) : (Instr.field 26 (.agg #[.int .i64 k, .int .i64 n, .string s]) 1).run Tryd.prog w = .ok (.int .i64 n) w := by kernel_rfl
theorem vfield2 (k n : Int) (s : ByteArray) (w : World) : (Instr.field 26 (.agg #[.int .i64 k, .int .i64 n, .string s]) 2).run Tryd.prog w = .ok (.string s) w := by kernel_rfl
theorem vnum_any (n : Int) (w : World) : Calls Tryd.prog 50 #[.int .i64 n] w (RetV 1 n { data := #[] } w) := by
  go_enter Tryd.func50, Tryd.ntmps50
  go_wp2
  refine bodyPost_ret (v := .agg #[.int .i64 1, .int .i64 n, .string { data := #[] }]) (by simp [results, Tryd.results50, go_sem]) rfl ⟨rfl, (Below.refl _ _).alloc (Nat.le_refl _) _⟩
theorem vfail_any (n : Int) (w : World) : Calls Tryd.prog 53 #[.int .i64 n] w (RetV 4 n { data := #[] } w) := by
  go_enter Tryd.func53, Tryd.ntmps53
  go_wp2
  refine bodyPost_ret (v := .agg #[.int .i64 4, .int .i64 n, .string { data := #[] }]) (by simp [results, Tryd.results53, go_sem]) rfl ⟨rfl, (Below.refl _ _).alloc (Nat.le_refl _) _⟩

theorem vtext_yes (s : ByteArray) (w : World) (h : s.size ≤ 64) : Calls Tryd.prog 51 #[.string s] w (RetV 2 0 s w) := by
  have h' : (s.size : Int) ≤ 64 := by omega
  go_enter Tryd.func51, Tryd.ntmps51
  go_wp2
  refine bodyPost_ret (v := .agg #[.int .i64 2, .int .i64 0, .string s]) (by simp [results, Tryd.results51, go_sem]) rfl ⟨rfl, (Below.refl _ _).alloc (Nat.le_refl _) _⟩
theorem vtext_no (s : ByteArray) (w : World) (h : 64 < s.size) : Calls Tryd.prog 51 #[.string s] w (RetV 4 2 { data := #[] } w) := by
  have h' : 64 < (s.size : Int) := by omega
  go_enter Tryd.func51, Tryd.ntmps51
  go_wp2_with fail
  refine (vfail_any 2 _).mono ?_
  rintro e w1 ⟨rfl, hb⟩
  obtain ⟨hc, hf⟩ := bcell hb
  have hz : w.heap.size < w1.heap.size := by have := hb.size; simp at this; omega
  go_wp2
  refine bodyPost_ret (v := .agg #[.int .i64 4, .int .i64 2, .string { data := #[] }]) (by simp [results, Tryd.results51, go_sem, hc]) rfl ⟨rfl, below_fill hb _ _ _⟩

/-- May it be a value? -/
def vr (k n : Int) (s : ByteArray) : Bool :=
  decide ((k = 0 ∧ n = 0 ∧ s.size = 0) ∨ (k = 1 ∧ n ≠ -9223372036854775808 ∧ s.size = 0) ∨ (k = 2 ∧ n = 0 ∧ s.size ≤ 64) ∨ (k = 3 ∧ (n = 0 ∨ n = 1) ∧ s.size = 0) ∨ (k = 4 ∧ 1 ≤ n ∧ n ≤ 7 ∧ s.size = 0))
theorem empty_size (s : ByteArray) : s.toList.isEmpty = decide (s.size = 0) := by
  rw [Lib.toList_data, Bool.eq_iff_iff]
  simp only [List.isEmpty_iff, decide_eq_true_eq]
  exact ⟨fun h => by have := congrArg List.length h; simpa using this, fun h => List.length_eq_zero_iff.1 h⟩
theorem ret_bool {p q : Bool} (h : p = q) : Ending.returned (.bool p) = Ending.returned (.bool q) := by rw [h]
theorem vright_any (k n : Int) (s : ByteArray) (w : World) (hn : -9223372036854775808 ≤ n ∧ n ≤ 9223372036854775807) :
    Calls Tryd.prog 42 #[.agg #[.int .i64 k, .int .i64 n, .string s]] w fun e w' => e = .returned (.bool (vr k n s)) ∧ Below w.heap.size w w' := by
  have hes := empty_size s
  have hand := and_i64_1 n
  obtain ⟨u, hu⟩ : ∃ u, vr k n s = u := ⟨_, rfl⟩
  rw [hu]
  have HU := Lib.hid hu
  have HE := Lib.hid hes
  have HA := Lib.hid hand
  clear hu hes hand
  by_cases h0 : k = 0
  · subst h0
    go_enter Tryd.func42, Tryd.ntmps42
    go_wp2
    all_goals go_ret
    all_goals exact ⟨ret_bool (by rw [← HU.out]; simp [vr, HE.out, *]), (Below.refl _ _).alloc (Nat.le_refl _) _⟩
  by_cases h1 : k = 1
  · subst h1
    go_enter Tryd.func42, Tryd.ntmps42
    go_wp2
    all_goals go_ret
    all_goals exact ⟨ret_bool (by rw [← HU.out]; first | (simp [vr, *]; done) | simp [vr, HE.out, *]), (Below.refl _ _).alloc (Nat.le_refl _) _⟩
  by_cases h2 : k = 2
  · subst h2
    go_enter Tryd.func42, Tryd.ntmps42
    go_wp2
    all_goals go_ret
    all_goals exact ⟨ret_bool (by rw [← HU.out]; first | (simp [vr, *]; done) | (simp [vr, *]; omega)), (Below.refl _ _).alloc (Nat.le_refl _) _⟩
  by_cases h3 : k = 3
  · subst h3
    have hand := HA.out
    go_enter Tryd.func42, Tryd.ntmps42
    go_wp2
    all_goals go_ret
    all_goals exact ⟨ret_bool (by rw [← HU.out]; simp [vr, HE.out, *] <;> omega), (Below.refl _ _).alloc (Nat.le_refl _) _⟩
  by_cases h4 : k = 4
  · subst h4
    go_enter Tryd.func42, Tryd.ntmps42
    go_wp2
    all_goals go_ret
    all_goals exact ⟨ret_bool (by rw [← HU.out]; simp [vr, HE.out, *] <;> omega), (Below.refl _ _).alloc (Nat.le_refl _) _⟩
  · have t0 : (k == 0) = false := by simp; omega
    have t1 : (k == 1) = false := by simp; omega
    have t2 : (k == 2) = false := by simp; omega
    have t3 : (k == 3) = false := by simp; omega
    have t4 : (k == 4) = false := by simp; omega
    have hv : Hid (vr k n s = false) := by show _ = _; simp [vr, h0, h1, h2, h3, h4]
    clear h0 h1 h2 h3 h4
    go_enter Tryd.func42, Tryd.ntmps42
    go_wp2
    go_ret
    exact ⟨ret_bool (by rw [← HU.out, hv.out]), (Below.refl _ _).alloc (Nat.le_refl _) _⟩
end Go.Proofs.YtffogjhjgmohiaaDoor
