/-
  The package value: what makes values: walks. Conditions: each theorem's own.
-/
import Derived.Test.YtmdlahkmnjmanaaDoorRows
import Derived.WalkKit
import Derived.Lib.Hide
import Derived.Outline
import Derived.Lib.Strings
import Derived.Test.YtmdlahkmnjmanaaDoorMask
namespace Go.Proofs.YtmdlahkmnjmanaaDoor
open Go.RowKit
set_option linter.unusedVariables false

/-- A call that hands back one value, and writes nothing that was there. -/
def RetV (k n : Int) (s : ByteArray) (w : World) (e : Ending) (w' : World) : Prop := e = .returned (.agg #[.int .i64 k, .int .i64 n, .string s]) ∧ Below w.heap.size w w'
theorem bcell {W w1 : World} (hb : Below W.heap.size W w1) : (∀ b o, b < W.heap.size → w1.cell? ⟨b, o, none⟩ = W.cell? ⟨b, o, none⟩) ∧ (∀ b o, b < W.heap.size → w1.frozen? ⟨b, o, none⟩ = W.frozen? ⟨b, o, none⟩) :=
  ⟨fun b o h => hb.cell (p := ⟨b, o, none⟩) h, fun b o h => hb.frozen (p := ⟨b, o, none⟩) h⟩

/-- A result's block, filled behind a call. -/
theorem below_fill {W w1 : World} {o : Obj} (hb : Below (W.alloc o).heap.size (W.alloc o) w1) (a b c : Value) :
    Below W.heap.size W (((w1.setCell ⟨W.heap.size, 0, none⟩ a).setCell ⟨W.heap.size, 1, none⟩ b).setCell ⟨W.heap.size, 2, none⟩ c) :=
  (((((Below.refl _ _).alloc (Nat.le_refl _) o).trans (hb.mono (by simp))).setCell (p := ⟨W.heap.size, 0, none⟩) (Nat.le_refl _) _).setCell (p := ⟨W.heap.size, 1, none⟩) (Nat.le_refl _) _).setCell (p := ⟨W.heap.size, 2, none⟩) (Nat.le_refl _) _

/-- A value's fields. -/
theorem vfield0 (k n : Int) (s : ByteArray) (w : World) : (Instr.field 24 (.agg #[.int .i64 k, .int .i64 n, .string s]) 0).run Tryd.prog w = .ok (.int .i64 k) w := by kernel_rfl
theorem vfield1 (k n : Int) (s : ByteArray) (w : World) : (Instr.field 24 (.agg #[.int .i64 k, .int .i64 n, .string s]) 1).run Tryd.prog w = .ok (.int .i64 n) w := by kernel_rfl
theorem vfield2 (k n : Int) (s : ByteArray) (w : World) : (Instr.field 24 (.agg #[.int .i64 k, .int .i64 n, .string s]) 2).run Tryd.prog w = .ok (.string s) w := by kernel_rfl
theorem vnum_any (n : Int) (w : World) : Calls Tryd.prog 14 #[.int .i64 n] w (RetV 1 n { data := #[] } w) := by
  go_enter Tryd.func14, Tryd.ntmps14
  go_wp2
  refine bodyPost_ret (v := .agg #[.int .i64 1, .int .i64 n, .string { data := #[] }]) (by simp [results, Tryd.results14, go_sem]) rfl ⟨rfl, (Below.refl _ _).alloc (Nat.le_refl _) _⟩
theorem vfail_any (n : Int) (w : World) : Calls Tryd.prog 12 #[.int .i64 n] w (RetV 4 n { data := #[] } w) := by
  go_enter Tryd.func12, Tryd.ntmps12
  go_wp2
  refine bodyPost_ret (v := .agg #[.int .i64 4, .int .i64 n, .string { data := #[] }]) (by simp [results, Tryd.results12, go_sem]) rfl ⟨rfl, (Below.refl _ _).alloc (Nat.le_refl _) _⟩
theorem vmade_yes (n : Int) (w : World) : Calls Tryd.prog 20 #[.int .i64 n, .bool true] w (RetV 1 n { data := #[] } w) := by
  go_enter Tryd.func20, Tryd.ntmps20
  go_wp2_with fail
  refine (vnum_any n _).mono ?_
  rintro e w1 ⟨rfl, hb⟩
  obtain ⟨hc, hf⟩ := bcell hb
  have hz : w.heap.size < w1.heap.size := by have := hb.size; simp at this; omega
  go_wp2
  refine bodyPost_ret (v := .agg #[.int .i64 1, .int .i64 n, .string { data := #[] }]) (by simp [results, Tryd.results20, go_sem, hc]) rfl ⟨rfl, below_fill hb _ _ _⟩
theorem vmade_no (n : Int) (w : World) : Calls Tryd.prog 20 #[.int .i64 n, .bool false] w (RetV 4 5 { data := #[] } w) := by
  go_enter Tryd.func20, Tryd.ntmps20
  go_wp2_with fail
  refine (vfail_any 5 _).mono ?_
  rintro e w1 ⟨rfl, hb⟩
  obtain ⟨hc, hf⟩ := bcell hb
  have hz : w.heap.size < w1.heap.size := by have := hb.size; simp at this; omega
  go_wp2
  refine bodyPost_ret (v := .agg #[.int .i64 4, .int .i64 5, .string { data := #[] }]) (by simp [results, Tryd.results20, go_sem, hc]) rfl ⟨rfl, below_fill hb _ _ _⟩

theorem vtext_yes (s : ByteArray) (w : World) (h : s.size ≤ 64) : Calls Tryd.prog 11 #[.string s] w (RetV 2 0 s w) := by
  have h' : (s.size : Int) ≤ 64 := by omega
  go_enter Tryd.func11, Tryd.ntmps11
  go_wp2
  refine bodyPost_ret (v := .agg #[.int .i64 2, .int .i64 0, .string s]) (by simp [results, Tryd.results11, go_sem]) rfl ⟨rfl, (Below.refl _ _).alloc (Nat.le_refl _) _⟩
theorem vtext_no (s : ByteArray) (w : World) (h : 64 < s.size) : Calls Tryd.prog 11 #[.string s] w (RetV 4 2 { data := #[] } w) := by
  have h' : 64 < (s.size : Int) := by omega
  go_enter Tryd.func11, Tryd.ntmps11
  go_wp2_with fail
  refine (vfail_any 2 _).mono ?_
  rintro e w1 ⟨rfl, hb⟩
  obtain ⟨hc, hf⟩ := bcell hb
  have hz : w.heap.size < w1.heap.size := by have := hb.size; simp at this; omega
  go_wp2
  refine bodyPost_ret (v := .agg #[.int .i64 4, .int .i64 2, .string { data := #[] }]) (by simp [results, Tryd.results11, go_sem, hc]) rfl ⟨rfl, below_fill hb _ _ _⟩

end Go.Proofs.YtmdlahkmnjmanaaDoor
