/-
  Values that came in, with how long their texts may be. Conditions: each theorem's own.
-/
import Derived.Test.YtbnebiobahajjaaGreatDoorRows
import Derived.WalkKit
import Derived.Deep.Slices
import Derived.Deep.Strs
import Derived.OpenShut
import Derived.Lib.SmallJoins
namespace Go.Proofs.YtbnebiobahajjaaGreatDoor
open Go.RowKit Go.Deep Go.ChangeShapes Go.WideShapes Go.Joins
set_option linter.unusedVariables false
set_option maxRecDepth 100000

/-- A value that came in: its kind, its number, its text. -/
structure Vl where
  k : Int
  n : Int
  s : ByteArray
def VW (v : Vl) : Prop := (-9223372036854775808 ≤ v.k ∧ v.k ≤ 9223372036854775807) ∧ (-9223372036854775808 ≤ v.n ∧ v.n ≤ 9223372036854775807) ∧ v.s.size ≤ 9223372036854775807
section
variable {H : Type} {enc : TypeId × Value → H} {w : World} {base : Nat} {spare : Nat → Bool} {held : Bool}
theorem trod_vl {fuel : Nat} {cs : List Value} {x : DataW H × List MemPlace} (h : DataW.trod enc Tryz.prog w base spare held fuel 26 cs = some x) :
    ∃ v : Vl, cs = [.int .i64 v.k, .int .i64 v.n, .string v.s] ∧ VW v := by
  obtain ⟨y0, y1, y2, n, hx, hl, h0, h1, h2⟩ := trod_struct3 Tryz.underlying26 h
  have hC : Tryz.prog.cellsOf 26 = 3 := by kernel_rfl
  have c0 : Tryz.prog.cellsOf 3 = 1 := by kernel_rfl
  have c1 : Tryz.prog.cellsOf 2 = 1 := by kernel_rfl
  have c2 : Tryz.prog.cellsOf 9 = 1 := by kernel_rfl
  rw [hC] at hl
  match cs, hl with
  | [u0, u1, u2], _ =>
    simp [c0] at h0
    simp [c1] at h1
    simp [c2] at h2
    obtain ⟨k, hk, _, wk⟩ := DataW.trod_int Tryz.underlying3 h0
    obtain ⟨m, hm, _, wm⟩ := DataW.trod_int Tryz.underlying2 h1
    obtain ⟨s, hs, _, wz⟩ := DataW.trod_string Tryz.underlying9 h2
    simp at hk hm hs
    subst hk hm hs
    exact ⟨⟨k, m, s⟩, rfl, bounds_i64 wk, bounds_i64 wm, by unfold maxLen at wz; exact wz⟩
theorem open_value {r : Reach} {b0 : Nat} {v : Value} {d : DataW H} {p : List MemPlace} (hv : Value.okWide Tryz.prog w r b0 26 v) (h : DataW.Trod enc Tryz.prog w base spare held 26 v d p) :
    ∃ x : Vl, VW x ∧ v = .agg #[.int .i64 x.k, .int .i64 x.n, .string x.s] := by
  obtain ⟨cs, rfl, hsz⟩ := okWide_struct Tryz.underlying26 hv
  obtain ⟨fuel, hf⟩ := h
  obtain ⟨x, hx, hw⟩ := trod_vl hf
  refine ⟨x, hw, ?_⟩
  simp [Value.cells] at hx
  rw [show cs = cs.toList.toArray by simp, hx]
end
end Go.Proofs.YtbnebiobahajjaaGreatDoor
