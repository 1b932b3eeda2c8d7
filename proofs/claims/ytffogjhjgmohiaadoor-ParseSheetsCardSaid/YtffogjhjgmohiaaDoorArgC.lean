/-
  Cells, and values, that came in. Conditions: each theorem's own.
-/
import Derived.Test.YtffogjhjgmohiaaDoorRows
import Derived.WalkKit
import Derived.Deep.Slices
import Derived.Deep.Strs
import Derived.OpenShut
import Derived.Lib.SmallJoins
namespace Go.Proofs.YtffogjhjgmohiaaDoor
open Go.RowKit Go.Deep Go.ChangeShapes Go.WideShapes Go.Joins
set_option linter.unusedVariables false
set_option maxRecDepth 100000

section
variable {H : Type} {enc : TypeId × Value → H} {w : World} {base : Nat} {spare : Nat → Bool} {held : Bool}
/-- A cell that came in. -/
structure Cl where
  s : Int
  c : Int
  r : Int
def inI (a : Int) : Prop := -9223372036854775808 ≤ a ∧ a ≤ 9223372036854775807
def Cl.wf (x : Cl) : Prop := inI x.s ∧ inI x.c ∧ inI x.r
theorem trod_cl {fuel : Nat} {cs : List Value} {x : DataW H × List MemPlace} (h : DataW.trod enc Tryd.prog w base spare held fuel 28 cs = some x) :
    ∃ v : Cl, cs = [.int .i64 v.s, .int .i64 v.c, .int .i64 v.r] ∧ v.wf := by
  obtain ⟨y0, y1, y2, n, hx, hl, h0, h1, h2⟩ := trod_struct3 Tryd.underlying28 h
  have hC : Tryd.prog.cellsOf 28 = 3 := by kernel_rfl
  have c0 : Tryd.prog.cellsOf 3 = 1 := by kernel_rfl
  rw [hC] at hl
  match cs, hl with
  | [u0, u1, u2], _ =>
    simp [c0] at h0
    simp [c0] at h1
    simp [c0] at h2
    obtain ⟨k, hk, _, wk⟩ := DataW.trod_int Tryd.underlying3 h0
    obtain ⟨m, hm, _, wm⟩ := DataW.trod_int Tryd.underlying3 h1
    obtain ⟨s, hs, _, ws⟩ := DataW.trod_int Tryd.underlying3 h2
    simp at hk hm hs
    subst hk hm hs
    exact ⟨⟨k, m, s⟩, rfl, bounds_i64 wk, bounds_i64 wm, bounds_i64 ws⟩
theorem open_cell {r : Reach} {b0 : Nat} {v : Value} {d : DataW H} {p : List MemPlace} (hv : Value.okWide Tryd.prog w r b0 28 v) (h : DataW.Trod enc Tryd.prog w base spare held 28 v d p) :
    ∃ x : Cl, x.wf ∧ v = .agg #[.int .i64 x.s, .int .i64 x.c, .int .i64 x.r] := by
  obtain ⟨cs, rfl, hsz⟩ := okWide_struct Tryd.underlying28 hv
  obtain ⟨fuel, hf⟩ := h
  obtain ⟨x, hx, hw⟩ := trod_cl hf
  refine ⟨x, hw, ?_⟩
  simp [Value.cells] at hx
  rw [show cs = cs.toList.toArray by simp, hx]
end
end Go.Proofs.YtffogjhjgmohiaaDoor
