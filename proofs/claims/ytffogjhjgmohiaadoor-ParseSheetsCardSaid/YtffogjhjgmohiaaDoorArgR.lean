/-
  References that came in. Conditions: each theorem's own.
-/
import Derived.Test.YtffogjhjgmohiaaDoorArgC
import Derived.Test.YtffogjhjgmohiaaDoorNodes
namespace Go.Proofs.YtffogjhjgmohiaaDoor
open Go.RowKit Go.Deep Go.ChangeShapes Go.WideShapes Go.Joins
set_option linter.unusedVariables false
set_option maxRecDepth 100000
set_option linter.unusedSimpArgs false

section
variable {H : Type} {enc : TypeId × Value → H} {w : World} {base : Nat} {spare : Nat → Bool} {held : Bool}
theorem trod_rv {fuel : Nat} {cs : List Value} {x : DataW H × List MemPlace} (h : DataW.trod enc Tryd.prog w base spare held fuel 30 cs = some x) :
    ∃ v : Rf, cs = [.int .i64 v.s, .int .i64 v.c, .int .i64 v.r, .bool v.x, .bool v.y] := by
  obtain ⟨y0, y1, y2, n, hx, hl, h0, h1, h2⟩ := trod_struct3 Tryd.underlying30 h
  have hC : Tryd.prog.cellsOf 30 = 5 := by kernel_rfl
  have c0 : Tryd.prog.cellsOf 28 = 3 := by kernel_rfl
  have c1 : Tryd.prog.cellsOf 4 = 1 := by kernel_rfl
  rw [hC] at hl
  match cs, hl with
  | [u0, u1, u2, u3, u4], _ =>
    simp [c0, c1] at h0
    simp [c0, c1] at h1
    simp [c0, c1] at h2
    obtain ⟨v, hv, -⟩ := trod_cl h0
    obtain ⟨k, hk, _⟩ := DataW.trod_bool Tryd.underlying4 h1
    obtain ⟨m, hm, _⟩ := DataW.trod_bool Tryd.underlying4 h2
    simp at hv hk hm
    obtain ⟨rfl, rfl, rfl⟩ := hv
    subst hk hm
    exact ⟨⟨v.s, v.c, v.r, k, m⟩, rfl⟩
theorem open_ref {r : Reach} {b0 : Nat} {v : Value} {d : DataW H} {p : List MemPlace} (hv : Value.okWide Tryd.prog w r b0 30 v) (h : DataW.Trod enc Tryd.prog w base spare held 30 v d p) :
    ∃ x : Rf, True ∧ v = x.val := by
  obtain ⟨cs, rfl, hsz⟩ := okWide_struct Tryd.underlying30 hv
  obtain ⟨fuel, hf⟩ := h
  obtain ⟨x, hx⟩ := trod_rv hf
  refine ⟨x, trivial, ?_⟩
  simp [Value.cells] at hx
  rw [show cs = cs.toList.toArray by simp, hx]
  rfl
end
end Go.Proofs.YtffogjhjgmohiaaDoor
