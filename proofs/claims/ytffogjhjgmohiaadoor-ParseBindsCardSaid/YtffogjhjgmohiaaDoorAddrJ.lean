/-
  What Parse leans on, of what the rows list. Conditions: each theorem's own.
-/
import Derived.Test.YtffogjhjgmohiaaDoorAddrH
import Derived.Stop.LaidErr
import Derived.LaidMore
import Derived.MakeChecks
import Derived.WalkLawsBesides
namespace Go.Proofs.YtffogjhjgmohiaaDoor
open Go.RowKit Go.ChangeShapes
set_option linter.unusedVariables false

theorem gEsxType : (Tryd.prog.globals[4]?).map (·.type) = some 127 := by kernel_rfl
theorem gErgType : (Tryd.prog.globals[5]?).map (·.type) = some 127 := by kernel_rfl
theorem gPowType : (Tryd.prog.globals[6]?).map (·.type) = some 161 := by kernel_rfl
theorem starE : "*" ++ "errors.errorString" = "*errors.errorString" := by decide
theorem rowE (u : TypeId) (h : Tryd.prog.typeName? 3 u = some "*errors.errorString") : u = 157 :=
  typeName_ptr_named (nm := "errors.errorString") (by rw [starE]; kernel_rfl) (by kernel_rfl) (by decide) u (by rw [starE]; exact h)
theorem cellsE : Tryd.prog.cellsOf 159 = 1 := by kernel_rfl
theorem cellsS : Tryd.prog.cellsOf 9 = 1 := by kernel_rfl
theorem sx_of {W : World} {r : List (String × DataW Unit)} (h : laidMet Tryd.prog (("strconv.ErrSyntax", Rows.laid_strconv_ErrSyntax) :: r) W) : ∃ tp p, W.var? Tryd.prog "strconv.ErrSyntax" = some #[.iface tp p] := by
  obtain ⟨a, s, hv, -⟩ := laid_sentinel h gEsx gEsxType Tryd.underlying127 rowE Tryd.underlying157 Tryd.underlying159 rfl rfl Tryd.underlying9 cellsE cellsS
  exact ⟨_, _, hv⟩
theorem rg_of {W : World} {r : List (String × DataW Unit)} (h : laidMet Tryd.prog (("strconv.ErrRange", Rows.laid_strconv_ErrRange) :: r) W) : ∃ tp p, W.var? Tryd.prog "strconv.ErrRange" = some #[.iface tp p] := by
  obtain ⟨a, s, hv, -⟩ := laid_sentinel h gErg gErgType Tryd.underlying127 rowE Tryd.underlying157 Tryd.underlying159 rfl rfl Tryd.underlying9 cellsE cellsS
  exact ⟨_, _, hv⟩
theorem pow_data : (Rows.laid_internal_strconv_uint64pow10 : DataW Unit) = Lib.tabData .u64 Lib.pow10Tab := by kernel_rfl
theorem pow_of {W : World} {r : List (String × DataW Unit)} (h : laidMet Tryd.prog (("internal/strconv.uint64pow10", Rows.laid_internal_strconv_uint64pow10) :: r) W) : Lib.TabIs Tryd.prog W "internal/strconv.uint64pow10" .u64 Lib.pow10Tab := by
  obtain ⟨ps, ⟨g0, t0, cs0, f0, p0, q0, hg0, ht0, hv0, hd0, _, _⟩, _⟩ := h
  obtain rfl := Option.some.inj (gPow.symm.trans hg0)
  obtain rfl := Option.some.inj (gPowType.symm.trans ht0)
  rw [pow_data] at hd0
  unfold Lib.TabIs
  rw [hv0, ← Lib.cells_of_tab Tryd.underlying161 Tryd.underlying112 (by kernel_rfl) (by kernel_rfl) hd0]
end Go.Proofs.YtffogjhjgmohiaaDoor
