/-
  What the rows of this seat list gives Parse what it leans on. Conditions: each theorem's own.
-/
import Derived.Test.YtkbcdnndhglnoaaDoorAddrD
import Derived.Test.YtkbcdnndhglnoaaDoorAddrJ
namespace Go.Proofs.YtkbcdnndhglnoaaDoor
open Go.RowKit Go.ChangeShapes
set_option linter.unusedVariables false

theorem env_of_laid {W : World} (h : laidMetH Tryd.prog laidLA W) (hsh : W.ShapedOpen Tryd.prog) : EnvP W := by
  rw [MakeChecks.laidMetH_plain _ _ _ (by kernel_rfl)] at h
  exact ⟨max_of_shape hsh, pow_of h.tail.tail, sx_of h.tail.tail.tail.tail, rg_of h.tail.tail.tail⟩
end Go.Proofs.YtkbcdnndhglnoaaDoor
