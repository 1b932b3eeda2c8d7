/-
  law 05: what the laws hand to Map and Leaves. Conditions: each theorem's own.
-/
import Derived.Test.YtdfgobnmcngkmaaDoorTreeT
import Derived.Shelf.Abstract
namespace Go.Proofs.YtdfgobnmcngkmaaDoor
open Go.RowKit
set_option linter.unusedVariables false
set_option linter.unusedSimpArgs false

theorem CountAt.cell {b c : Nat} {W : World} (h : CountAt b W c) : W.cell? ⟨b, 0, none⟩ = some (.int .i64 (c : Int)) := by rw [cell_of_row W b 0 _ _ _ h]; rfl
theorem CountAt.frozen {b c : Nat} {W : World} (h : CountAt b W c) : W.frozen? ⟨b, 0, none⟩ = false := frozen_of_row W b 0 _ _ h
theorem CountAt.set {b c : Nat} {W : World} (h : CountAt b W c) (c' : Nat) : CountAt b (W.setCell ⟨b, 0, none⟩ (.int .i64 (c' : Int))) c' := by
  unfold CountAt at h ⊢
  rw [hq_put rfl, h]; rfl
end Go.Proofs.YtdfgobnmcngkmaaDoor
