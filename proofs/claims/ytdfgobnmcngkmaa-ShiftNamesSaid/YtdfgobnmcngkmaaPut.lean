/-
  A block that is known whole is written whole. Conditions: each theorem's own.
-/
import Derived.Test.YtdfgobnmcngkmaaBlocks
namespace Go.Proofs.Ytdfgobnmcngkmaa
open Go.RowKit
set_option linter.unusedVariables false

theorem put_blk {W w : World} {g : Nat} {old : Array Value} {t : TypeId} {fr : Nat × Nat} (hE : Ext W w) (hl : W.heap.size ≤ g) (hb : w.heap[g]? = some (.cells old t fr)) (cs : Array Value) :
    ∃ W', w.setRow g cs = W' ∧ Ext W W' ∧ W'.heap[g]? = some (.cells cs t fr) :=
  ⟨_, rfl, below_row hE hl, by rw [hq_same rfl, hb]; rfl⟩
/-- Those beside it stand. -/
theorem put_off {w : World} {g n : Nat} {cs : Array Value} {o : Obj} (h : n ≠ g) (hb : w.heap[n]? = some o) : (w.setRow g cs).heap[n]? = some o := by rw [hq_row h, hb]
end Go.Proofs.Ytdfgobnmcngkmaa
