/-
  A block that is known whole is written whole. Conditions: each theorem's own.
-/
import Derived.Test.YtdfgobnmcngkmaaDoorBlocks
namespace Go.Proofs.YtdfgobnmcngkmaaDoor
open Go.RowKit
set_option linter.unusedVariables false

theorem put_blk {W w : World} {g : Nat} {old : Array Value} {t : TypeId} {fr : Nat × Nat} (hE : Ext W w) (hl : W.heap.size ≤ g) (hb : w.heap[g]? = some (.cells old t fr)) (cs : Array Value) :
    ∃ W', w.setRow g cs = W' ∧ Ext W W' ∧ W'.heap[g]? = some (.cells cs t fr) :=
  ⟨_, rfl, below_row hE hl, by rw [hq_same rfl, hb]; rfl⟩
/-- Those beside it stand. -/
theorem put_off {w : World} {g n : Nat} {cs : Array Value} {o : Obj} (h : n ≠ g) (hb : w.heap[n]? = some o) : (w.setRow g cs).heap[n]? = some o := by rw [hq_row h, hb]
theorem ext_drew {a w : World} (h : Ext a w) : Ext a w.drew := below_drew1 h
theorem ext_set {a w : World} {p : Addr} {v : Value} (h : Ext a w) (hp : a.heap.size ≤ p.block) : Ext a (w.setCell p v) := below_set h hp
def setIn (i : Nat) (v : Value) : Obj → Obj
  | .cells cs t fr => .cells (cs.setIfInBounds i v) t fr
  | o => o
theorem setIn_cells (i : Nat) (v : Value) (cs : Array Value) (t : TypeId) (fr : Nat × Nat) : setIn i v (.cells cs t fr) = .cells (cs.setIfInBounds i v) t fr := rfl
theorem hq_put {w : World} {g i n : Nat} {v : Value} (h : n = g) : (w.setCell ⟨g, i, none⟩ v).heap[n]? = (w.heap[n]?).map (setIn i v) := by
  subst h
  unfold World.setCell
  simp only [Array.getElem?_modify, if_true]
  congr 1
end Go.Proofs.YtdfgobnmcngkmaaDoor
