/-
  Blocks known whole: a struct of many cells read, and written, at once. Conditions: each theorem's own.
-/
import Derived.WalkKit
import Derived.Laws.Rows
import Derived.Below
import Derived.BigQuiet
import Derived.Test.YtffogjhjgmohiaaDoorRegion
namespace Go.Proofs.YtffogjhjgmohiaaDoor
open Go.RowKit
set_option linter.unusedVariables false

theorem below_alloc1 (w : World) (o : Obj) : Ext w (w.alloc o) := (Below.refl _ _).alloc (Nat.le_refl _) o
theorem below_drew1 {B : Nat} {a w : World} (h : Below B a w) : Below B a w.drew := h.drew
theorem ext_alloc {a w : World} (h : Ext a w) (o : Obj) : Ext a (w.alloc o) := Below.alloc h (Below.size h) o
theorem ext_dig {w w1 : World} {o : Obj} (h : Ext (w.alloc o) w1) : Ext w w1 := (below_alloc1 w o).trans h
theorem ecell {W w1 : World} (hb : Ext W w1) : (∀ b o, b < W.heap.size → w1.cell? ⟨b, o, none⟩ = W.cell? ⟨b, o, none⟩) ∧ (∀ b o, b < W.heap.size → w1.frozen? ⟨b, o, none⟩ = W.frozen? ⟨b, o, none⟩) :=
  ⟨fun b o h => Below.cell (p := ⟨b, o, none⟩) hb h, fun b o h => Below.frozen (p := ⟨b, o, none⟩) hb h⟩
theorem bheap {W w1 : World} (hb : Ext W w1) : ∀ b, b < W.heap.size → w1.heap[b]? = W.heap[b]? := fun b h => Below.block hb b h
theorem below_set {w W : World} {p : Addr} {v : Value} (h : Ext w W) (hp : w.heap.size ≤ p.block) : Ext w (W.setCell p v) := Below.setCell h hp v
theorem below_drewN {B : Nat} {a w : World} (h : Below B a w) (n : Nat) : Below B a (w.drewN n) := ⟨h.os, h.tape, h.output, h.size, h.block⟩
theorem below_row {w W : World} {g : Nat} {cs : Array Value} (h : Ext w W) (hp : w.heap.size ≤ g) : Ext w (W.setRow g cs) :=
  ⟨h.os, h.tape, h.output, by rw [size_setRow]; exact h.size, fun b hb => (setRow_other W g b cs (by omega)).trans (h.block b hb)⟩

theorem hq_at {w : World} (o : Obj) (n : Nat) (h : n = w.heap.size) : (w.alloc o).heap[n]? = some o := by subst h; exact heap_alloc_new w o
theorem hq_past {w : World} (o : Obj) (n : Nat) (h : n < w.heap.size) : (w.alloc o).heap[n]? = w.heap[n]? := by
  show (w.heap.push o)[n]? = _
  rw [Array.getElem?_push, if_neg (by omega)]
theorem hq_drew {w : World} (n : Nat) : w.drew.heap[n]? = w.heap[n]? := rfl
theorem hq_drewN {w : World} (n k : Nat) : (w.drewN k).heap[n]? = w.heap[n]? := rfl
theorem hq_cell {w : World} {g i n : Nat} {v : Value} (h : n ≠ g) : (w.setCell ⟨g, i, none⟩ v).heap[n]? = w.heap[n]? := heap_setCell_other w ⟨g, i, none⟩ n v h
theorem hq_row {w : World} {g n : Nat} {cs : Array Value} (h : n ≠ g) : (w.setRow g cs).heap[n]? = w.heap[n]? := setRow_other w g n cs h
def rowOf (cs : Array Value) : Obj → Obj
  | .cells _ t fr => .cells cs t fr
  | o => o
theorem rowOf_cells (cs c : Array Value) (t : TypeId) (fr : Nat × Nat) : rowOf cs (.cells c t fr) = .cells cs t fr := rfl
theorem hq_same {w : World} {g n : Nat} {cs : Array Value} (h : n = g) : (w.setRow g cs).heap[n]? = (w.heap[n]?).map (rowOf cs) := by
  subst h
  unfold World.setRow
  simp only [Array.getElem?_modify, if_true]
  rfl
theorem setRow_at {w : World} (c cs : Array Value) (t : TypeId) (n : Nat) (h : n = w.heap.size) : (w.alloc (.cells c t)).setRow n cs = w.alloc (.cells cs t) := by
  subst h
  unfold World.setRow World.alloc
  congr 1
  apply Array.ext
  · simp
  · intro k h1 h2
    simp only [Array.getElem_modify]
    split
    · rename_i hk; subst hk; simp
    · rename_i hk
      simp only [Array.size_modify, Array.size_push] at h1
      rw [Array.getElem_push_lt (by omega), Array.getElem_push_lt (by omega)]
theorem setRow_past {w : World} (o : Obj) (cs : Array Value) (n : Nat) (h : n < w.heap.size) : (w.alloc o).setRow n cs = (w.setRow n cs).alloc o := by
  unfold World.setRow World.alloc
  congr 1
  apply Array.ext
  · simp
  · intro k h1 h2
    simp only [Array.size_modify, Array.size_push] at h1
    by_cases hk : k = w.heap.size
    · subst hk
      simp only [Array.getElem_modify]
      rw [if_neg (by omega)]
      simp only [Array.getElem_push_eq]
      rw [Array.getElem_push, dif_neg (by simp)]
    · simp only [Array.getElem_modify]
      rw [Array.getElem_push_lt (by omega), Array.getElem_push_lt (by simp; omega)]
      simp only [Array.getElem_modify]
theorem setRow_drew {w : World} (cs : Array Value) (n : Nat) : w.drew.setRow n cs = (w.setRow n cs).drew := rfl
section
variable {P : Program} {ops : Array Oper} {rest : List Oper} {o : Oper} {a : Act} {w : World} {Q : Exit → Act → World → Prop}
def isBuild (t : TypeId) : Op → Bool
  | .build u _ => u == t
  | _ => false
def isLoad (t : TypeId) : Op → Bool
  | .load u _ => u == t
  | _ => false
def isStore (t : TypeId) : Op → Bool
  | .store u _ _ => u == t
  | _ => false
theorem wpl_guard (p : Op → Bool) (hp : p o.op = true) (h : wpList P ops Q (o :: rest) a w) : wpList P ops Q (o :: rest) a w := h
theorem wpl_here (h : wpList P ops Q (o :: rest) a w) : wpList P ops Q (o :: rest) a w := h
theorem ret_row {fn : Func} {R : Ending → World → Prop} {p : Tmp} {ty : TypeId} {g : Nat} {t : TypeId} {cs : Array Value} {fr : Nat × Nat} {d : TypeDesc} (h : fn.results = #[.cell p ty]) (hp : a.tmps.getD p undef = .pointer (some ⟨g, 0, none⟩))
    (hg : w.heap[g]? = some (.cells cs t fr)) (hu : P.underlying ty = some d) (hd : (match d with | .struct _ | .array _ _ => true | _ => false) = true) (hi : (P.info? ty).map (·.size) = some cs.size)
    (hdef : a.defers = []) (hR : R (.returned (.agg cs)) w) : bodyPost P fn R Exit.ret a w :=
  bodyPost_ret (results_cell_row h a.tmps w g t cs fr d hp hg hu hd hi) hdef hR
theorem wpl_build (hg : o.guard = none) (t : TypeId) (parts : Array (Nat × Operand)) (ho : o.op = .build t parts)
    {l : List (Nat × Value)} {cs : Array Value} (hb : P.built t l = some cs) (hl : parts.toList.map (fun x => (x.1, a.eval x.2)) = l)
    (h : wpList P ops Q rest (a.put o.dst (.agg cs)) w) : wpList P ops Q (o :: rest) a w := by
  have hl' : (parts.map fun (i, x) => (i, a.eval x)).toList = l := by rw [Array.toList_map]; exact hl
  exact wpList_build hg t parts ho (by rw [hl', hb]; rfl) (by rw [hl', hb]; exact h)
theorem wpl_store (hgd : o.guard = none) (ty : TypeId) (x y : Operand) (ho : o.op = .store ty x y)
    {g : Nat} {cells : Array Value} (hx : a.eval x = .pointer (some ⟨g, 0, none⟩)) (hy : a.eval y = .agg cells)
    {t : TypeId} {old : Array Value} (hg : w.heap[g]? = some (.cells old t (0, 0))) (hi : (P.info? ty).map (·.size) = some cells.size)
    (hold : old.size = cells.size) (h1 : cells.toList.all (·.oneCell') = true) {w' : World} (hw : w.setRow g cells = w')
    (h : wpList P ops Q rest (a.put o.dst undef) w') : wpList P ops Q (o :: rest) a w := by
  subst hw
  exact wpList_store_row hgd ty x y ho g cells hx hy t old hg hi hold (by rw [← Array.all_toList]; exact h1) h
theorem wpl_load (hgd : o.guard = none) (ty : TypeId) (x : Operand) (ho : o.op = .load ty x)
    {g : Nat} (hx : a.eval x = .pointer (some ⟨g, 0, none⟩)) {t : TypeId} {cs : Array Value} {fr : Nat × Nat} {d : TypeDesc} (hg : w.heap[g]? = some (.cells cs t fr))
    (hu : P.underlying ty = some d) (hd : (match d with | .struct _ | .array _ _ => true | _ => false) = true) (hi : (P.info? ty).map (·.size) = some cs.size)
    (h : wpList P ops Q rest (a.put o.dst (.agg cs)) w) : wpList P ops Q (o :: rest) a w :=
  wpList_load_row hgd ty x ho g hx t cs fr d hg hu hd hi h
end
/-- A block known whole, in each later world. -/
theorem ext_blk {W : World} {g : Nat} {cs : Array Value} {t : TypeId} {fr : Nat × Nat} (h : W.heap[g]? = some (.cells cs t fr)) : ∀ w, Ext W w → ∀ i, w.cell? ⟨g, i, none⟩ = cs[i]? := fun w hE i => by
  have hlt : g < W.heap.size := (Array.getElem?_eq_some_iff.1 h).1
  exact cell_of_row w g i cs t fr (by rw [Below.block hE g hlt]; exact h)
theorem ext_lt {W : World} {g : Nat} (h : g < W.heap.size) : ∀ w, Ext W w → g < w.heap.size := fun w hE => Nat.lt_of_lt_of_le h (Below.size hE)
/-- New blocks, and the world that holds them, by a name. -/
theorem new_blk (w : World) (cs : Array Value) (t : TypeId) : ∃ W, w.alloc (.cells cs t) = W ∧ Ext w W ∧ W.heap[w.heap.size]? = some (.cells cs t (0, 0)) ∧ w.heap.size < W.heap.size ∧ W.heap.size = w.heap.size + 1 :=
  ⟨_, rfl, below_alloc1 _ _, hq_at _ _ rfl, by simp, by simp⟩
theorem Ext.blk {w W : World} {g : Nat} {o : Obj} (h : Ext w W) (hg : w.heap[g]? = some o) : W.heap[g]? = some o := by
  have hlt : g < w.heap.size := (Array.getElem?_eq_some_iff.1 hg).1
  rw [Below.block h g hlt, hg]
theorem blk_lt {w : World} {g : Nat} {o : Obj} (hg : w.heap[g]? = some o) : g < w.heap.size := (Array.getElem?_eq_some_iff.1 hg).1
open Go.RowKit
set_option linter.unusedVariables false

theorem put_blk {W w : World} {g : Nat} {old : Array Value} {t : TypeId} {fr : Nat × Nat} (hE : Ext W w) (hl : W.heap.size ≤ g) (hb : w.heap[g]? = some (.cells old t fr)) (cs : Array Value) :
    ∃ W', w.setRow g cs = W' ∧ Ext W W' ∧ W'.heap[g]? = some (.cells cs t fr) :=
  ⟨_, rfl, below_row hE hl, by rw [hq_same rfl, hb]; rfl⟩
/-- Those beside it stand. -/
theorem put_off {w : World} {g n : Nat} {cs : Array Value} {o : Obj} (h : n ≠ g) (hb : w.heap[n]? = some o) : (w.setRow g cs).heap[n]? = some o := by rw [hq_row h, hb]
theorem ext_drew {a w : World} (h : Ext a w) : Ext a w.drew := below_drew1 h
theorem ext_set {a w : World} {p : Addr} {v : Value} (h : Ext a w) (hp : a.heap.size ≤ p.block) : Ext a (w.setCell p v) := below_set h hp
def setIn (i : Nat) (v : Value) : Obj → Obj
  | .cells cs t fr => .cells (cs.setIfInBounds i v) t fr
  | o => o
theorem setIn_cells (i : Nat) (v : Value) (cs : Array Value) (t : TypeId) (fr : Nat × Nat) : setIn i v (.cells cs t fr) = .cells (cs.setIfInBounds i v) t fr := rfl
theorem hq_put {w : World} {g i n : Nat} {v : Value} (h : n = g) : (w.setCell ⟨g, i, none⟩ v).heap[n]? = (w.heap[n]?).map (setIn i v) := by
  subst h
  unfold World.setCell
  simp only [Array.getElem?_modify, if_true]
  congr 1
end Go.Proofs.YtffogjhjgmohiaaDoor
