/-
  tree: a slice of nodes built; nodes with one part, and with two, as they lie. Conditions: each theorem's own.
-/
import Derived.Test.YtffogjhjgmohiaaDoorTreeD
namespace Go.Proofs.YtffogjhjgmohiaaDoor
open Go.RowKit
set_option linter.unusedVariables false
set_option linter.unusedSimpArgs false

def isBS : Op → Bool
  | .buildSlice .. => true
  | _ => false
section
variable {P : Program} {ops : Array Oper} {rest : List Oper} {o : Oper} {a : Act} {w : World} {Q : Exit → Act → World → Prop}
theorem wpl_bs (hgd : o.guard = none) (t : TypeId) (n : Nat) (parts : Array (Nat × Operand)) (ho : o.op = .buildSlice t n parts) {l : List (Nat × Value)} (hl : parts.toList.map (fun x => (x.1, a.eval x.2)) = l)
    {v : Value} {w' : World} (hr : (Instr.buildSlice t n l.toArray).run P w = .ok v w') (h : wpList P ops Q rest (a.put o.dst v) w') : wpList P ops Q (o :: rest) a w :=
  wpList_plain hgd fun _ hK => by
    have hv : (parts.map fun (i, x) => (i, a.eval x)) = l.toArray := by
      rw [← hl]
      apply Array.ext'
      simp
    unfold Oper.wp execOp
    simp only [ho, hv, Sem.run_bind, hr, Result.andThen_ok]
    exact hK _ _ h
end
theorem fl_size (f : Fl) : f.cells.size = 17 := rfl
theorem bs1 (f : Fl) (w : World) : (Instr.buildSlice 31 1 [(0, Value.agg f.cells)].toArray).run Tryd.prog w = .ok (.slice (some ⟨w.heap.size, 0, none⟩) 1 1) (w.alloc (.cells f.cells 33)) := by kernel_rfl
theorem bs2 (f f' : Fl) (w : World) : (Instr.buildSlice 31 2 [(0, Value.agg f.cells), (1, Value.agg f'.cells)].toArray).run Tryd.prog w = .ok (.slice (some ⟨w.heap.size, 0, none⟩) 2 2) (w.alloc (.cells (f.cells ++ f'.cells) 33)) := by kernel_rfl
theorem bs4 (f f' f2 f3 : Fl) (w : World) : (Instr.buildSlice 31 4 [(0, Value.agg f.cells), (1, Value.agg f'.cells), (2, Value.agg f2.cells), (3, Value.agg f3.cells)].toArray).run Tryd.prog w = .ok (.slice (some ⟨w.heap.size, 0, none⟩) 4 4) (w.alloc (.cells (f.cells ++ f'.cells ++ (f2.cells ++ f3.cells)) 33)) := by kernel_rfl
theorem nodeAt_new {W : World} {f : Fl} {cs : Array Value} {t : TypeId} {fr : Nat × Nat} {g o : Nat} (hg : W.heap[g]? = some (.cells cs t fr)) (h : ∀ (j : Nat), j < 17 → cs[o + j]? = f.cells[j]?) : NodeAt W g o f := fun j v hv => by
  have hj : j < 17 := by
    have := (Array.getElem?_eq_some_iff.1 hv).1
    rwa [fl_size] at this
  rw [cell_of_row W g (o + j) cs t fr hg, h j hj, hv]
theorem at4 {W : World} {F0 F1 F2 F3 : Fl} {t : TypeId} {fr : Nat × Nat} {g : Nat} (hg : W.heap[g]? = some (.cells (F0.cells ++ F1.cells ++ (F2.cells ++ F3.cells)) t fr)) : NodeAt W g 0 F0 ∧ NodeAt W g 17 F1 ∧ NodeAt W g 34 F2 ∧ NodeAt W g 51 F3 := by
  have hA : (F0.cells ++ F1.cells).size = 34 := by rw [Array.size_append, fl_size, fl_size]
  refine ⟨nodeAt_new hg fun j hj => ?_, nodeAt_new hg fun j hj => ?_, nodeAt_new hg fun j hj => ?_, nodeAt_new hg fun j hj => ?_⟩
  · rw [Array.getElem?_append_left (by rw [hA]; omega), Array.getElem?_append_left (by rw [fl_size]; omega), Nat.zero_add]
  · rw [Array.getElem?_append_left (by rw [hA]; omega), Array.getElem?_append_right (by rw [fl_size]; omega), fl_size, show 17 + j - 17 = j by omega]
  · rw [Array.getElem?_append_right (by rw [hA]; omega), hA, show 34 + j - 34 = j by omega, Array.getElem?_append_left (by rw [fl_size]; omega)]
  · rw [Array.getElem?_append_right (by rw [hA]; omega), hA, Array.getElem?_append_right (by rw [fl_size]; omega), fl_size, show 51 + j - 34 - 17 = j by omega]
theorem built_par (k op : Int) (p : Option Addr) (n c : Nat) : Tryd.prog.built 33 [(0, .int .i64 k), (1, .int .i64 op), (6, .slice p n c)] = some #[.int .i64 k, .int .i64 op, .int .i64 0, .int .i64 0, .string ⟨#[]⟩, .int .i64 0, .int .i64 0, .int .i64 0, .bool false, .bool false, .int .i64 0, .int .i64 0, .int .i64 0, .bool false, .bool false, .string ⟨#[]⟩, .slice p n c] := by kernel_rfl
theorem built_par1 (k : Int) (p : Option Addr) (n c : Nat) : Tryd.prog.built 33 [(0, .int .i64 k), (6, .slice p n c)] = some #[.int .i64 k, .int .i64 0, .int .i64 0, .int .i64 0, .string ⟨#[]⟩, .int .i64 0, .int .i64 0, .int .i64 0, .bool false, .bool false, .int .i64 0, .int .i64 0, .int .i64 0, .bool false, .bool false, .string ⟨#[]⟩, .slice p n c] := by kernel_rfl
/-- A node with parts: its own cells. -/
def parS (k op : Int) : Sc := ⟨k, op, 0, 0, ⟨#[]⟩, rf0, rf0, ⟨#[]⟩⟩
theorem parS_ok (k op : Int) : (parS k op).ok := ⟨⟨by simp [parS], by simp [parS]⟩, by show 0 ≤ _; omega, by show 0 ≤ _; omega⟩
theorem rep1 {W : World} {B : Nat → Prop} {g : Nat} {s : Sc} {t : Tr} {f : Fl} {cap : Nat} (ho : s.ok) (hB : B g) (hg : W.heap[g]? = some (.cells f.cells 33 (0, 0))) (hr : Rep W B t f) : Rep W B (.mk s [t]) (s.fl (some ⟨g, 0, none⟩) 1 cap) := by
  refine .mk s [t] (some ⟨g, 0, none⟩) cap [f] ho (by simp) rfl (fun i f' h => ?_) (fun i t' f' h h' => ?_)
  · match i, h with
    | 0, h =>
      cases h
      exact ⟨g, 0, rfl, hB, nodeAt_new hg (fun j hj => by simp)⟩
  · match i, h, h' with
    | 0, h, h' => cases h; cases h'; exact hr
theorem rep2 {W : World} {B : Nat → Prop} {g : Nat} {s : Sc} {t t' : Tr} {f f' : Fl} {cap : Nat} (ho : s.ok) (hB : B g) (hg : W.heap[g]? = some (.cells (f.cells ++ f'.cells) 33 (0, 0))) (hr : Rep W B t f) (hr' : Rep W B t' f') : Rep W B (.mk s [t, t']) (s.fl (some ⟨g, 0, none⟩) 2 cap) := by
  refine .mk s [t, t'] (some ⟨g, 0, none⟩) cap [f, f'] ho (by simp) rfl (fun i u h => ?_) (fun i u v h h' => ?_)
  · match i, h with
    | 0, h =>
      cases h
      exact ⟨g, 0, rfl, hB, nodeAt_new hg (fun j hj => by rw [Array.getElem?_append_left (by rw [fl_size]; omega)]; simp)⟩
    | 1, h =>
      cases h
      exact ⟨g, 0, rfl, hB, nodeAt_new hg (fun j hj => by rw [Array.getElem?_append_right (by rw [fl_size]; omega), fl_size]; congr 1; omega)⟩
  · match i, h, h' with
    | 0, h, h' => cases h; cases h'; exact hr
    | 1, h, h' => cases h; cases h'; exact hr'
set_option maxRecDepth 100000 in
set_option maxHeartbeats 4000000 in
theorem unary_any (k : Int) (f : Fl) (t : Tr) (B : Nat → Prop) (W : World) (hr : Rep W B t f) (hB : ∀ g, W.heap.size ≤ g → B g) :
    Calls Tryd.prog 38 #[.int .i64 k, f.val] W fun e w' => (∃ f', e = .returned f'.val ∧ Rep w' B (.mk (parS k 0) [t]) f') ∧ Ext W w' := by
  have HR := Lib.hid hr
  have hE := Ext.refl W
  clear hr
  unfold Fl.val
  go_enter Tryd.func38, Tryd.ntmps38
  go_wp2_with (first | ((with_reducible refine wpl_guard (isLoad 33) ?_ ?_); (· rfl); refine wpl_load (t := ?_) (cs := ?_) (fr := ?_) rfl 33 _ rfl rfl ?_ Tryd.underlying33 rfl ?_ ?_; rotate_left 3; (· (first | (with_reducible assumption) | (simp (disch := (first | omega | (simp only [World.size_alloc, World.size_setCell, World.size_drew, size_setRow]; done) | (simp only [World.size_alloc, World.size_setCell, World.size_drew, size_setRow]; omega))) only [hq_at, hq_past, hq_drew, hq_drewN, hq_cell, hq_row, hq_same, rowOf_cells, Option.map_some, *]; rfl) | (simp (disch := (first | omega | (simp only [World.size_alloc, World.size_setCell, World.size_drew, size_setRow]; done) | (simp only [World.size_alloc, World.size_setCell, World.size_drew, size_setRow]; omega))) only [hq_at, hq_past, hq_drew, hq_drewN, hq_cell, hq_row, hq_same, rowOf_cells, Option.map_some, *]))); (· kernel_rfl); (try dsimp only [Act.put, List.setIfInBounds_toArray, List.set_cons_zero, List.set_cons_succ])) | ((with_reducible refine wpl_guard isBS ?_ ?_); (· rfl); refine wpl_bs rfl _ _ _ rfl ?_ (bs1 f _) ?_; (· rfl)) | ((with_reducible refine wpl_guard (isBuild 33) ?_ ?_); (· rfl); refine wpl_build rfl 33 _ rfl (built_par1 _ _ _ _) ?_ ?_; (· rfl)) | ((with_reducible refine wpl_guard (isStore 33) ?_ ?_); (· rfl); refine wpl_store (t := ?_) (old := ?_) (w' := ?_) rfl 33 _ _ rfl rfl rfl ?_ ?_ ?_ ?_ ?_ ?_; rotate_left 2; (· (first | (with_reducible assumption) | (simp (disch := (first | omega | (simp only [World.size_alloc, World.size_setCell, World.size_drew, size_setRow]; done) | (simp only [World.size_alloc, World.size_setCell, World.size_drew, size_setRow]; omega))) only [hq_at, hq_past, hq_drew, hq_drewN, hq_cell, hq_row, hq_same, rowOf_cells, Option.map_some, *]; rfl) | (simp (disch := (first | omega | (simp only [World.size_alloc, World.size_setCell, World.size_drew, size_setRow]; done) | (simp only [World.size_alloc, World.size_setCell, World.size_drew, size_setRow]; omega))) only [hq_at, hq_past, hq_drew, hq_drewN, hq_cell, hq_row, hq_same, rowOf_cells, Option.map_some, *]))); (· kernel_rfl); (· rfl); (· rfl); rotate_left 1; (· (first | (simp (disch := (first | omega | (simp only [World.size_alloc, World.size_setCell, World.size_drew, size_setRow]; done) | (simp only [World.size_alloc, World.size_setCell, World.size_drew, size_setRow]; omega))) only [setRow_at, setRow_past, setRow_drew]; rfl) | rfl))))
  have hsz : W.heap.size + 1 + 1 = W.heap.size + 2 := rfl
  refine ret_row (t := ?_) (cs := ((parS k 0).fl (some ⟨W.heap.size + 1 + 1, 0, none⟩) 1 1).cells) (fr := ?_) rfl rfl ?_ Tryd.underlying33 rfl ?_ rfl ⟨⟨_, rfl, rep1 (g := W.heap.size + 1 + 1) (parS_ok _ _) (hB _ (by omega)) ?_ (HR.out.ext ?_)⟩, ?_⟩
  rotate_left 2
  · (first | (with_reducible assumption) | (simp (disch := (first | omega | (simp only [World.size_alloc, World.size_setCell, World.size_drew, size_setRow]; done) | (simp only [World.size_alloc, World.size_setCell, World.size_drew, size_setRow]; omega))) only [hq_at, hq_past, hq_drew, hq_drewN, hq_cell, hq_row, hq_same, rowOf_cells, Option.map_some, *]; rfl) | (simp (disch := (first | omega | (simp only [World.size_alloc, World.size_setCell, World.size_drew, size_setRow]; done) | (simp only [World.size_alloc, World.size_setCell, World.size_drew, size_setRow]; omega))) only [hq_at, hq_past, hq_drew, hq_drewN, hq_cell, hq_row, hq_same, rowOf_cells, Option.map_some, *]))
  · kernel_rfl
  · (first | (with_reducible assumption) | (simp (disch := (first | omega | (simp only [World.size_alloc, World.size_setCell, World.size_drew, size_setRow]; done) | (simp only [World.size_alloc, World.size_setCell, World.size_drew, size_setRow]; omega))) only [hq_at, hq_past, hq_drew, hq_drewN, hq_cell, hq_row, hq_same, rowOf_cells, Option.map_some, *]; rfl) | (simp (disch := (first | omega | (simp only [World.size_alloc, World.size_setCell, World.size_drew, size_setRow]; done) | (simp only [World.size_alloc, World.size_setCell, World.size_drew, size_setRow]; omega))) only [hq_at, hq_past, hq_drew, hq_drewN, hq_cell, hq_row, hq_same, rowOf_cells, Option.map_some, *]))
  · repeat (first | with_reducible assumption | (with_reducible refine below_set ?_ (by first | omega | (simp only [World.size_alloc]; omega))) | (with_reducible refine below_row ?_ (by first | omega | (simp only [World.size_alloc]; omega))) | (with_reducible refine below_drewN ?_ _) | (with_reducible refine below_drew1 ?_) | (with_reducible refine ext_alloc ?_ _))
  · repeat (first | with_reducible assumption | (with_reducible refine below_set ?_ (by first | omega | (simp only [World.size_alloc]; omega))) | (with_reducible refine below_row ?_ (by first | omega | (simp only [World.size_alloc]; omega))) | (with_reducible refine below_drewN ?_ _) | (with_reducible refine below_drew1 ?_) | (with_reducible refine ext_alloc ?_ _))
set_option maxRecDepth 100000 in
set_option maxHeartbeats 4000000 in
theorem binary_any (op : Int) (f f' : Fl) (t t' : Tr) (B : Nat → Prop) (W : World) (hr : Rep W B t f) (hr' : Rep W B t' f') (hB : ∀ g, W.heap.size ≤ g → B g) :
    Calls Tryd.prog 26 #[.int .i64 op, f.val, f'.val] W fun e w' => (∃ v, e = .returned v.val ∧ Rep w' B (.mk (parS 7 op) [t, t']) v) ∧ Ext W w' := by
  have HR := Lib.hid hr
  have HR' := Lib.hid hr'
  have hE := Ext.refl W
  clear hr hr'
  unfold Fl.val
  go_enter Tryd.func26, Tryd.ntmps26
  go_wp2_with (first | ((with_reducible refine wpl_guard (isLoad 33) ?_ ?_); (· rfl); refine wpl_load (t := ?_) (cs := ?_) (fr := ?_) rfl 33 _ rfl rfl ?_ Tryd.underlying33 rfl ?_ ?_; rotate_left 3; (· (first | (with_reducible assumption) | (simp (disch := (first | omega | (simp only [World.size_alloc, World.size_setCell, World.size_drew, size_setRow]; done) | (simp only [World.size_alloc, World.size_setCell, World.size_drew, size_setRow]; omega))) only [hq_at, hq_past, hq_drew, hq_drewN, hq_cell, hq_row, hq_same, rowOf_cells, Option.map_some, *]; rfl) | (simp (disch := (first | omega | (simp only [World.size_alloc, World.size_setCell, World.size_drew, size_setRow]; done) | (simp only [World.size_alloc, World.size_setCell, World.size_drew, size_setRow]; omega))) only [hq_at, hq_past, hq_drew, hq_drewN, hq_cell, hq_row, hq_same, rowOf_cells, Option.map_some, *]))); (· kernel_rfl); (try dsimp only [Act.put, List.setIfInBounds_toArray, List.set_cons_zero, List.set_cons_succ])) | ((with_reducible refine wpl_guard isBS ?_ ?_); (· rfl); refine wpl_bs rfl _ _ _ rfl ?_ (bs2 f f' _) ?_; (· rfl)) | ((with_reducible refine wpl_guard (isBuild 33) ?_ ?_); (· rfl); refine wpl_build rfl 33 _ rfl (built_par _ _ _ _ _) ?_ ?_; (· rfl)) | ((with_reducible refine wpl_guard (isStore 33) ?_ ?_); (· rfl); refine wpl_store (t := ?_) (old := ?_) (w' := ?_) rfl 33 _ _ rfl rfl rfl ?_ ?_ ?_ ?_ ?_ ?_; rotate_left 2; (· (first | (with_reducible assumption) | (simp (disch := (first | omega | (simp only [World.size_alloc, World.size_setCell, World.size_drew, size_setRow]; done) | (simp only [World.size_alloc, World.size_setCell, World.size_drew, size_setRow]; omega))) only [hq_at, hq_past, hq_drew, hq_drewN, hq_cell, hq_row, hq_same, rowOf_cells, Option.map_some, *]; rfl) | (simp (disch := (first | omega | (simp only [World.size_alloc, World.size_setCell, World.size_drew, size_setRow]; done) | (simp only [World.size_alloc, World.size_setCell, World.size_drew, size_setRow]; omega))) only [hq_at, hq_past, hq_drew, hq_drewN, hq_cell, hq_row, hq_same, rowOf_cells, Option.map_some, *]))); (· kernel_rfl); (· rfl); (· rfl); rotate_left 1; (· (first | (simp (disch := (first | omega | (simp only [World.size_alloc, World.size_setCell, World.size_drew, size_setRow]; done) | (simp only [World.size_alloc, World.size_setCell, World.size_drew, size_setRow]; omega))) only [setRow_at, setRow_past, setRow_drew]; rfl) | rfl))))
  refine ret_row (t := ?_) (cs := ((parS 7 op).fl (some ⟨W.heap.size + 1 + 1 + 1, 0, none⟩) 2 2).cells) (fr := ?_) rfl rfl ?_ Tryd.underlying33 rfl ?_ rfl ⟨⟨_, rfl, rep2 (g := W.heap.size + 1 + 1 + 1) (parS_ok _ _) (hB _ (by omega)) ?_ (HR.out.ext ?_) (HR'.out.ext ?_)⟩, ?_⟩
  rotate_left 2
  · (first | (with_reducible assumption) | (simp (disch := (first | omega | (simp only [World.size_alloc, World.size_setCell, World.size_drew, size_setRow]; done) | (simp only [World.size_alloc, World.size_setCell, World.size_drew, size_setRow]; omega))) only [hq_at, hq_past, hq_drew, hq_drewN, hq_cell, hq_row, hq_same, rowOf_cells, Option.map_some, *]; rfl) | (simp (disch := (first | omega | (simp only [World.size_alloc, World.size_setCell, World.size_drew, size_setRow]; done) | (simp only [World.size_alloc, World.size_setCell, World.size_drew, size_setRow]; omega))) only [hq_at, hq_past, hq_drew, hq_drewN, hq_cell, hq_row, hq_same, rowOf_cells, Option.map_some, *]))
  · kernel_rfl
  · (first | (with_reducible assumption) | (simp (disch := (first | omega | (simp only [World.size_alloc, World.size_setCell, World.size_drew, size_setRow]; done) | (simp only [World.size_alloc, World.size_setCell, World.size_drew, size_setRow]; omega))) only [hq_at, hq_past, hq_drew, hq_drewN, hq_cell, hq_row, hq_same, rowOf_cells, Option.map_some, *]; rfl) | (simp (disch := (first | omega | (simp only [World.size_alloc, World.size_setCell, World.size_drew, size_setRow]; done) | (simp only [World.size_alloc, World.size_setCell, World.size_drew, size_setRow]; omega))) only [hq_at, hq_past, hq_drew, hq_drewN, hq_cell, hq_row, hq_same, rowOf_cells, Option.map_some, *]))
  · repeat (first | with_reducible assumption | (with_reducible refine below_set ?_ (by first | omega | (simp only [World.size_alloc]; omega))) | (with_reducible refine below_row ?_ (by first | omega | (simp only [World.size_alloc]; omega))) | (with_reducible refine below_drewN ?_ _) | (with_reducible refine below_drew1 ?_) | (with_reducible refine ext_alloc ?_ _))
  · repeat (first | with_reducible assumption | (with_reducible refine below_set ?_ (by first | omega | (simp only [World.size_alloc]; omega))) | (with_reducible refine below_row ?_ (by first | omega | (simp only [World.size_alloc]; omega))) | (with_reducible refine below_drewN ?_ _) | (with_reducible refine below_drew1 ?_) | (with_reducible refine ext_alloc ?_ _))
  · repeat (first | with_reducible assumption | (with_reducible refine below_set ?_ (by first | omega | (simp only [World.size_alloc]; omega))) | (with_reducible refine below_row ?_ (by first | omega | (simp only [World.size_alloc]; omega))) | (with_reducible refine below_drewN ?_ _) | (with_reducible refine below_drew1 ?_) | (with_reducible refine ext_alloc ?_ _))
end Go.Proofs.YtffogjhjgmohiaaDoor
