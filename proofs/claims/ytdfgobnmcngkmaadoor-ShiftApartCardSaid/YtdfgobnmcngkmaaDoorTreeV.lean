/-
  Trees that calls hand back in a region that draws its order. Conditions: each theorem's own.
-/
import Derived.Test.YtdfgobnmcngkmaaDoorTreeU
import Derived.Test.YtdfgobnmcngkmaaDoorRegion
namespace Go.Proofs.YtdfgobnmcngkmaaDoor
open Go.RowKit
set_option linter.unusedVariables false
set_option linter.unusedSimpArgs false

/-- A value that is a tree's node. -/
def TreeV (t : Tr) : Value → World → Prop := fun v w => ∃ f : Fl, v = .agg f.cells ∧ Rep w (fun _ => True) t f
theorem TreeV.lasts (t : Tr) : Lasts (TreeV t) := fun v w w' ⟨f, hv, h⟩ hE => ⟨f, hv, h.ext hE⟩
/-- A slice of two nodes; of one. -/
def PairV (f f' : Fl) : Value → World → Prop := fun v w => ∃ g, v = .slice (some ⟨g, 0, none⟩) 2 2 ∧ w.heap[g]? = some (.cells (f.cells ++ f'.cells) 33 (0, 0))
theorem PairV.lasts (f f' : Fl) : Lasts (PairV f f') := fun v w w' ⟨g, hv, h⟩ hE => ⟨g, hv, hE.blk h⟩
theorem PairV.owns {f f' : Fl} {v : Value} {w : World} (h : PairV f f' v w) : w.ownsRow 0 33 17 v [f, f'].length (fcells [f, f']) := by
  obtain ⟨g, hv, hg⟩ := h
  refine ⟨fcells_len _, .inr ⟨g, 2, _, hv, Nat.zero_le _, hg, Nat.le_refl _, by unfold maxLen; omega, by rw [Array.size_append, fl_size, fl_size], ?_⟩⟩
  rw [Array.toList_append]
  have e : fcells [f, f'] = f.cells.toList ++ f'.cells.toList := by simp [fcells]
  rw [e, List.take_of_length_le (by rw [List.length_append, Array.length_toList, Array.length_toList, fl_size, fl_size]; exact Nat.le_refl _)]
theorem apply_pair (F : Int) {f f' : Fl} {t t' : Tr} {v : Value} {w : World} (h : PairV f f' v w) (hr : Rep w (fun _ => True) t f) (hr' : Rep w (fun _ => True) t' f') :
    Calls Tryd.prog 29 #[.int .i64 F, v] w fun e w' => ∃ u, e = .returned u ∧ Ext w w' ∧ TreeV (.mk (parS 8 F) [t, t']) u w' := by
  refine (apply_any F v [f, f'] [t, t'] 0 (fun _ => True) w h.owns rfl (show 2 ≤ 1000 by decide) (fun i t0 f0 h1 h2 => ?_) (fun _ _ => trivial)).mono ?_
  · match i, h1, h2 with
    | 0, h1, h2 => cases h1; cases h2; exact hr
    | 1, h1, h2 => cases h1; cases h2; exact hr'
  · rintro e w' ⟨⟨r, rfl, hR⟩, hE⟩
    exact ⟨r.val, rfl, hE, r, rfl, hR⟩
theorem binary_v (op : Int) {t t' : Tr} {v v' : Value} {w : World} (h : TreeV t v w) (h' : TreeV t' v' w) :
    Calls Tryd.prog 27 #[.int .i64 op, v, v'] w fun e w' => ∃ u, e = .returned u ∧ Ext w w' ∧ TreeV (.mk (parS 7 op) [t, t']) u w' := by
  obtain ⟨f, rfl, hf⟩ := h
  obtain ⟨f', rfl, hf'⟩ := h'
  refine (binary_any op f f' t t' (fun _ => True) w hf hf' (fun _ _ => trivial)).mono ?_
  rintro e w' ⟨⟨r, rfl, hR⟩, hE⟩
  exact ⟨r.val, rfl, hE, r, rfl, hR⟩
theorem unary_v (k : Int) {t : Tr} {v : Value} {w : World} (h : TreeV t v w) :
    Calls Tryd.prog 26 #[.int .i64 k, v] w fun e w' => ∃ u, e = .returned u ∧ Ext w w' ∧ TreeV (.mk (parS k 0) [t]) u w' := by
  obtain ⟨f, rfl, hf⟩ := h
  refine (unary_any k f t (fun _ => True) w hf (fun _ _ => trivial)).mono ?_
  rintro e w' ⟨⟨r, rfl, hR⟩, hE⟩
  exact ⟨r.val, rfl, hE, r, rfl, hR⟩
theorem same_v {t t' : Tr} {v v' : Value} {w : World} (h : TreeV t v w) (h' : TreeV t' v' w) :
    Calls Tryd.prog 10 #[v, v'] w fun e w' => e = .returned (.bool (sameT t t')) ∧ Ext w w' := by
  obtain ⟨f, rfl, hf⟩ := h
  obtain ⟨f', rfl, hf'⟩ := h'
  exact same_any (sizeT t) t t' f f' (fun _ => True) w (Nat.le_refl _) hf hf'
theorem right_v {t : Tr} {v : Value} {w : World} (h : TreeV t v w) (hE : EnvQ w) :
    Calls Tryd.prog 12 #[v] w fun e w' => e = .returned (.bool (rightT 200 t)) ∧ Ext w w' := by
  obtain ⟨f, rfl, hf⟩ := h
  exact tright_any t f (fun _ => True) w hf hE.1 hE.2
theorem size_v {t : Tr} {v : Value} {w : World} (h : TreeV t v w) (hs : sizeT t ≤ 4000000000000000000) :
    Calls Tryd.prog 13 #[v] w fun e w' => e = .returned (.int .i64 (sizeT t : Int)) ∧ Ext w w' := by
  obtain ⟨f, rfl, hf⟩ := h
  exact size_any (sizeT t) t f (fun _ => True) w (Nat.le_refl _) hs hf
theorem exec_bs {P : Program} {o : Oper} {a : Act} {w : World} (t : TypeId) (n : Nat) (parts : Array (Nat × Operand)) (ho : o.op = .buildSlice t n parts) {l : List (Nat × Value)} (hl : parts.toList.map (fun x => (x.1, a.eval x.2)) = l)
    {v : Value} {w' : World} (hr : (Instr.buildSlice t n l.toArray).run P w = .ok v w') : (execOp a.eval o).run P w = .ok (.value v) w' := by
  have hv : (parts.map fun (i, x) => (i, a.eval x)) = l.toArray := by
    rw [← hl]
    apply Array.ext'
    simp
  unfold execOp
  simp only [ho, hv, Sem.run_bind, hr, Result.andThen_ok, Sem.run_pure]
/-- Binary's node: its two parts lie in a row of their own. -/
def BinV (op : Int) (f f' : Fl) : Value → World → Prop := fun v w => ∃ g cap, v = .agg ((parS 7 op).fl (some ⟨g, 0, none⟩) 2 cap).cells ∧ w.heap[g]? = some (.cells (f.cells ++ f'.cells) 33 (0, 0))
theorem BinV.lasts (op : Int) (f f' : Fl) : Lasts (BinV op f f') := fun v w w' ⟨g, cap, hv, h⟩ hE => ⟨g, cap, hv, hE.blk h⟩
theorem BinV.tree {op : Int} {f f' : Fl} {t t' : Tr} {v : Value} {w : World} (h : BinV op f f' v w) (hr : Rep w (fun _ => True) t f) (hr' : Rep w (fun _ => True) t' f') : TreeV (.mk (parS 7 op) [t, t']) v w := by
  obtain ⟨g, cap, rfl, hg⟩ := h
  exact ⟨_, rfl, rep2 (parS_ok _ _) trivial hg hr hr'⟩
/-- A row of one node is another one. -/
theorem row_ne {w : World} {g g' : Nat} {f f' : Fl} {cs : Array Value} {t t' : TypeId} {fr fr' : Nat × Nat} (h : w.heap[g]? = some (.cells (f.cells ++ f'.cells) t fr)) (h' : w.heap[g']? = some (.cells cs t' fr')) (hs : cs.size = 17) : g ≠ g' := by
  rintro rfl
  rw [h] at h'
  have e := congrArg Array.size (Obj.cells.inj (Option.some.inj h')).1
  rw [Array.size_append, fl_size, fl_size, hs] at e
  omega
set_option maxRecDepth 100000 in
set_option maxHeartbeats 4000000 in
theorem binary_row (op : Int) (f f' : Fl) (W : World) :
    Calls Tryd.prog 27 #[.int .i64 op, f.val, f'.val] W fun e w' => ∃ u, e = .returned u ∧ Ext W w' ∧ BinV op f f' u w' := by
  have hE := Ext.refl W
  unfold Fl.val
  go_enter Tryd.func27, Tryd.ntmps27
  go_wp2_with (first | ((with_reducible refine wpl_guard (isLoad 33) ?_ ?_); (· rfl); refine wpl_load (t := ?_) (cs := ?_) (fr := ?_) rfl 33 _ rfl rfl ?_ Tryd.underlying33 rfl ?_ ?_; rotate_left 3; (· (first | (with_reducible assumption) | (simp (disch := (first | omega | (simp only [World.size_alloc, World.size_setCell, World.size_drew, size_setRow]; done) | (simp only [World.size_alloc, World.size_setCell, World.size_drew, size_setRow]; omega))) only [hq_at, hq_past, hq_drew, hq_drewN, hq_cell, hq_row, hq_same, rowOf_cells, Option.map_some, *]; rfl) | (simp (disch := (first | omega | (simp only [World.size_alloc, World.size_setCell, World.size_drew, size_setRow]; done) | (simp only [World.size_alloc, World.size_setCell, World.size_drew, size_setRow]; omega))) only [hq_at, hq_past, hq_drew, hq_drewN, hq_cell, hq_row, hq_same, rowOf_cells, Option.map_some, *]))); (· kernel_rfl); (try dsimp only [Act.put, List.setIfInBounds_toArray, List.set_cons_zero, List.set_cons_succ])) | ((with_reducible refine wpl_guard isBS ?_ ?_); (· rfl); refine wpl_bs rfl _ _ _ rfl ?_ (bs2 f f' _) ?_; (· rfl)) | ((with_reducible refine wpl_guard (isBuild 33) ?_ ?_); (· rfl); refine wpl_build rfl 33 _ rfl (built_par _ _ _ _ _) ?_ ?_; (· rfl)) | ((with_reducible refine wpl_guard (isStore 33) ?_ ?_); (· rfl); refine wpl_store (t := ?_) (old := ?_) (w' := ?_) rfl 33 _ _ rfl rfl rfl ?_ ?_ ?_ ?_ ?_ ?_; rotate_left 2; (· (first | (with_reducible assumption) | (simp (disch := (first | omega | (simp only [World.size_alloc, World.size_setCell, World.size_drew, size_setRow]; done) | (simp only [World.size_alloc, World.size_setCell, World.size_drew, size_setRow]; omega))) only [hq_at, hq_past, hq_drew, hq_drewN, hq_cell, hq_row, hq_same, rowOf_cells, Option.map_some, *]; rfl) | (simp (disch := (first | omega | (simp only [World.size_alloc, World.size_setCell, World.size_drew, size_setRow]; done) | (simp only [World.size_alloc, World.size_setCell, World.size_drew, size_setRow]; omega))) only [hq_at, hq_past, hq_drew, hq_drewN, hq_cell, hq_row, hq_same, rowOf_cells, Option.map_some, *]))); (· kernel_rfl); (· rfl); (· rfl); rotate_left 1; (· (first | (simp (disch := (first | omega | (simp only [World.size_alloc, World.size_setCell, World.size_drew, size_setRow]; done) | (simp only [World.size_alloc, World.size_setCell, World.size_drew, size_setRow]; omega))) only [setRow_at, setRow_past, setRow_drew]; rfl) | rfl))))
  refine ret_row (t := ?_) (cs := ((parS 7 op).fl (some ⟨W.heap.size + 1 + 1 + 1, 0, none⟩) 2 2).cells) (fr := ?_) rfl rfl ?_ Tryd.underlying33 rfl ?_ rfl ⟨_, rfl, ?_, W.heap.size + 1 + 1 + 1, 2, rfl, ?_⟩
  rotate_left 2
  · (first | (with_reducible assumption) | (simp (disch := (first | omega | (simp only [World.size_alloc, World.size_setCell, World.size_drew, size_setRow]; done) | (simp only [World.size_alloc, World.size_setCell, World.size_drew, size_setRow]; omega))) only [hq_at, hq_past, hq_drew, hq_drewN, hq_cell, hq_row, hq_same, rowOf_cells, Option.map_some, *]; rfl) | (simp (disch := (first | omega | (simp only [World.size_alloc, World.size_setCell, World.size_drew, size_setRow]; done) | (simp only [World.size_alloc, World.size_setCell, World.size_drew, size_setRow]; omega))) only [hq_at, hq_past, hq_drew, hq_drewN, hq_cell, hq_row, hq_same, rowOf_cells, Option.map_some, *]))
  · kernel_rfl
  · repeat (first | with_reducible assumption | (with_reducible refine below_set ?_ (by first | omega | (simp only [World.size_alloc]; omega))) | (with_reducible refine below_row ?_ (by first | omega | (simp only [World.size_alloc]; omega))) | (with_reducible refine below_drewN ?_ _) | (with_reducible refine below_drew1 ?_) | (with_reducible refine ext_alloc ?_ _))
  · (first | (with_reducible assumption) | (simp (disch := (first | omega | (simp only [World.size_alloc, World.size_setCell, World.size_drew, size_setRow]; done) | (simp only [World.size_alloc, World.size_setCell, World.size_drew, size_setRow]; omega))) only [hq_at, hq_past, hq_drew, hq_drewN, hq_cell, hq_row, hq_same, rowOf_cells, Option.map_some, *]; rfl) | (simp (disch := (first | omega | (simp only [World.size_alloc, World.size_setCell, World.size_drew, size_setRow]; done) | (simp only [World.size_alloc, World.size_setCell, World.size_drew, size_setRow]; omega))) only [hq_at, hq_past, hq_drew, hq_drewN, hq_cell, hq_row, hq_same, rowOf_cells, Option.map_some, *]))
end Go.Proofs.YtdfgobnmcngkmaaDoor
