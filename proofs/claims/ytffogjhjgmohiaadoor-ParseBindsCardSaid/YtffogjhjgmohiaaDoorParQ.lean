/-
  parse: the deferred function of Parse: a region that holds recover, an operation at a time. Conditions: each theorem's own.
-/
import Derived.Test.YtffogjhjgmohiaaDoorParM
import Derived.Defers
import Derived.Recover
import Derived.BigRegion
import Derived.Deep.RegionHeld3
import Derived.Test.YtffogjhjgmohiaaDoorShC
namespace Go.Proofs.YtffogjhjgmohiaaDoor
open Go.RowKit
set_option linter.unusedVariables false
set_option linter.unusedSimpArgs false

/-- The operations themselves, one behind the other: each yields a value, writes, or recovers. -/
def RunL (P : Program) (ops : Array Oper) (K : Act → List Frame → World → Prop) : List Oper → Act → List Frame → World → Prop
  | [], a, cs, w => K a cs w
  | o :: r, a, cs, w => Region.wanted o (yielded ops a.tmps) = true ∧ ((∃ v w', (execOp a.eval o).run P w = .ok (.value v) w' ∧ RunL P ops K r (a.put o.dst v) cs w') ∨
      (∃ w', (execOp a.eval o).run P w = .ok .skip w' ∧ RunL P ops K r (a.put o.dst undef) cs w') ∨
      ∃ w', (execOp a.eval o).run P w = .ok .recover w' ∧ ((recoverD cs = none ∧ RunL P ops K r (a.put o.dst .nilIface) cs w') ∨ ∃ v cs', recoverD cs = some (v, cs') ∧ RunL P ops K r (a.put o.dst v) cs' w'))
section
variable {P : Program} {ops : Array Oper} {Q : Exit → Act → List Frame → World → Prop} {K : Act → List Frame → World → Prop} {a : Act} {cs cs' : List Frame} {w w' : World} {r : List Oper} {o : Oper} {v : Value}
theorem runL_opsS (hK : ∀ a cs w, K a cs w → Q .normal a cs w) : ∀ (l : List Nat) (os : List Oper), l.map (fun i => ops[i]?) = os.map some → ∀ a cs w, RunL P ops K os a cs w → wpOpsS P ops Q l a cs w
  | [], [], _, a, cs, w, h => hK _ _ _ h
  | [], _ :: _, h, _, _, _, _ => by cases h
  | _ :: _, [], h, _, _, _, _ => by cases h
  | i :: l, o :: os, h, a, cs, w, hh => by
    simp only [List.map_cons] at h
    injection h with h1 h2
    have ih := runL_opsS hK l os h2
    obtain ⟨hw, ⟨v, w', hr, hh⟩ | ⟨w', hr, hh⟩ | ⟨w', hr, ⟨hc, hh⟩ | ⟨v, cs', hc, hh⟩⟩⟩ := hh
    · unfold wpOpsS
      simp only [h1, hw, if_true, hr, Oper.upon]
      exact ih _ _ _ hh
    · unfold wpOpsS
      simp only [h1, hw, if_true, hr, Oper.upon]
      exact ih _ _ _ hh
    · unfold wpOpsS
      simp only [h1, hw, if_true, hr, hc]
      exact ih _ _ _ hh
    · unfold wpOpsS
      simp only [h1, hw, if_true, hr, hc]
      exact ih _ _ _ hh
theorem range_some : ∀ (os : List Oper), (List.range os.length).map (fun i => os.toArray[i]?) = os.map some := by
  intro os
  apply List.ext_getElem?
  intro i
  simp only [List.getElem?_map, List.getElem?_toArray]
  by_cases h : i < os.length
  · rw [List.getElem?_range h]
    simp [List.getElem?_eq_getElem h]
  · rw [List.getElem?_eq_none (by simp; omega), List.getElem?_eq_none (by omega)]
    rfl
theorem wpS_runL {id : Nat} {os : List Oper} (hK : ∀ a cs w, K a cs w → Q .normal a cs w) (h : RunL P os.toArray K os a cs w) : (Code.region id os.toArray false).wpS P Q a cs w := by
  refine wpS_region (runL_opsS hK _ os ?_ _ _ _ h)
  rw [List.size_toArray]
  exact range_some os
theorem runL_step (hw : Region.wanted o (yielded ops a.tmps) = true) (hr : (execOp a.eval o).run P w = .ok (.value v) w') (h : RunL P ops K r (a.put o.dst v) cs w') : RunL P ops K (o :: r) a cs w := ⟨hw, .inl ⟨v, w', hr, h⟩⟩
theorem runL_skip (hw : Region.wanted o (yielded ops a.tmps) = true) (hr : (execOp a.eval o).run P w = .ok .skip w') (h : RunL P ops K r (a.put o.dst undef) cs w') : RunL P ops K (o :: r) a cs w := ⟨hw, .inr (.inl ⟨w', hr, h⟩)⟩
theorem runL_nothing (hw : Region.wanted o (yielded ops a.tmps) = true) (hr : (execOp a.eval o).run P w = .ok .recover w') (hc : recoverD cs = none) (h : RunL P ops K r (a.put o.dst .nilIface) cs w') : RunL P ops K (o :: r) a cs w := ⟨hw, .inr (.inr ⟨w', hr, .inl ⟨hc, h⟩⟩)⟩
theorem runL_recover (hw : Region.wanted o (yielded ops a.tmps) = true) (hr : (execOp a.eval o).run P w = .ok .recover w') (hc : recoverD cs = some (v, cs')) (h : RunL P ops K r (a.put o.dst v) cs' w') : RunL P ops K (o :: r) a cs w := ⟨hw, .inr (.inr ⟨w', hr, .inr ⟨v, cs', hc, h⟩⟩)⟩
end
theorem fill17 (w : World) (g : Nat) (f : Fl) (v0 v1 v2 v3 v4 v5 v6 v7 v8 v9 v10 v11 v12 v13 v14 v15 v16 : Value) (h : w.heap[g]? = some (.cells f.cells 33 (0, 0))) :
    (((((((((((((((((w.setCell ⟨g, 0, none⟩ v0).setCell ⟨g, 1, none⟩ v1).setCell ⟨g, 2, none⟩ v2).setCell ⟨g, 3, none⟩ v3).setCell ⟨g, 4, none⟩ v4).setCell ⟨g, 5, none⟩ v5).setCell ⟨g, 6, none⟩ v6).setCell ⟨g, 7, none⟩ v7).setCell ⟨g, 8, none⟩ v8).setCell ⟨g, 9, none⟩ v9).setCell ⟨g, 10, none⟩ v10).setCell ⟨g, 11, none⟩ v11).setCell ⟨g, 12, none⟩ v12).setCell ⟨g, 13, none⟩ v13).setCell ⟨g, 14, none⟩ v14).setCell ⟨g, 15, none⟩ v15).setCell ⟨g, 16, none⟩ v16).heap[g]? = some (.cells #[v0, v1, v2, v3, v4, v5, v6, v7, v8, v9, v10, v11, v12, v13, v14, v15, v16] 33 (0, 0)) := by
  iterate 17 rw [hq_put rfl]
  rw [h]
  simp only [Option.map_some, setIn_cells, Fl.cells, List.setIfInBounds_toArray, List.set_cons_zero, List.set_cons_succ]
theorem off17 (w : World) (g k : Nat) (v0 v1 v2 v3 v4 v5 v6 v7 v8 v9 v10 v11 v12 v13 v14 v15 v16 : Value) (hk : k ≠ g) : (((((((((((((((((w.setCell ⟨g, 0, none⟩ v0).setCell ⟨g, 1, none⟩ v1).setCell ⟨g, 2, none⟩ v2).setCell ⟨g, 3, none⟩ v3).setCell ⟨g, 4, none⟩ v4).setCell ⟨g, 5, none⟩ v5).setCell ⟨g, 6, none⟩ v6).setCell ⟨g, 7, none⟩ v7).setCell ⟨g, 8, none⟩ v8).setCell ⟨g, 9, none⟩ v9).setCell ⟨g, 10, none⟩ v10).setCell ⟨g, 11, none⟩ v11).setCell ⟨g, 12, none⟩ v12).setCell ⟨g, 13, none⟩ v13).setCell ⟨g, 14, none⟩ v14).setCell ⟨g, 15, none⟩ v15).setCell ⟨g, 16, none⟩ v16).heap[k]? = w.heap[k]? := by
  iterate 17 rw [hq_cell hk]
theorem ext17 {a w : World} {g : Nat} (v0 v1 v2 v3 v4 v5 v6 v7 v8 v9 v10 v11 v12 v13 v14 v15 v16 : Value) (hg : a.heap.size ≤ g) (h : Ext a w) : Ext a (((((((((((((((((w.setCell ⟨g, 0, none⟩ v0).setCell ⟨g, 1, none⟩ v1).setCell ⟨g, 2, none⟩ v2).setCell ⟨g, 3, none⟩ v3).setCell ⟨g, 4, none⟩ v4).setCell ⟨g, 5, none⟩ v5).setCell ⟨g, 6, none⟩ v6).setCell ⟨g, 7, none⟩ v7).setCell ⟨g, 8, none⟩ v8).setCell ⟨g, 9, none⟩ v9).setCell ⟨g, 10, none⟩ v10).setCell ⟨g, 11, none⟩ v11).setCell ⟨g, 12, none⟩ v12).setCell ⟨g, 13, none⟩ v13).setCell ⟨g, 14, none⟩ v14).setCell ⟨g, 15, none⟩ v15).setCell ⟨g, 16, none⟩ v16) := by
  iterate 17 refine below_set ?_ hg
  exact h
set_option maxRecDepth 100000 in
set_option maxHeartbeats 4000000 in
theorem catch_idle (a b c : Value) (w : World) :
    CallsD Tryd.prog 18 #[a, b, c] .returning w fun e u' w' => e = .returned (.tuple #[]) ∧ u' = .returning ∧ Ext w w' := by
  refine callsD_of_wpS Tryd.func18 rfl fun c₀ cs hu => ?_
  refine wpS_seq ?_
  refine wpS_runL (K := fun a cs w => Exit.thenS _ _ .normal a cs w) (fun _ _ _ h => h) ?_
  rw [Tryd.ntmps18]
  have hfr : (#[a, b, c] ++ Array.replicate (16 - #[a, b, c].size) undef) = #[a, b, c, undef, undef, undef, undef, undef, undef, undef, undef, undef, undef, undef, undef, undef] := by rfl
  rw [hfr]
  clear hfr
  refine runL_nothing (w' := w) (by kernel_rfl) rfl (by simp [recoverD, hu]) ?_
  simp only [Act.put, List.setIfInBounds_toArray, List.set_cons_zero, List.set_cons_succ]
  refine runL_step (v := .tuple #[.agg #[.int .i64 0, .int .i64 0], .bool false]) (w' := w) (by kernel_rfl) (by kernel_rfl) ?_
  simp only [Act.put, List.setIfInBounds_toArray, List.set_cons_zero, List.set_cons_succ]
  refine runL_step (v := .tuple #[.agg #[.int .i64 0, .int .i64 0], .bool false]) (w' := w) (by kernel_rfl) rfl ?_
  simp only [Act.put, List.setIfInBounds_toArray, List.set_cons_zero, List.set_cons_succ]
  refine runL_step (v := .agg #[.int .i64 0, .int .i64 0]) (w' := w) (by kernel_rfl) rfl ?_
  simp only [Act.put, List.setIfInBounds_toArray, List.set_cons_zero, List.set_cons_succ]
  refine runL_step (v := .bool false) (w' := w) (by kernel_rfl) rfl ?_
  simp only [Act.put, List.setIfInBounds_toArray, List.set_cons_zero, List.set_cons_succ]
  refine runL_step (v := .pointer (some ⟨w.heap.size, 0, none⟩)) (w' := w.alloc (.cells #[.int .i64 0, .int .i64 0] 51)) (by kernel_rfl) (by kernel_rfl) ?_
  simp only [Act.put, List.setIfInBounds_toArray, List.set_cons_zero, List.set_cons_succ]
  obtain ⟨W1, hW1, hE1, hG1, hL1, hS1⟩ := new_blk w #[.int .i64 0, .int .i64 0] 51
  rw [hW1]
  refine runL_skip (w' := W1.setRow w.heap.size #[.int .i64 0, .int .i64 0]) (by kernel_rfl) (run_store_op _ _ _ rfl rfl rfl (run_storeVar_row W1 _ _ _ _ _ hG1 (by kernel_rfl) rfl (by rw [← Array.all_toList]; rfl))) ?_
  simp only [Act.put, List.setIfInBounds_toArray, List.set_cons_zero, List.set_cons_succ]
  refine runL_step (v := .bool false) (w' := W1.setRow w.heap.size #[.int .i64 0, .int .i64 0]) (by kernel_rfl) rfl ?_
  simp only [Act.put, List.setIfInBounds_toArray, List.set_cons_zero, List.set_cons_succ]
  obtain ⟨W2, hW2, hE2, hG2⟩ := put_blk hE1 (Nat.le_refl _) hG1 #[.int .i64 0, .int .i64 0]
  rw [hW2]
  clear hW1 hW2 hE1 hG1 hL1 hS1
  refine (show Code.wpS _ _ _ _ _ _ from ?_)
  refine wpS_seq ?_
  refine wpS_runL (K := fun a cs w => Exit.thenS _ _ .normal a cs w) (fun _ _ _ h => h) ?_
  refine runL_step (v := .bool false) (w' := W2) (by kernel_rfl) rfl ?_
  simp only [Act.put, List.setIfInBounds_toArray, List.set_cons_zero, List.set_cons_succ]
  refine (show Code.wpS _ _ _ _ _ _ from ?_)
  refine wpS_cond (t := false) rfl ?_
  rw [if_neg (by decide)]
  refine wpS_of_wp (wp_skip ?_)
  refine ⟨rfl, .returning, ?_, .tuple #[], by simp [results, Tryd.results18, go_sem], rfl, rfl, hE2⟩
  rw [← hu]
set_option maxRecDepth 100000 in
set_option maxHeartbeats 4000000 in
theorem catch_fault (gn ga ge : Nat) (fn : Fl) (x y : Int) (c p : Nat) (w : World) (hn : w.heap[gn]? = some (.cells fn.cells 33 (0, 0))) (ha : w.heap[ga]? = some (.cells #[.int .i64 x] 3 (0, 0))) (he : w.heap[ge]? = some (.cells #[.int .i64 y] 34 (0, 0)))
    (h1 : gn ≠ ga) (h2 : gn ≠ ge) (h3 : ga ≠ ge) :
    CallsD Tryd.prog 18 #[.pointer (some ⟨gn, 0, none⟩), .pointer (some ⟨ga, 0, none⟩), .pointer (some ⟨ge, 0, none⟩)] (.panicking [faultE c p]) w fun e u' w' => e = .returned (.tuple #[]) ∧ u' = .panicking [{ faultE c p with recovered := true }] ∧
      w'.heap[gn]? = some (.cells zN 33 (0, 0)) ∧ w'.heap[ga]? = some (.cells #[.int .i64 (p : Int)] 3 (0, 0)) ∧ w'.heap[ge]? = some (.cells #[.int .i64 (c : Int)] 34 (0, 0)) ∧ ∀ W, Ext W w → W.heap.size ≤ gn → W.heap.size ≤ ga → W.heap.size ≤ ge → Ext W w' := by
  refine callsD_of_wpS Tryd.func18 rfl fun c₀ cs hu => ?_
  refine wpS_seq ?_
  refine wpS_runL (K := fun a cs w => Exit.thenS _ _ .normal a cs w) (fun _ _ _ h => h) ?_
  rw [Tryd.ntmps18]
  have hfr : (#[Value.pointer (some ⟨gn, 0, none⟩), Value.pointer (some ⟨ga, 0, none⟩), Value.pointer (some ⟨ge, 0, none⟩)] ++ Array.replicate (16 - #[Value.pointer (some ⟨gn, 0, none⟩), Value.pointer (some ⟨ga, 0, none⟩), Value.pointer (some ⟨ge, 0, none⟩)].size) undef) = #[Value.pointer (some ⟨gn, 0, none⟩), Value.pointer (some ⟨ga, 0, none⟩), Value.pointer (some ⟨ge, 0, none⟩), undef, undef, undef, undef, undef, undef, undef, undef, undef, undef, undef, undef, undef] := by rfl
  rw [hfr]
  clear hfr
  refine runL_recover (v := .iface 51 (.agg #[.int .i64 (c : Int), .int .i64 (p : Int)])) (w' := w) (cs' := { c₀ with mode := .panicking ({ v := .iface 51 (.agg #[.int .i64 (c : Int), .int .i64 (p : Int)]), recovered := true } :: []) } :: cs) (by kernel_rfl) rfl (by simp [recoverD, hu, faultE]) ?_
  simp only [Act.put, List.setIfInBounds_toArray, List.set_cons_zero, List.set_cons_succ]
  refine runL_step (v := .tuple #[.agg #[.int .i64 (c : Int), .int .i64 (p : Int)], .bool true]) (w' := w) (by kernel_rfl) (by kernel_rfl) ?_
  simp only [Act.put, List.setIfInBounds_toArray, List.set_cons_zero, List.set_cons_succ]
  refine runL_step (v := .tuple #[.agg #[.int .i64 (c : Int), .int .i64 (p : Int)], .bool true]) (w' := w) (by kernel_rfl) rfl ?_
  simp only [Act.put, List.setIfInBounds_toArray, List.set_cons_zero, List.set_cons_succ]
  refine runL_step (v := .agg #[.int .i64 (c : Int), .int .i64 (p : Int)]) (w' := w) (by kernel_rfl) rfl ?_
  simp only [Act.put, List.setIfInBounds_toArray, List.set_cons_zero, List.set_cons_succ]
  refine runL_step (v := .bool true) (w' := w) (by kernel_rfl) rfl ?_
  simp only [Act.put, List.setIfInBounds_toArray, List.set_cons_zero, List.set_cons_succ]
  refine runL_step (v := .pointer (some ⟨w.heap.size, 0, none⟩)) (w' := w.alloc (.cells #[.int .i64 0, .int .i64 0] 51)) (by kernel_rfl) (by kernel_rfl) ?_
  simp only [Act.put, List.setIfInBounds_toArray, List.set_cons_zero, List.set_cons_succ]
  obtain ⟨W1, hW1, hE1, hG1, hL1, hS1⟩ := new_blk w #[.int .i64 0, .int .i64 0] 51
  rw [hW1]
  refine runL_skip (w' := W1.setRow w.heap.size #[.int .i64 (c : Int), .int .i64 (p : Int)]) (by kernel_rfl) (run_store_op _ _ _ rfl rfl rfl (run_storeVar_row W1 _ _ _ _ _ hG1 (by kernel_rfl) rfl (by rw [← Array.all_toList]; rfl))) ?_
  simp only [Act.put, List.setIfInBounds_toArray, List.set_cons_zero, List.set_cons_succ]
  refine runL_step (v := .bool true) (w' := W1.setRow w.heap.size #[.int .i64 (c : Int), .int .i64 (p : Int)]) (by kernel_rfl) rfl ?_
  simp only [Act.put, List.setIfInBounds_toArray, List.set_cons_zero, List.set_cons_succ]
  obtain ⟨W2, hW2, hE2, hG2⟩ := put_blk hE1 (Nat.le_refl _) hG1 #[.int .i64 (c : Int), .int .i64 (p : Int)]
  rw [hW2]
  clear hW1 hW2 hE1 hG1 hL1 hS1
  refine (show Code.wpS _ _ _ _ _ _ from ?_)
  refine wpS_seq ?_
  refine wpS_runL (K := fun a cs w => Exit.thenS _ _ .normal a cs w) (fun _ _ _ h => h) ?_
  refine runL_step (v := .bool true) (w' := W2) (by kernel_rfl) rfl ?_
  simp only [Act.put, List.setIfInBounds_toArray, List.set_cons_zero, List.set_cons_succ]
  refine (show Code.wpS _ _ _ _ _ _ from ?_)
  refine wpS_cond (t := true) rfl ?_
  rw [if_pos rfl]
  refine wpS_of_wp ?_
  have kn := hE2.blk hn
  have ka := hE2.blk ha
  have ke := hE2.blk he
  obtain ⟨g, hg⟩ : ∃ g, w.heap.size = g := ⟨_, rfl⟩
  have ln := blk_lt hn
  have la := blk_lt ha
  have le := blk_lt he
  rw [hg] at hG2 ln la le
  rw [hg]
  have f0 := cell_of_row W2 g 0 _ _ _ hG2
  have f1 := cell_of_row W2 g 1 _ _ _ hG2
  simp only [List.getElem?_toArray, List.getElem?_cons_zero, List.getElem?_cons_succ] at f0 f1
  have za := frozen_of_row W2 ga 0 _ _ ka
  have ze := frozen_of_row W2 ge 0 _ _ ke
  have ca := cell_of_row W2 ga 0 _ _ _ ka
  have ce := cell_of_row W2 ge 0 _ _ _ ke
  simp only [List.getElem?_toArray, List.getElem?_cons_zero, List.getElem?_cons_succ] at ca ce
  have zn : ∀ i, W2.frozen? ⟨gn, i, none⟩ = false := fun i => frozen_of_row W2 gn i _ _ kn
  have n0 := cell_of_row W2 gn 0 _ _ _ kn
  have z0 := zn 0
  have n1 := cell_of_row W2 gn 1 _ _ _ kn
  have z1 := zn 1
  have n2 := cell_of_row W2 gn 2 _ _ _ kn
  have z2 := zn 2
  have n3 := cell_of_row W2 gn 3 _ _ _ kn
  have z3 := zn 3
  have n4 := cell_of_row W2 gn 4 _ _ _ kn
  have z4 := zn 4
  have n5 := cell_of_row W2 gn 5 _ _ _ kn
  have z5 := zn 5
  have n6 := cell_of_row W2 gn 6 _ _ _ kn
  have z6 := zn 6
  have n7 := cell_of_row W2 gn 7 _ _ _ kn
  have z7 := zn 7
  have n8 := cell_of_row W2 gn 8 _ _ _ kn
  have z8 := zn 8
  have n9 := cell_of_row W2 gn 9 _ _ _ kn
  have z9 := zn 9
  have n10 := cell_of_row W2 gn 10 _ _ _ kn
  have z10 := zn 10
  have n11 := cell_of_row W2 gn 11 _ _ _ kn
  have z11 := zn 11
  have n12 := cell_of_row W2 gn 12 _ _ _ kn
  have z12 := zn 12
  have n13 := cell_of_row W2 gn 13 _ _ _ kn
  have z13 := zn 13
  have n14 := cell_of_row W2 gn 14 _ _ _ kn
  have z14 := zn 14
  have n15 := cell_of_row W2 gn 15 _ _ _ kn
  have z15 := zn 15
  have n16 := cell_of_row W2 gn 16 _ _ _ kn
  have z16 := zn 16
  simp only [Fl.cells, List.getElem?_toArray, List.getElem?_cons_zero, List.getElem?_cons_succ] at n0 n1 n2 n3 n4 n5 n6 n7 n8 n9 n10 n11 n12 n13 n14 n15 n16
  clear zn hn ha he
  go_region
  refine ⟨rfl, _, rfl, .tuple #[], by simp [results, Tryd.results18, go_sem], rfl, rfl, ?_, ?_, ?_, ?_⟩
  · exact ((hq_drew _).trans ((hq_cell h2).trans (hq_cell h1))).trans (fill17 W2 gn fn _ _ _ _ _ _ _ _ _ _ _ _ _ _ _ _ _ kn)
  · refine ((hq_drew _).trans ((hq_cell h3).trans (hq_put rfl))).trans ?_
    rw [off17 W2 gn ga _ _ _ _ _ _ _ _ _ _ _ _ _ _ _ _ _ (Ne.symm h1), ka]
    rfl
  · refine ((hq_drew _).trans ((hq_put rfl).trans (congrArg _ (hq_cell (Ne.symm h3))))).trans ?_
    rw [off17 W2 gn ge _ _ _ _ _ _ _ _ _ _ _ _ _ _ _ _ _ (Ne.symm h2), ke]
    rfl
  · intro W hE l1 l2 l3
    exact below_drew1 (below_set (below_set (ext17 _ _ _ _ _ _ _ _ _ _ _ _ _ _ _ _ _ l1 (hE.trans hE2)) l2) l3)
/-- No node. -/
def zF : Fl := ⟨0, 0, 0, 0, ⟨#[]⟩, rf0, rf0, ⟨#[]⟩, none, 0, 0⟩
theorem zF_cells : zF.cells = zN := rfl
/-- What Parse hands back. -/
def ParP (W : World) (R : Except (Nat × Nat) Tr) (e : Ending) (w' : World) : Prop :=
  Ext W w' ∧ ((∃ t f, R = .ok t ∧ e = .returned (.tuple #[f.val, .int .i64 0, .int .i64 0]) ∧ Rep w' (fun g => W.heap.size ≤ g) t f) ∨ ∃ c p : Nat, R = .error (c, p) ∧ e = .returned (.tuple #[zF.val, .int .i64 (p : Int), .int .i64 (c : Int)]))
theorem tcells_at : ∀ (l : List Tok) (i j : Nat) (t : Tok), l[i]? = some t → j < 3 → (tcells l)[i * 3 + j]? = (tokC t.k t.s t.p)[j]?
  | [], i, j, t, h, _ => by cases h
  | u :: l, i, j, t, h, hj => by
    have hc : tcells (u :: l) = (tokC u.k u.s u.p).toList ++ tcells l := by simp [tcells]
    have h3 : ((tokC u.k u.s u.p).toList).length = 3 := rfl
    rw [hc]
    cases i with
    | zero =>
      obtain rfl : u = t := by simpa using h
      rw [List.getElem?_append_left (by omega)]
      simp
    | succ i =>
      rw [List.getElem?_append_right (by omega), h3, show (i + 1) * 3 + j - 3 = i * 3 + j by omega]
      exact tcells_at l i j t (by simpa using h) hj
theorem toks_at {w : World} {base : Nat} {v : Value} {l : List Tok} (h : w.ownsRow base 61 3 v l.length (tcells l)) :
    ∃ p c, v = .slice p l.length c ∧ l.length ≤ c ∧ ∀ (i : Nat) t, l[i]? = some t → ∃ g o, p = some ⟨g, o, none⟩ ∧ g < w.heap.size ∧ ∀ (j : Nat) u, (tokC t.k t.s t.p)[j]? = some u → w.cell? ⟨g, o + i * 3 + j, none⟩ = some u := by
  have h0 := h
  obtain ⟨-, ⟨hv, hz⟩ | ⟨g, cap, cur, hv, hb, hg, hc, -⟩⟩ := h
  · have : l = [] := List.eq_nil_of_length_eq_zero hz
    subst this
    exact ⟨none, 0, hv, Nat.le_refl _, fun i t ht => by cases ht⟩
  · refine ⟨_, cap, hv, hc, fun i t ht => ⟨g, 0, rfl, (Array.getElem?_eq_some_iff.1 hg).1, fun j u hu => ?_⟩⟩
    subst hv
    have hj : j < 3 := by
      have := (Array.getElem?_eq_some_iff.1 hu).1
      simpa [tokC] using this
    have hi := (List.getElem?_eq_some_iff.1 ht).1
    rw [Nat.zero_add, h0.cellAt (i * 3 + j) (by omega), tcells_at l i j t ht hj, hu]
/-- The parser as it begins. -/
theorem pat_new {w : World} {base : Nat} {v : Value} {l : List Tok} {sh E b : Nat} (h : w.ownsRow base 61 3 v l.length (tcells l)) (hb : b = w.heap.size) (hl : l.length ≤ 1000 ∧ (∀ t ∈ l, t.s.length ≤ 1000 ∧ t.p ≤ 1000 ∧ 1 ≤ t.k ∧ t.k ≤ 5) ∧ sh < 3 ∧ E ≤ 1000) :
    PAt b sh E 0 l (w.alloc (.cells #[v, .int .i64 (sh : Int), .int .i64 (E : Int), .int .i64 0] 55)) := by
  obtain ⟨p, c, rfl, hc, ht⟩ := toks_at h
  refine ⟨p, c, hq_at _ _ hb, hc, fun i t hi => ?_, hl.1, hl.2.1, hl.2.2.1, hl.2.2.2, by omega⟩
  obtain ⟨g, o, hp, hg, hcell⟩ := ht i t hi
  refine ⟨g, o, hp, by omega, fun j u hu => ?_⟩
  rw [← hcell j u hu]
  simp only [World.cell?, hq_past _ g hg]
/-- What the lexer's answer comes to. -/
theorem parse_lex {s : List UInt8} {sh : Nat} {R} (hR : parseF s sh = some R) {w w' : World} {e : Ending} (h : AllP (mk s) w e w') (hsh : sh < 3) :
    (∃ i c : Nat, 1 ≤ c ∧ c ≤ 6 ∧ R = .error (c, i) ∧ e = .returned (.tuple #[.slice none 0 0, .int .i64 (i : Int), .int .i64 (c : Int)])) ∨
    (∃ ts v R1, e = .returned (.tuple #[v, .int .i64 0, .int .i64 0]) ∧ w'.ownsRow w.heap.size 61 3 v ts.length (tcells ts) ∧ (ts.length ≤ 1000 ∧ (∀ t ∈ ts, t.s.length ≤ 1000 ∧ t.p ≤ 1000 ∧ 1 ≤ t.k ∧ t.k ≤ 5) ∧ sh < 3 ∧ s.length ≤ 1000) ∧ exprF s.length sh (12 * ts.length + 12) 0 0 ts = some R1 ∧
      R = match R1 with
        | .error e => .error e
        | .ok (x, []) => .ok x
        | .ok (_, t :: _) => .error (2, t.p)) := by
  obtain ⟨h, -⟩ := h
  rw [mk_size, mk_list] at h
  unfold parseF at hR
  by_cases hl : 200 < s.length
  · rw [if_pos hl] at h hR
    injection hR with hR
    exact .inl ⟨0, 4, by omega, by omega, hR.symm, h⟩
  rw [if_neg hl] at h hR
  cases hx : lexAll s with
  | error i =>
    rw [hx] at h hR
    injection hR with hR
    exact .inl ⟨i, 1, by omega, by omega, hR.symm, h.1⟩
  | ok ts =>
    rw [hx] at h hR
    obtain ⟨⟨v, he, hown⟩, hlen, hlim⟩ := h
    simp only at hR
    cases hy : exprF s.length sh (12 * ts.length + 12) 0 0 ts with
    | none => rw [hy] at hR; cases hR
    | some R1 =>
      rw [hy] at hR
      refine .inr ⟨ts, v, R1, he, hown, ⟨by omega, fun t ht => ?_, hsh, by omega⟩, hy, ?_⟩
      · have h1 := hlim t ht
        have h2 : 1 ≤ t.k ∧ t.k ≤ 5 := by
          rcases (lex_valid _ _ _ s.length _ (Nat.le_of_eq (Nat.zero_add _)) hx t ht).2 with h | h | h | h | ⟨h, -⟩ <;> omega
        omega
      · rcases R1 with e | ⟨x, r⟩
        · injection hR with hR; exact hR.symm
        · cases r <;> (injection hR with hR; exact hR.symm)
/-- The three results, as they lie. -/
theorem res3 {tmps : Array Value} {w : World} {gn ga ge : Nat} {cs : Array Value} {x y : Int} (h4 : tmps.getD 4 undef = .pointer (some ⟨gn, 0, none⟩)) (h5 : tmps.getD 5 undef = .pointer (some ⟨ga, 0, none⟩)) (h6 : tmps.getD 6 undef = .pointer (some ⟨ge, 0, none⟩))
    (hn : w.heap[gn]? = some (.cells cs 33 (0, 0))) (hs : cs.size = 17) (ha : w.heap[ga]? = some (.cells #[.int .i64 x] 3 (0, 0))) (he : w.heap[ge]? = some (.cells #[.int .i64 y] 34 (0, 0))) :
    (results Tryd.f11 tmps).run Tryd.prog w = .ok (.tuple #[.agg cs, .int .i64 x, .int .i64 y]) w := by
  have hld := run_loadVar_row (P := Tryd.prog) w gn 33 33 cs (0, 0) _ hn Tryd.underlying33 rfl (by rw [hs]; kernel_rfl)
  have ca := cell_of_row w ga 0 _ _ _ ha
  have ce := cell_of_row w ge 0 _ _ _ he
  simp only [List.getElem?_toArray, List.getElem?_cons_zero] at ca ce
  have h4' : tmps[4]?.getD undef = .pointer (some ⟨gn, 0, none⟩) := by simpa using h4
  have h5' : tmps[5]?.getD undef = .pointer (some ⟨ga, 0, none⟩) := by simpa using h5
  have h6' : tmps[6]?.getD undef = .pointer (some ⟨ge, 0, none⟩) := by simpa using h6
  have la : (loadVar 3 ⟨ga, 0, none⟩).run Tryd.prog w = .ok (.int .i64 x) w := by simp [go_sem, ca]
  have le : (loadVar 34 ⟨ge, 0, none⟩).run Tryd.prog w = .ok (.int .i64 y) w := by simp [go_sem, ce]
  unfold results
  rw [show Tryd.f11.results = #[.cell 4 33, .cell 5 3, .cell 6 34] from Tryd.results11]
  simp [h4', h5', h6', hld, la, le, asAddr, Sem.run_bind]
end Go.Proofs.YtffogjhjgmohiaaDoor
