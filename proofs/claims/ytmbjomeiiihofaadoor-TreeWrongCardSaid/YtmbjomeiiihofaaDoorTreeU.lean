/-
  law 05: what the laws hand to Map and Leaves. Conditions: each theorem's own.
-/
import Derived.Test.YtmbjomeiiihofaaDoorTreeT
import Derived.Shelf.Abstract
namespace Go.Proofs.YtmbjomeiiihofaaDoor
open Go.RowKit
set_option linter.unusedVariables false
set_option linter.unusedSimpArgs false

theorem CountAt.cell {b c : Nat} {W : World} (h : CountAt b W c) : W.cell? ⟨b, 0, none⟩ = some (.int .i64 (c : Int)) := by rw [cell_of_row W b 0 _ _ _ h]; rfl
theorem CountAt.frozen {b c : Nat} {W : World} (h : CountAt b W c) : W.frozen? ⟨b, 0, none⟩ = false := frozen_of_row W b 0 _ _ h
theorem CountAt.set {b c : Nat} {W : World} (h : CountAt b W c) (c' : Nat) : CountAt b (W.setCell ⟨b, 0, none⟩ (.int .i64 (c' : Int))) c' := by
  unfold CountAt at h ⊢
  rw [hq_put rfl, h]; rfl
set_option maxRecDepth 100000 in
set_option maxHeartbeats 4000000 in
theorem seeds1_counts (b : Nat) : Yields 28 #[.pointer (some ⟨b, 0, none⟩)] b (fun _ => true) (fun _ => True) := by
  intro W c f hc hC _
  obtain ⟨W1, hW1, hE1, hG1, hL1, hS1⟩ := new_blk W f.cells 38
  have hC1 := hC.ext hE1
  have c0 := hC1.cell
  have f0 := hC1.frozen
  have hb : b < W.heap.size := blk_lt hC
  have HC1 := Lib.hid hC1
  have HE1 := Lib.hid hE1
  have HW1 := Lib.hid hW1
  have hc' : (c : Int) < 1000000000 := by omega
  have hc0 : (0 : Int) ≤ (c : Int) := by omega
  clear hC hC1 hW1 hE1 hG1 hL1 hS1 hc hb
  unfold Fl.val
  change Calls _ _ #[.agg f.cells, .pointer (some ⟨b, 0, none⟩)] W _
  go_enter Tryd.func28, Tryd.ntmps28
  go_upto_region 1 with (fail)
  rw [HW1.out]
  clear HW1
  go_wp2_with fail
  go_ret
  exact ⟨rfl, (ExtX.of_ext HE1.out).set _ _, HC1.out.set (c + 1)⟩
set_option maxRecDepth 100000 in
set_option maxHeartbeats 4000000 in
theorem seeds2_turns : Turner 29 #[] (fun s => .mk s []) (fun _ => True) := by
  intro W s p cap hs _
  have HE0 := Lib.hid (Ext.refl W)
  obtain ⟨W1, hW1, hE1, hG1, hL1, hS1⟩ := new_blk W (s.fl p 0 cap).cells 38
  obtain ⟨W2, hW2, hE2, hG2, hL2, hS2⟩ := new_blk W1 #[.int .i64 0, .int .i64 0, .int .i64 0, .int .i64 0, .string ⟨#[]⟩, .int .i64 0, .int .i64 0, .int .i64 0, .bool false, .bool false, .int .i64 0, .int .i64 0, .int .i64 0, .bool false, .bool false, .string ⟨#[]⟩, .slice none 0 0] 38
  rw [hS1] at hG2
  have HW1 := Lib.hid hW1
  have HW2 := Lib.hid hW2
  have HE2 := Lib.hid (hE1.trans hE2)
  have hg1 := hE2.blk hG1
  have hg2 := hG2
  have HS := Lib.hid hs
  clear hW1 hE1 hG1 hL1 hS1 hW2 hE2 hG2 hL2 hS2 hs
  unfold Fl.val
  change Calls _ _ #[.agg (s.fl p 0 cap).cells] W _
  go_enter Tryd.func29, Tryd.ntmps29
  go_upto_region 1 with (fail)
  rw [HW1.out, HW2.out]
  clear HW1 HW2
  go_wp2_with (first | ((with_reducible refine wpl_guard (isLoad 38) ?_ ?_); (· rfl); refine wpl_load (t := ?_) (cs := ?_) (fr := ?_) rfl 38 _ rfl rfl ?_ Tryd.underlying38 rfl ?_ ?_; rotate_left 3; (· (first | (with_reducible assumption) | (simp (disch := (first | omega | (simp only [World.size_alloc, World.size_setCell, World.size_drew, size_setRow]; done) | (simp only [World.size_alloc, World.size_setCell, World.size_drew, size_setRow]; omega))) only [hq_at, hq_past, hq_drew, hq_drewN, hq_cell, hq_row, hq_same, rowOf_cells, Option.map_some, *]; rfl) | (simp (disch := (first | omega | (simp only [World.size_alloc, World.size_setCell, World.size_drew, size_setRow]; done) | (simp only [World.size_alloc, World.size_setCell, World.size_drew, size_setRow]; omega))) only [hq_at, hq_past, hq_drew, hq_drewN, hq_cell, hq_row, hq_same, rowOf_cells, Option.map_some, *]))); (· kernel_rfl); (try dsimp only [Act.put, List.setIfInBounds_toArray, List.set_cons_zero, List.set_cons_succ])) | ((with_reducible refine wpl_guard (isStore 38) ?_ ?_); (· rfl); refine wpl_store (t := ?_) (old := ?_) (w' := ?_) rfl 38 _ _ rfl rfl rfl ?_ ?_ ?_ ?_ ?_ ?_; rotate_left 2; (· (first | (with_reducible assumption) | (simp (disch := (first | omega | (simp only [World.size_alloc, World.size_setCell, World.size_drew, size_setRow]; done) | (simp only [World.size_alloc, World.size_setCell, World.size_drew, size_setRow]; omega))) only [hq_at, hq_past, hq_drew, hq_drewN, hq_cell, hq_row, hq_same, rowOf_cells, Option.map_some, *]; rfl) | (simp (disch := (first | omega | (simp only [World.size_alloc, World.size_setCell, World.size_drew, size_setRow]; done) | (simp only [World.size_alloc, World.size_setCell, World.size_drew, size_setRow]; omega))) only [hq_at, hq_past, hq_drew, hq_drewN, hq_cell, hq_row, hq_same, rowOf_cells, Option.map_some, *]))); (· kernel_rfl); (· rfl); (· rfl); rotate_left 1; (· (first | (simp (disch := (first | omega | (simp only [World.size_alloc, World.size_setCell, World.size_drew, size_setRow]; done) | (simp only [World.size_alloc, World.size_setCell, World.size_drew, size_setRow]; omega))) only [setRow_at, setRow_past, setRow_drew]; rfl) | rfl))))
  have hg9 : (W2.setRow (W.heap.size + 1) (s.fl p 0 cap).cells).heap[W.heap.size + 1]? = some (.cells (s.fl p 0 cap).cells 38 (0, 0)) := by rw [hq_same rfl, hg2]; rfl
  exact ret_row rfl rfl hg9 Tryd.underlying38 rfl (by kernel_rfl) rfl ⟨⟨s.fl p 0 cap, rfl, Rep.leaf _ _ s HS.out p cap⟩, below_row HE2.out (Nat.le_succ _)⟩
end Go.Proofs.YtmbjomeiiihofaaDoor
