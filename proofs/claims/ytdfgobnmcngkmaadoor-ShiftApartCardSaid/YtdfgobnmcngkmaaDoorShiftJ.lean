/-
  shift: Leaf at a node that is no cell, no area: walk. Conditions: each theorem's own.
-/
import Derived.Test.YtdfgobnmcngkmaaDoorShiftG
namespace Go.Proofs.YtdfgobnmcngkmaaDoor
open Go.RowKit
set_option linter.unusedVariables false
set_option linter.unusedSimpArgs false

set_option maxHeartbeats 4000000 in
set_option maxRecDepth 100000 in
theorem leaf_oth (s a : Int) (c d : Bool) (n : Fl) (w : World) (h2 : (n.k == 2) = false) (h3 : (n.k == 3) = false) :
    Calls Tryd.prog 17 #[edV s c d a, n.val] w fun e w' => e = .returned n.val ∧ Ext w w' := by
  obtain ⟨k, op, vk, vn, vs, ⟨s1, x1, y1, p1, q1⟩, ⟨s2, x2, y2, p2, q2⟩, nm, l, ln, cap⟩ := n
  simp only at h2 h3
  change Calls _ _ #[edV s c d a, .agg #[.int .i64 k, .int .i64 op, .int .i64 vk, .int .i64 vn, .string vs, .int .i64 s1, .int .i64 x1, .int .i64 y1, .bool p1, .bool q1, .int .i64 s2, .int .i64 x2, .int .i64 y2, .bool p2, .bool q2, .string nm, .slice l ln cap]] w _
  go_enter Tryd.func17, Tryd.ntmps17
  go_wp2_with fail
  refine (fail_any 3 _).mono ?_
  rintro e w1 ⟨rfl, hE1⟩
  go_wp2_with fail
  refine (tval_any 4 3 ⟨#[]⟩ _).mono ?_
  rintro e w2 ⟨rfl, hE2⟩
  have hE3 := Ext.trans hE1 hE2
  clear hE1 hE2
  obtain ⟨gc3, gf3⟩ := ecell hE3; have gh3 := bheap hE3; have hz3 := Below.size hE3; simp only [World.size_alloc] at hz3; have hX3 := (ext_dig (ext_dig (ext_dig hE3))); have hl3_0 : w.heap.size < w2.heap.size := (by omega); have hm3_0 : w.heap.size < w2.heap.size + 1 := (by omega); have hn3_0 : w.heap.size < w2.heap.size + 1 + 1 := (by omega); have hl3_1 : w.heap.size + 1 < w2.heap.size := (by omega); have hm3_1 : w.heap.size + 1 < w2.heap.size + 1 := (by omega); have hn3_1 : w.heap.size + 1 < w2.heap.size + 1 + 1 := (by omega); have hl3_2 : w.heap.size + 1 + 1 < w2.heap.size := (by omega); have hm3_2 : w.heap.size + 1 + 1 < w2.heap.size + 1 := (by omega); have hn3_2 : w.heap.size + 1 + 1 < w2.heap.size + 1 + 1 := (by omega)
  go_wp2_with (first | ((with_reducible refine wpl_guard (isLoad 33) ?_ ?_); (· rfl); refine wpl_load (t := ?_) (cs := ?_) (fr := ?_) rfl 33 _ rfl rfl ?_ Tryd.underlying33 rfl ?_ ?_; rotate_left 3; (· (first | (with_reducible assumption) | (simp (disch := (first | omega | (simp only [World.size_alloc, World.size_setCell, World.size_drew, size_setRow]; done) | (simp only [World.size_alloc, World.size_setCell, World.size_drew, size_setRow]; omega))) only [hq_at, hq_past, hq_drew, hq_drewN, hq_cell, hq_row, hq_same, rowOf_cells, Option.map_some, *]; rfl) | (simp (disch := (first | omega | (simp only [World.size_alloc, World.size_setCell, World.size_drew, size_setRow]; done) | (simp only [World.size_alloc, World.size_setCell, World.size_drew, size_setRow]; omega))) only [hq_at, hq_past, hq_drew, hq_drewN, hq_cell, hq_row, hq_same, rowOf_cells, Option.map_some, *]))); (· kernel_rfl); (try dsimp only [Act.put, List.setIfInBounds_toArray, List.set_cons_zero, List.set_cons_succ])) | ((with_reducible refine wpl_guard (isStore 33) ?_ ?_); (· rfl); refine wpl_store (t := ?_) (old := ?_) (w' := ?_) rfl 33 _ _ rfl rfl rfl ?_ ?_ ?_ ?_ ?_ ?_; rotate_left 2; (· (first | (with_reducible assumption) | (simp (disch := (first | omega | (simp only [World.size_alloc, World.size_setCell, World.size_drew, size_setRow]; done) | (simp only [World.size_alloc, World.size_setCell, World.size_drew, size_setRow]; omega))) only [hq_at, hq_past, hq_drew, hq_drewN, hq_cell, hq_row, hq_same, rowOf_cells, Option.map_some, *]; rfl) | (simp (disch := (first | omega | (simp only [World.size_alloc, World.size_setCell, World.size_drew, size_setRow]; done) | (simp only [World.size_alloc, World.size_setCell, World.size_drew, size_setRow]; omega))) only [hq_at, hq_past, hq_drew, hq_drewN, hq_cell, hq_row, hq_same, rowOf_cells, Option.map_some, *]))); (· kernel_rfl); (· rfl); (· rfl); rotate_left 1; (· (first | (simp (disch := (first | omega | (simp only [World.size_alloc, World.size_setCell, World.size_drew, size_setRow]; done) | (simp only [World.size_alloc, World.size_setCell, World.size_drew, size_setRow]; omega))) only [setRow_at, setRow_past, setRow_drew]; rfl) | rfl))))
  refine ret_row (t := ?_) (cs := ((⟨k, op, vk, vn, vs, ⟨s1, x1, y1, p1, q1⟩, ⟨s2, x2, y2, p2, q2⟩, nm, l, ln, cap⟩ : Fl)).cells) (fr := ?_) rfl rfl ?_ Tryd.underlying33 rfl ?_ rfl ⟨rfl, ?_⟩; rotate_left 2; (· (first | (with_reducible assumption) | (simp (disch := (first | omega | (simp only [World.size_alloc, World.size_setCell, World.size_drew, size_setRow]; done) | (simp only [World.size_alloc, World.size_setCell, World.size_drew, size_setRow]; omega))) only [hq_at, hq_past, hq_drew, hq_drewN, hq_cell, hq_row, hq_same, rowOf_cells, Option.map_some, *]; rfl) | (simp (disch := (first | omega | (simp only [World.size_alloc, World.size_setCell, World.size_drew, size_setRow]; done) | (simp only [World.size_alloc, World.size_setCell, World.size_drew, size_setRow]; omega))) only [hq_at, hq_past, hq_drew, hq_drewN, hq_cell, hq_row, hq_same, rowOf_cells, Option.map_some, *]))); (· kernel_rfl); repeat (first | with_reducible assumption | (with_reducible refine below_set ?_ (by first | omega | (simp only [World.size_alloc]; omega))) | (with_reducible refine below_row ?_ (by first | omega | (simp only [World.size_alloc]; omega))) | (with_reducible refine below_drewN ?_ _) | (with_reducible refine below_drew1 ?_) | (with_reducible refine ext_alloc ?_ _))
set_option maxHeartbeats 4000000 in
set_option maxRecDepth 100000 in
theorem leaf_far (s a : Int) (c d : Bool) (n : Fl) (w : World) (h3 : n.k = 3) (hs : (n.A.s != s) = true) :
    Calls Tryd.prog 17 #[edV s c d a, n.val] w fun e w' => e = .returned n.val ∧ Ext w w' := by
  obtain ⟨k, op, vk, vn, vs, ⟨s1, x1, y1, p1, q1⟩, ⟨s2, x2, y2, p2, q2⟩, nm, l, ln, cap⟩ := n
  simp only at h3 hs
  subst h3
  change Calls _ _ #[edV s c d a, .agg #[.int .i64 3, .int .i64 op, .int .i64 vk, .int .i64 vn, .string vs, .int .i64 s1, .int .i64 x1, .int .i64 y1, .bool p1, .bool q1, .int .i64 s2, .int .i64 x2, .int .i64 y2, .bool p2, .bool q2, .string nm, .slice l ln cap]] w _
  go_enter Tryd.func17, Tryd.ntmps17
  go_wp2_with fail
  refine (fail_any 3 _).mono ?_
  rintro e w1 ⟨rfl, hE1⟩
  go_wp2_with fail
  refine (tval_any 4 3 ⟨#[]⟩ _).mono ?_
  rintro e w2 ⟨rfl, hE2⟩
  have hE3 := Ext.trans hE1 hE2
  clear hE1 hE2
  obtain ⟨gc3, gf3⟩ := ecell hE3; have gh3 := bheap hE3; have hz3 := Below.size hE3; simp only [World.size_alloc] at hz3; have hX3 := (ext_dig (ext_dig (ext_dig hE3))); have hl3_0 : w.heap.size < w2.heap.size := (by omega); have hm3_0 : w.heap.size < w2.heap.size + 1 := (by omega); have hn3_0 : w.heap.size < w2.heap.size + 1 + 1 := (by omega); have hl3_1 : w.heap.size + 1 < w2.heap.size := (by omega); have hm3_1 : w.heap.size + 1 < w2.heap.size + 1 := (by omega); have hn3_1 : w.heap.size + 1 < w2.heap.size + 1 + 1 := (by omega); have hl3_2 : w.heap.size + 1 + 1 < w2.heap.size := (by omega); have hm3_2 : w.heap.size + 1 + 1 < w2.heap.size + 1 := (by omega); have hn3_2 : w.heap.size + 1 + 1 < w2.heap.size + 1 + 1 := (by omega)
  go_wp2_with (first | ((with_reducible refine wpl_guard (isLoad 33) ?_ ?_); (· rfl); refine wpl_load (t := ?_) (cs := ?_) (fr := ?_) rfl 33 _ rfl rfl ?_ Tryd.underlying33 rfl ?_ ?_; rotate_left 3; (· (first | (with_reducible assumption) | (simp (disch := (first | omega | (simp only [World.size_alloc, World.size_setCell, World.size_drew, size_setRow]; done) | (simp only [World.size_alloc, World.size_setCell, World.size_drew, size_setRow]; omega))) only [hq_at, hq_past, hq_drew, hq_drewN, hq_cell, hq_row, hq_same, rowOf_cells, Option.map_some, *]; rfl) | (simp (disch := (first | omega | (simp only [World.size_alloc, World.size_setCell, World.size_drew, size_setRow]; done) | (simp only [World.size_alloc, World.size_setCell, World.size_drew, size_setRow]; omega))) only [hq_at, hq_past, hq_drew, hq_drewN, hq_cell, hq_row, hq_same, rowOf_cells, Option.map_some, *]))); (· kernel_rfl); (try dsimp only [Act.put, List.setIfInBounds_toArray, List.set_cons_zero, List.set_cons_succ])) | ((with_reducible refine wpl_guard (isStore 33) ?_ ?_); (· rfl); refine wpl_store (t := ?_) (old := ?_) (w' := ?_) rfl 33 _ _ rfl rfl rfl ?_ ?_ ?_ ?_ ?_ ?_; rotate_left 2; (· (first | (with_reducible assumption) | (simp (disch := (first | omega | (simp only [World.size_alloc, World.size_setCell, World.size_drew, size_setRow]; done) | (simp only [World.size_alloc, World.size_setCell, World.size_drew, size_setRow]; omega))) only [hq_at, hq_past, hq_drew, hq_drewN, hq_cell, hq_row, hq_same, rowOf_cells, Option.map_some, *]; rfl) | (simp (disch := (first | omega | (simp only [World.size_alloc, World.size_setCell, World.size_drew, size_setRow]; done) | (simp only [World.size_alloc, World.size_setCell, World.size_drew, size_setRow]; omega))) only [hq_at, hq_past, hq_drew, hq_drewN, hq_cell, hq_row, hq_same, rowOf_cells, Option.map_some, *]))); (· kernel_rfl); (· rfl); (· rfl); rotate_left 1; (· (first | (simp (disch := (first | omega | (simp only [World.size_alloc, World.size_setCell, World.size_drew, size_setRow]; done) | (simp only [World.size_alloc, World.size_setCell, World.size_drew, size_setRow]; omega))) only [setRow_at, setRow_past, setRow_drew]; rfl) | rfl))))
  refine ret_row (t := ?_) (cs := ((⟨3, op, vk, vn, vs, ⟨s1, x1, y1, p1, q1⟩, ⟨s2, x2, y2, p2, q2⟩, nm, l, ln, cap⟩ : Fl)).cells) (fr := ?_) rfl rfl ?_ Tryd.underlying33 rfl ?_ rfl ⟨rfl, ?_⟩; rotate_left 2; (· (first | (with_reducible assumption) | (simp (disch := (first | omega | (simp only [World.size_alloc, World.size_setCell, World.size_drew, size_setRow]; done) | (simp only [World.size_alloc, World.size_setCell, World.size_drew, size_setRow]; omega))) only [hq_at, hq_past, hq_drew, hq_drewN, hq_cell, hq_row, hq_same, rowOf_cells, Option.map_some, *]; rfl) | (simp (disch := (first | omega | (simp only [World.size_alloc, World.size_setCell, World.size_drew, size_setRow]; done) | (simp only [World.size_alloc, World.size_setCell, World.size_drew, size_setRow]; omega))) only [hq_at, hq_past, hq_drew, hq_drewN, hq_cell, hq_row, hq_same, rowOf_cells, Option.map_some, *]))); (· kernel_rfl); repeat (first | with_reducible assumption | (with_reducible refine below_set ?_ (by first | omega | (simp only [World.size_alloc]; omega))) | (with_reducible refine below_row ?_ (by first | omega | (simp only [World.size_alloc]; omega))) | (with_reducible refine below_drewN ?_ _) | (with_reducible refine below_drew1 ?_) | (with_reducible refine ext_alloc ?_ _))
/-- Whatever the leaf. -/
theorem leaf_all (s a : Int) (c d : Bool) (n : Fl) (w : World) (hA : n.A.ok) (hB : n.B.ok) :
    Calls Tryd.prog 17 #[edV s c d a, n.val] w fun e w' => e = .returned (leafV s c d a n).val ∧ Ext w w' := by
  by_cases h2 : n.k = 2
  · exact leaf_any s a c d n w (.inl h2) hA hB
  by_cases h3 : n.k = 3
  · by_cases hs : n.A.s = s
    · exact leaf_any s a c d n w (.inr ⟨h3, hs⟩) hA hB
    · have : leafV s c d a n = n := by unfold leafV; rw [if_neg h2, if_neg (fun h => hs h.2)]
      rw [this]
      exact leaf_far s a c d n w h3 (by simpa using hs)
  · have : leafV s c d a n = n := by unfold leafV; rw [if_neg h2, if_neg (fun h => h3 h.1)]
    rw [this]
    exact leaf_oth s a c d n w (by simpa using h2) (by simpa using h3)
end Go.Proofs.YtdfgobnmcngkmaaDoor
