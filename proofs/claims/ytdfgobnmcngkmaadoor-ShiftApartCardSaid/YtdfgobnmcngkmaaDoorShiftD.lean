/-
  shift: Leaf: walk. Conditions: each theorem's own.
-/
import Derived.Test.YtdfgobnmcngkmaaDoorShiftC
import Derived.Test.YtdfgobnmcngkmaaDoorNodes
namespace Go.Proofs.YtdfgobnmcngkmaaDoor
open Go.RowKit
set_option linter.unusedVariables false
set_option linter.unusedSimpArgs false

def goneF : Fl := litF 4 3 ⟨#[]⟩
def Fl.movA (n : Fl) (c r : Int) : Fl := { n with A := { n.A with c := c, r := r } }
def Fl.put2 (n : Fl) (c : Bool) (x y : Int) : Fl :=
  if c then { n with A := { n.A with c := x }, B := { n.B with c := y } } else { n with A := { n.A with r := x }, B := { n.B with r := y } }
/-- What an area becomes, from what becomes of its stretch. -/
def areaV (n : Fl) (c sw : Bool) (X Y : Int) (Z : Bool) : Fl := if Z then n.put2 c (if sw then Y else X) (if sw then X else Y) else goneF
def leafV (s : Int) (c d : Bool) (a : Int) (n : Fl) : Fl :=
  if n.k = 2 then (if celB s c d a n.A.s n.A.c n.A.r then n.movA (celC s c d a n.A.s n.A.c) (celR s c d a n.A.s n.A.r) else goneF)
  else if n.k = 3 ∧ n.A.s = s then
    let most := if c then 26 else 99
    let p := if c then n.A.c else n.A.r
    let q := if c then n.B.c else n.B.r
    let lo := if q < p then q else p
    let hi := if q < p then p else q
    areaV n c (decide (q < p)) (spX d (oneB d a lo most) (oneB d a hi most) (oneV d a lo) lo hi) (spY d (oneB d a lo most) (oneB d a hi most) (oneV d a hi) lo hi most) (spB d (oneB d a lo most) (oneB d a hi most) (oneV d a lo) (oneV d a hi) lo hi most)
  else n
set_option maxHeartbeats 4000000 in
set_option maxRecDepth 100000 in
theorem leaf_one (s a : Int) (c d : Bool) (n : Fl) (w : World) (hk : n.k = 2) (hc : 0 ≤ n.A.c ∧ n.A.c ≤ 1000) (hr : 0 ≤ n.A.r ∧ n.A.r ≤ 1000) :
    Calls Tryd.prog 17 #[edV s c d a, n.val] w fun e w' => e = .returned (if celB s c d a n.A.s n.A.c n.A.r then n.movA (celC s c d a n.A.s n.A.c) (celR s c d a n.A.s n.A.r) else goneF).val ∧ Ext w w' := by
  obtain ⟨k, op, vk, vn, vs, ⟨s1, x1, y1, p1, q1⟩, ⟨s2, x2, y2, p2, q2⟩, nm, l, ln, cap⟩ := n
  simp only at hk hc hr
  subst hk
  have c1 := fun w => cel_any s a s1 x1 y1 c d w hc hr
  unfold celV at c1
  simp only [Fl.movA]
  generalize celC s c d a s1 x1 = C at *
  generalize celR s c d a s1 y1 = R at *
  generalize celB s c d a s1 x1 y1 = Z at *
  have C1 := Lib.hid c1
  clear c1 hc hr
  change Calls _ _ #[edV s c d a, .agg #[.int .i64 2, .int .i64 op, .int .i64 vk, .int .i64 vn, .string vs, .int .i64 s1, .int .i64 x1, .int .i64 y1, .bool p1, .bool q1, .int .i64 s2, .int .i64 x2, .int .i64 y2, .bool p2, .bool q2, .string nm, .slice l ln cap]] w _
  cases Z
  all_goals
    go_enter Tryd.func17, Tryd.ntmps17
    go_wp2_with fail
    refine (fail_any 3 _).mono ?_
    rintro e w1 ⟨rfl, hE1⟩
    go_wp2_with fail
    refine (tval_any 4 3 ⟨#[]⟩ _).mono ?_
    rintro e w2 ⟨rfl, hE2⟩
    have hE3 := Ext.trans hE1 hE2
    clear hE1 hE2
    obtain ⟨gc3, gf3⟩ := ecell hE3; have gh3 := bheap hE3; have hz3 := Below.size hE3; simp only [World.size_alloc] at hz3; have hX3 := (ext_dig (ext_dig (ext_dig hE3))); have hl3_0 : w.heap.size < w2.heap.size := (by omega); have hm3_0 : w.heap.size < w2.heap.size + 1 := (by omega); have hn3_0 : w.heap.size < w2.heap.size + 1 + 1 := (by omega); have hl3_1 : w.heap.size + 1 < w2.heap.size := (by omega); have hm3_1 : w.heap.size + 1 < w2.heap.size + 1 := (by omega); have hn3_1 : w.heap.size + 1 < w2.heap.size + 1 + 1 := (by omega); have hl3_2 : w.heap.size + 1 + 1 < w2.heap.size := (by omega); have hm3_2 : w.heap.size + 1 + 1 < w2.heap.size + 1 := (by omega); have hn3_2 : w.heap.size + 1 + 1 < w2.heap.size + 1 + 1 := (by omega)
    go_wp2_with (first | ((with_reducible refine wpl_guard (isLoad 33) ?_ ?_); (· rfl); refine wpl_load (t := ?_) (cs := ?_) (fr := ?_) rfl 33 _ rfl rfl ?_ Tryd.underlying33 rfl ?_ ?_; rotate_left 3; (· (first | (with_reducible assumption) | (simp (disch := (first | omega | (simp only [World.size_alloc, World.size_setCell, World.size_drew, size_setRow]; done) | (simp only [World.size_alloc, World.size_setCell, World.size_drew, size_setRow]; omega))) only [hq_at, hq_past, hq_drew, hq_drewN, hq_cell, hq_row, hq_same, rowOf_cells, Option.map_some, *]; rfl) | (simp (disch := (first | omega | (simp only [World.size_alloc, World.size_setCell, World.size_drew, size_setRow]; done) | (simp only [World.size_alloc, World.size_setCell, World.size_drew, size_setRow]; omega))) only [hq_at, hq_past, hq_drew, hq_drewN, hq_cell, hq_row, hq_same, rowOf_cells, Option.map_some, *]))); (· kernel_rfl); (try dsimp only [Act.put, List.setIfInBounds_toArray, List.set_cons_zero, List.set_cons_succ])) | ((with_reducible refine wpl_guard (isStore 33) ?_ ?_); (· rfl); refine wpl_store (t := ?_) (old := ?_) (w' := ?_) rfl 33 _ _ rfl rfl rfl ?_ ?_ ?_ ?_ ?_ ?_; rotate_left 2; (· (first | (with_reducible assumption) | (simp (disch := (first | omega | (simp only [World.size_alloc, World.size_setCell, World.size_drew, size_setRow]; done) | (simp only [World.size_alloc, World.size_setCell, World.size_drew, size_setRow]; omega))) only [hq_at, hq_past, hq_drew, hq_drewN, hq_cell, hq_row, hq_same, rowOf_cells, Option.map_some, *]; rfl) | (simp (disch := (first | omega | (simp only [World.size_alloc, World.size_setCell, World.size_drew, size_setRow]; done) | (simp only [World.size_alloc, World.size_setCell, World.size_drew, size_setRow]; omega))) only [hq_at, hq_past, hq_drew, hq_drewN, hq_cell, hq_row, hq_same, rowOf_cells, Option.map_some, *]))); (· kernel_rfl); (· rfl); (· rfl); rotate_left 1; (· (first | (simp (disch := (first | omega | (simp only [World.size_alloc, World.size_setCell, World.size_drew, size_setRow]; done) | (simp only [World.size_alloc, World.size_setCell, World.size_drew, size_setRow]; omega))) only [setRow_at, setRow_past, setRow_drew]; rfl) | rfl))))
    refine (C1.out _).mono ?_
    rintro e w4 ⟨rfl, hE4⟩
    obtain ⟨gc4, gf4⟩ := ecell hE4; have gh4 := bheap hE4; have hz4 := Below.size hE4; simp only [World.size_alloc] at hz4; have hX4 := (ext_dig hE4); have hl4_0 : w2.heap.size < w4.heap.size := (by omega); have hm4_0 : w2.heap.size < w4.heap.size + 1 := (by omega); have hn4_0 : w2.heap.size < w4.heap.size + 1 + 1 := (by omega); have hl4_w0 : w.heap.size < w4.heap.size := (by omega); have hm4_w0 : w.heap.size < w4.heap.size + 1 := (by omega); have hl4_w1 : w.heap.size + 1 < w4.heap.size := (by omega); have hm4_w1 : w.heap.size + 1 < w4.heap.size + 1 := (by omega); have hl4_w2 : w.heap.size + 1 + 1 < w4.heap.size := (by omega); have hm4_w2 : w.heap.size + 1 + 1 < w4.heap.size + 1 := (by omega)
    have hX := Ext.trans hX3 hX4
    go_wp2_with (first | ((with_reducible refine wpl_guard (isLoad 33) ?_ ?_); (· rfl); refine wpl_load (t := ?_) (cs := ?_) (fr := ?_) rfl 33 _ rfl rfl ?_ Tryd.underlying33 rfl ?_ ?_; rotate_left 3; (· (first | (with_reducible assumption) | (simp (disch := (first | omega | (simp only [World.size_alloc, World.size_setCell, World.size_drew, size_setRow]; done) | (simp only [World.size_alloc, World.size_setCell, World.size_drew, size_setRow]; omega))) only [hq_at, hq_past, hq_drew, hq_drewN, hq_cell, hq_row, hq_same, rowOf_cells, Option.map_some, *]; rfl) | (simp (disch := (first | omega | (simp only [World.size_alloc, World.size_setCell, World.size_drew, size_setRow]; done) | (simp only [World.size_alloc, World.size_setCell, World.size_drew, size_setRow]; omega))) only [hq_at, hq_past, hq_drew, hq_drewN, hq_cell, hq_row, hq_same, rowOf_cells, Option.map_some, *]))); (· kernel_rfl); (try dsimp only [Act.put, List.setIfInBounds_toArray, List.set_cons_zero, List.set_cons_succ])) | ((with_reducible refine wpl_guard (isStore 33) ?_ ?_); (· rfl); refine wpl_store (t := ?_) (old := ?_) (w' := ?_) rfl 33 _ _ rfl rfl rfl ?_ ?_ ?_ ?_ ?_ ?_; rotate_left 2; (· (first | (with_reducible assumption) | (simp (disch := (first | omega | (simp only [World.size_alloc, World.size_setCell, World.size_drew, size_setRow]; done) | (simp only [World.size_alloc, World.size_setCell, World.size_drew, size_setRow]; omega))) only [hq_at, hq_past, hq_drew, hq_drewN, hq_cell, hq_row, hq_same, rowOf_cells, Option.map_some, *]; rfl) | (simp (disch := (first | omega | (simp only [World.size_alloc, World.size_setCell, World.size_drew, size_setRow]; done) | (simp only [World.size_alloc, World.size_setCell, World.size_drew, size_setRow]; omega))) only [hq_at, hq_past, hq_drew, hq_drewN, hq_cell, hq_row, hq_same, rowOf_cells, Option.map_some, *]))); (· kernel_rfl); (· rfl); (· rfl); rotate_left 1; (· (first | (simp (disch := (first | omega | (simp only [World.size_alloc, World.size_setCell, World.size_drew, size_setRow]; done) | (simp only [World.size_alloc, World.size_setCell, World.size_drew, size_setRow]; omega))) only [setRow_at, setRow_past, setRow_drew]; rfl) | rfl))))
  · refine ret_row (t := ?_) (cs := (goneF).cells) (fr := ?_) rfl rfl ?_ Tryd.underlying33 rfl ?_ rfl ⟨rfl, ?_⟩; rotate_left 2; (· (first | (with_reducible assumption) | (simp (disch := (first | omega | (simp only [World.size_alloc, World.size_setCell, World.size_drew, size_setRow]; done) | (simp only [World.size_alloc, World.size_setCell, World.size_drew, size_setRow]; omega))) only [hq_at, hq_past, hq_drew, hq_drewN, hq_cell, hq_row, hq_same, rowOf_cells, Option.map_some, *]; rfl) | (simp (disch := (first | omega | (simp only [World.size_alloc, World.size_setCell, World.size_drew, size_setRow]; done) | (simp only [World.size_alloc, World.size_setCell, World.size_drew, size_setRow]; omega))) only [hq_at, hq_past, hq_drew, hq_drewN, hq_cell, hq_row, hq_same, rowOf_cells, Option.map_some, *]))); (· kernel_rfl); repeat (first | with_reducible assumption | (with_reducible refine below_set ?_ (by first | omega | (simp only [World.size_alloc]; omega))) | (with_reducible refine below_row ?_ (by first | omega | (simp only [World.size_alloc]; omega))) | (with_reducible refine below_drewN ?_ _) | (with_reducible refine below_drew1 ?_) | (with_reducible refine ext_alloc ?_ _))
  · refine ret_row (t := ?_) (cs := ((⟨2, op, vk, vn, vs, ⟨s1, C, R, p1, q1⟩, ⟨s2, x2, y2, p2, q2⟩, nm, l, ln, cap⟩ : Fl)).cells) (fr := ?_) rfl rfl ?_ Tryd.underlying33 rfl ?_ rfl ⟨rfl, ?_⟩; rotate_left 2; (· (first | (with_reducible assumption) | (simp (disch := (first | omega | (simp only [World.size_alloc, World.size_setCell, World.size_drew, size_setRow]; done) | (simp only [World.size_alloc, World.size_setCell, World.size_drew, size_setRow]; omega))) only [hq_at, hq_past, hq_drew, hq_drewN, hq_cell, hq_row, hq_same, rowOf_cells, Option.map_some, *]; rfl) | (simp (disch := (first | omega | (simp only [World.size_alloc, World.size_setCell, World.size_drew, size_setRow]; done) | (simp only [World.size_alloc, World.size_setCell, World.size_drew, size_setRow]; omega))) only [hq_at, hq_past, hq_drew, hq_drewN, hq_cell, hq_row, hq_same, rowOf_cells, Option.map_some, *]))); (· kernel_rfl); repeat (first | with_reducible assumption | (with_reducible refine below_set ?_ (by first | omega | (simp only [World.size_alloc]; omega))) | (with_reducible refine below_row ?_ (by first | omega | (simp only [World.size_alloc]; omega))) | (with_reducible refine below_drewN ?_ _) | (with_reducible refine below_drew1 ?_) | (with_reducible refine ext_alloc ?_ _))
end Go.Proofs.YtdfgobnmcngkmaaDoor
