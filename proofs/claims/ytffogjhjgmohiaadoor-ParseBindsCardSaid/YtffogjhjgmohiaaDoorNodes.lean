/-
  Nodes without parts, as they are made: walks. Conditions: each theorem's own.
-/
import Derived.Test.YtffogjhjgmohiaaDoorBlocks
import Derived.Test.YtffogjhjgmohiaaDoorRows
import Derived.Lib.Hide
import Derived.Outline
namespace Go.Proofs.YtffogjhjgmohiaaDoor
open Go.RowKit
set_option linter.unusedVariables false
set_option linter.unusedSimpArgs false

/-- A reference; a value; a node, its parts as they came. -/
structure Rf where
  s : Int
  c : Int
  r : Int
  x : Bool
  y : Bool
def Rf.val (r : Rf) : Value := .agg #[.int .i64 r.s, .int .i64 r.c, .int .i64 r.r, .bool r.x, .bool r.y]
def rf0 : Rf := ⟨0, 0, 0, false, false⟩
structure Fl where
  k : Int
  op : Int
  vk : Int
  vn : Int
  vs : ByteArray
  A : Rf
  B : Rf
  nm : ByteArray
  l : Option Addr
  n : Nat
  cap : Nat
abbrev vlV (k n : Int) (s : ByteArray) : Value := .agg #[.int .i64 k, .int .i64 n, .string s]
def Fl.cells (n : Fl) : Array Value := #[.int .i64 n.k, .int .i64 n.op, .int .i64 n.vk, .int .i64 n.vn, .string n.vs, .int .i64 n.A.s, .int .i64 n.A.c, .int .i64 n.A.r, .bool n.A.x, .bool n.A.y,
  .int .i64 n.B.s, .int .i64 n.B.c, .int .i64 n.B.r, .bool n.B.x, .bool n.B.y, .string n.nm, .slice n.l n.n n.cap]
def Fl.val (n : Fl) : Value := .agg n.cells
def litF (k n : Int) (s : ByteArray) : Fl := ⟨1, 0, k, n, s, rf0, rf0, ⟨#[]⟩, none, 0, 0⟩
def oneF (r : Rf) : Fl := ⟨2, 0, 0, 0, ⟨#[]⟩, r, rf0, ⟨#[]⟩, none, 0, 0⟩
def areaF (a b : Rf) : Fl := ⟨3, 0, 0, 0, ⟨#[]⟩, a, b, ⟨#[]⟩, none, 0, 0⟩
theorem built_lit (k : Int) (v0 v1 v2 : Value) : Tryd.prog.built 33 [(0, .int .i64 k), (2, .agg #[v0, v1, v2])] = some #[.int .i64 k, .int .i64 0, v0, v1, v2, .int .i64 0, .int .i64 0, .int .i64 0, .bool false, .bool false, .int .i64 0, .int .i64 0, .int .i64 0, .bool false, .bool false, .string ⟨#[]⟩, .slice none 0 0] := by kernel_rfl
theorem built_one (k : Int) (v0 v1 v2 v3 v4 : Value) : Tryd.prog.built 33 [(0, .int .i64 k), (3, .agg #[v0, v1, v2, v3, v4])] = some #[.int .i64 k, .int .i64 0, .int .i64 0, .int .i64 0, .string ⟨#[]⟩, v0, v1, v2, v3, v4, .int .i64 0, .int .i64 0, .int .i64 0, .bool false, .bool false, .string ⟨#[]⟩, .slice none 0 0] := by kernel_rfl
theorem built_area (k : Int) (v0 v1 v2 v3 v4 u0 u1 u2 u3 u4 : Value) : Tryd.prog.built 33 [(0, .int .i64 k), (3, .agg #[v0, v1, v2, v3, v4]), (4, .agg #[u0, u1, u2, u3, u4])] = some #[.int .i64 k, .int .i64 0, .int .i64 0, .int .i64 0, .string ⟨#[]⟩, v0, v1, v2, v3, v4, u0, u1, u2, u3, u4, .string ⟨#[]⟩, .slice none 0 0] := by kernel_rfl
theorem fail_any (n : Int) (w : World) : Calls Tryd.prog 53 #[.int .i64 n] w fun e w' => e = .returned (vlV 4 n ⟨#[]⟩) ∧ Ext w w' := by
  go_enter Tryd.func53, Tryd.ntmps53
  go_wp2
  refine bodyPost_ret (v := vlV 4 n { data := #[] }) (by simp [results, Tryd.results53, go_sem]) rfl ⟨rfl, (Below.refl _ _).alloc (Nat.le_refl _) _⟩
theorem tval_any (k n : Int) (s : ByteArray) (w : World) : Calls Tryd.prog 49 #[vlV k n s] w fun e w' => e = .returned (litF k n s).val ∧ Ext w w' := by
  have hE := Ext.refl w
  go_enter Tryd.func49, Tryd.ntmps49
  go_wp2_with (first | ((with_reducible refine wpl_guard (isBuild 33) ?_ ?_); (· rfl); refine wpl_build rfl 33 _ rfl (built_lit _ _ _ _) ?_ ?_; (· rfl)) | ((with_reducible refine wpl_guard (isStore 33) ?_ ?_); (· rfl); refine wpl_store (t := ?_) (old := ?_) (w' := ?_) rfl 33 _ _ rfl rfl rfl ?_ ?_ ?_ ?_ ?_ ?_; rotate_left 2; (· (first | (with_reducible assumption) | (simp (disch := (first | omega | (simp only [World.size_alloc, World.size_setCell, World.size_drew, size_setRow]; done) | (simp only [World.size_alloc, World.size_setCell, World.size_drew, size_setRow]; omega))) only [hq_at, hq_past, hq_drew, hq_drewN, hq_cell, hq_row, hq_same, rowOf_cells, Option.map_some, *]; rfl) | (simp (disch := (first | omega | (simp only [World.size_alloc, World.size_setCell, World.size_drew, size_setRow]; done) | (simp only [World.size_alloc, World.size_setCell, World.size_drew, size_setRow]; omega))) only [hq_at, hq_past, hq_drew, hq_drewN, hq_cell, hq_row, hq_same, rowOf_cells, Option.map_some, *]))); (· kernel_rfl); (· rfl); (· rfl); rotate_left 1; (· (first | (simp (disch := (first | omega | (simp only [World.size_alloc, World.size_setCell, World.size_drew, size_setRow]; done) | (simp only [World.size_alloc, World.size_setCell, World.size_drew, size_setRow]; omega))) only [setRow_at, setRow_past, setRow_drew]; rfl) | rfl))))
  refine ret_row (t := ?_) (cs := ((litF k n s)).cells) (fr := ?_) rfl rfl ?_ Tryd.underlying33 rfl ?_ rfl ⟨rfl, ?_⟩; rotate_left 2; (· (first | (with_reducible assumption) | (simp (disch := (first | omega | (simp only [World.size_alloc, World.size_setCell, World.size_drew, size_setRow]; done) | (simp only [World.size_alloc, World.size_setCell, World.size_drew, size_setRow]; omega))) only [hq_at, hq_past, hq_drew, hq_drewN, hq_cell, hq_row, hq_same, rowOf_cells, Option.map_some, *]; rfl) | (simp (disch := (first | omega | (simp only [World.size_alloc, World.size_setCell, World.size_drew, size_setRow]; done) | (simp only [World.size_alloc, World.size_setCell, World.size_drew, size_setRow]; omega))) only [hq_at, hq_past, hq_drew, hq_drewN, hq_cell, hq_row, hq_same, rowOf_cells, Option.map_some, *]))); (· kernel_rfl); repeat (first | with_reducible assumption | (with_reducible refine below_set ?_ (by first | omega | (simp only [World.size_alloc]; omega))) | (with_reducible refine below_row ?_ (by first | omega | (simp only [World.size_alloc]; omega))) | (with_reducible refine below_drewN ?_ _) | (with_reducible refine below_drew1 ?_) | (with_reducible refine ext_alloc ?_ _))
theorem tcell_any (r : Rf) (w : World) : Calls Tryd.prog 71 #[r.val] w fun e w' => e = .returned (oneF r).val ∧ Ext w w' := by
  obtain ⟨s, c, r, x, y⟩ := r
  have hE := Ext.refl w
  unfold Rf.val
  go_enter Tryd.func71, Tryd.ntmps71
  go_wp2_with (first | ((with_reducible refine wpl_guard (isBuild 33) ?_ ?_); (· rfl); refine wpl_build rfl 33 _ rfl (built_one _ _ _ _ _ _) ?_ ?_; (· rfl)) | ((with_reducible refine wpl_guard (isStore 33) ?_ ?_); (· rfl); refine wpl_store (t := ?_) (old := ?_) (w' := ?_) rfl 33 _ _ rfl rfl rfl ?_ ?_ ?_ ?_ ?_ ?_; rotate_left 2; (· (first | (with_reducible assumption) | (simp (disch := (first | omega | (simp only [World.size_alloc, World.size_setCell, World.size_drew, size_setRow]; done) | (simp only [World.size_alloc, World.size_setCell, World.size_drew, size_setRow]; omega))) only [hq_at, hq_past, hq_drew, hq_drewN, hq_cell, hq_row, hq_same, rowOf_cells, Option.map_some, *]; rfl) | (simp (disch := (first | omega | (simp only [World.size_alloc, World.size_setCell, World.size_drew, size_setRow]; done) | (simp only [World.size_alloc, World.size_setCell, World.size_drew, size_setRow]; omega))) only [hq_at, hq_past, hq_drew, hq_drewN, hq_cell, hq_row, hq_same, rowOf_cells, Option.map_some, *]))); (· kernel_rfl); (· rfl); (· rfl); rotate_left 1; (· (first | (simp (disch := (first | omega | (simp only [World.size_alloc, World.size_setCell, World.size_drew, size_setRow]; done) | (simp only [World.size_alloc, World.size_setCell, World.size_drew, size_setRow]; omega))) only [setRow_at, setRow_past, setRow_drew]; rfl) | rfl))))
  refine ret_row (t := ?_) (cs := ((oneF ⟨s, c, r, x, y⟩)).cells) (fr := ?_) rfl rfl ?_ Tryd.underlying33 rfl ?_ rfl ⟨rfl, ?_⟩; rotate_left 2; (· (first | (with_reducible assumption) | (simp (disch := (first | omega | (simp only [World.size_alloc, World.size_setCell, World.size_drew, size_setRow]; done) | (simp only [World.size_alloc, World.size_setCell, World.size_drew, size_setRow]; omega))) only [hq_at, hq_past, hq_drew, hq_drewN, hq_cell, hq_row, hq_same, rowOf_cells, Option.map_some, *]; rfl) | (simp (disch := (first | omega | (simp only [World.size_alloc, World.size_setCell, World.size_drew, size_setRow]; done) | (simp only [World.size_alloc, World.size_setCell, World.size_drew, size_setRow]; omega))) only [hq_at, hq_past, hq_drew, hq_drewN, hq_cell, hq_row, hq_same, rowOf_cells, Option.map_some, *]))); (· kernel_rfl); repeat (first | with_reducible assumption | (with_reducible refine below_set ?_ (by first | omega | (simp only [World.size_alloc]; omega))) | (with_reducible refine below_row ?_ (by first | omega | (simp only [World.size_alloc]; omega))) | (with_reducible refine below_drewN ?_ _) | (with_reducible refine below_drew1 ?_) | (with_reducible refine ext_alloc ?_ _))
theorem tspan_any (a b : Rf) (w : World) : Calls Tryd.prog 72 #[a.val, b.val] w fun e w' => e = .returned (areaF a b).val ∧ Ext w w' := by
  obtain ⟨s, c, r, x, y⟩ := a
  obtain ⟨s', c', r', x', y'⟩ := b
  have hE := Ext.refl w
  unfold Rf.val
  go_enter Tryd.func72, Tryd.ntmps72
  go_wp2_with (first | ((with_reducible refine wpl_guard (isBuild 33) ?_ ?_); (· rfl); refine wpl_build rfl 33 _ rfl (built_area _ _ _ _ _ _ _ _ _ _ _) ?_ ?_; (· rfl)) | ((with_reducible refine wpl_guard (isStore 33) ?_ ?_); (· rfl); refine wpl_store (t := ?_) (old := ?_) (w' := ?_) rfl 33 _ _ rfl rfl rfl ?_ ?_ ?_ ?_ ?_ ?_; rotate_left 2; (· (first | (with_reducible assumption) | (simp (disch := (first | omega | (simp only [World.size_alloc, World.size_setCell, World.size_drew, size_setRow]; done) | (simp only [World.size_alloc, World.size_setCell, World.size_drew, size_setRow]; omega))) only [hq_at, hq_past, hq_drew, hq_drewN, hq_cell, hq_row, hq_same, rowOf_cells, Option.map_some, *]; rfl) | (simp (disch := (first | omega | (simp only [World.size_alloc, World.size_setCell, World.size_drew, size_setRow]; done) | (simp only [World.size_alloc, World.size_setCell, World.size_drew, size_setRow]; omega))) only [hq_at, hq_past, hq_drew, hq_drewN, hq_cell, hq_row, hq_same, rowOf_cells, Option.map_some, *]))); (· kernel_rfl); (· rfl); (· rfl); rotate_left 1; (· (first | (simp (disch := (first | omega | (simp only [World.size_alloc, World.size_setCell, World.size_drew, size_setRow]; done) | (simp only [World.size_alloc, World.size_setCell, World.size_drew, size_setRow]; omega))) only [setRow_at, setRow_past, setRow_drew]; rfl) | rfl))))
  refine ret_row (t := ?_) (cs := ((areaF ⟨s, c, r, x, y⟩ ⟨s', c', r', x', y'⟩)).cells) (fr := ?_) rfl rfl ?_ Tryd.underlying33 rfl ?_ rfl ⟨rfl, ?_⟩; rotate_left 2; (· (first | (with_reducible assumption) | (simp (disch := (first | omega | (simp only [World.size_alloc, World.size_setCell, World.size_drew, size_setRow]; done) | (simp only [World.size_alloc, World.size_setCell, World.size_drew, size_setRow]; omega))) only [hq_at, hq_past, hq_drew, hq_drewN, hq_cell, hq_row, hq_same, rowOf_cells, Option.map_some, *]; rfl) | (simp (disch := (first | omega | (simp only [World.size_alloc, World.size_setCell, World.size_drew, size_setRow]; done) | (simp only [World.size_alloc, World.size_setCell, World.size_drew, size_setRow]; omega))) only [hq_at, hq_past, hq_drew, hq_drewN, hq_cell, hq_row, hq_same, rowOf_cells, Option.map_some, *]))); (· kernel_rfl); repeat (first | with_reducible assumption | (with_reducible refine below_set ?_ (by first | omega | (simp only [World.size_alloc]; omega))) | (with_reducible refine below_row ?_ (by first | omega | (simp only [World.size_alloc]; omega))) | (with_reducible refine below_drewN ?_ _) | (with_reducible refine below_drew1 ?_) | (with_reducible refine ext_alloc ?_ _))
end Go.Proofs.YtffogjhjgmohiaaDoor
