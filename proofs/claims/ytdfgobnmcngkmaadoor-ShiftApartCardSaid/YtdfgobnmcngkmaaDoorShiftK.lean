/-
  shift: turned, Seen, Copy, Formula at trees: walks. Conditions: each theorem's own.
-/
import Derived.Test.YtdfgobnmcngkmaaDoorShiftJ
import Derived.Test.YtdfgobnmcngkmaaDoorTreeX
import Derived.Test.YtdfgobnmcngkmaaDoorTreeV
namespace Go.Proofs.YtdfgobnmcngkmaaDoor
open Go.RowKit
set_option linter.unusedVariables false
set_option linter.unusedSimpArgs false

/-- Near: no sum, no difference of two such leaves int. -/
def Rf.near (r : Rf) : Prop := (-1000 ≤ r.s ∧ r.s ≤ 1000) ∧ (-1000 ≤ r.c ∧ r.c ≤ 1000) ∧ -1000 ≤ r.r ∧ r.r ≤ 1000
def Gc (s : Sc) : Prop := s.A.near ∧ s.B.near
/-- A reference as it is seen from a cell. -/
def turnR (fs fc fr : Int) (r : Rf) : Rf := ⟨r.s - fs, if r.x then r.c else r.c - fc, if r.y then r.r else r.r - fr, r.x, r.y⟩
set_option maxHeartbeats 4000000 in
set_option maxRecDepth 100000 in
theorem turned_any (fs fc fr : Int) (r : Rf) (w : World) (hr : r.near) (hf : (-1000 ≤ fs ∧ fs ≤ 1000) ∧ (-1000 ≤ fc ∧ fc ≤ 1000) ∧ -1000 ≤ fr ∧ fr ≤ 1000) :
    Calls Tryd.prog 36 #[r.val, ceV fs fc fr] w fun e w' => e = .returned (turnR fs fc fr r).val ∧ Ext w w' := by
  obtain ⟨s, c, r, x, y⟩ := r
  obtain ⟨⟨h1, h2⟩, ⟨h3, h4⟩, h5, h6⟩ := hr
  obtain ⟨⟨g1, g2⟩, ⟨g3, g4⟩, g5, g6⟩ := hf
  simp only at h1 h2 h3 h4 h5 h6
  have w1 : IntKind.i64.wrap (s - fs) = s - fs := IntWalk.i64_in _ ⟨by omega, by omega⟩
  have w2 : IntKind.i64.wrap (c - fc) = c - fc := IntWalk.i64_in _ ⟨by omega, by omega⟩
  have w3 : IntKind.i64.wrap (r - fr) = r - fr := IntWalk.i64_in _ ⟨by omega, by omega⟩
  clear h1 h2 h3 h4 h5 h6 g1 g2 g3 g4 g5 g6
  obtain ⟨ds, hds⟩ : ∃ d, s - fs = d := ⟨_, rfl⟩
  obtain ⟨dc, hdc⟩ : ∃ d, c - fc = d := ⟨_, rfl⟩
  obtain ⟨dr, hdr⟩ : ∃ d, r - fr = d := ⟨_, rfl⟩
  unfold turnR Rf.val
  simp only [hds, hdc, hdr] at w1 w2 w3 ⊢
  have hE := Ext.refl w
  cases x <;> cases y
  all_goals
    simp only [Bool.false_eq_true, if_false, if_true]
    go_enter Tryd.func36, Tryd.ntmps36
    go_wp2_with fail
  · refine bodyPost_ret (v := (.agg #[.int .i64 ds, .int .i64 dc, .int .i64 dr, .bool false, .bool false])) (by simp [results, Tryd.results36, go_sem, *]) rfl ⟨rfl, ?_⟩; repeat (first | with_reducible assumption | (with_reducible refine below_set ?_ (by first | omega | (simp only [World.size_alloc]; omega))) | (with_reducible refine below_row ?_ (by first | omega | (simp only [World.size_alloc]; omega))) | (with_reducible refine below_drewN ?_ _) | (with_reducible refine below_drew1 ?_) | (with_reducible refine ext_alloc ?_ _))
  · refine bodyPost_ret (v := (.agg #[.int .i64 ds, .int .i64 dc, .int .i64 r, .bool false, .bool true])) (by simp [results, Tryd.results36, go_sem, *]) rfl ⟨rfl, ?_⟩; repeat (first | with_reducible assumption | (with_reducible refine below_set ?_ (by first | omega | (simp only [World.size_alloc]; omega))) | (with_reducible refine below_row ?_ (by first | omega | (simp only [World.size_alloc]; omega))) | (with_reducible refine below_drewN ?_ _) | (with_reducible refine below_drew1 ?_) | (with_reducible refine ext_alloc ?_ _))
  · refine bodyPost_ret (v := (.agg #[.int .i64 ds, .int .i64 c, .int .i64 dr, .bool true, .bool false])) (by simp [results, Tryd.results36, go_sem, *]) rfl ⟨rfl, ?_⟩; repeat (first | with_reducible assumption | (with_reducible refine below_set ?_ (by first | omega | (simp only [World.size_alloc]; omega))) | (with_reducible refine below_row ?_ (by first | omega | (simp only [World.size_alloc]; omega))) | (with_reducible refine below_drewN ?_ _) | (with_reducible refine below_drew1 ?_) | (with_reducible refine ext_alloc ?_ _))
  · refine bodyPost_ret (v := (.agg #[.int .i64 ds, .int .i64 c, .int .i64 r, .bool true, .bool true])) (by simp [results, Tryd.results36, go_sem, *]) rfl ⟨rfl, ?_⟩; repeat (first | with_reducible assumption | (with_reducible refine below_set ?_ (by first | omega | (simp only [World.size_alloc]; omega))) | (with_reducible refine below_row ?_ (by first | omega | (simp only [World.size_alloc]; omega))) | (with_reducible refine below_drewN ?_ _) | (with_reducible refine below_drew1 ?_) | (with_reducible refine ext_alloc ?_ _))
/-- A leaf as it is seen from a cell. -/
def seenS (fs fc fr : Int) (s : Sc) : Sc :=
  if s.k = 2 then { s with A := turnR fs fc fr s.A } else if s.k = 3 then { s with A := turnR fs fc fr s.A, B := turnR fs fc fr s.B } else s
theorem seenS_ok {fs fc fr : Int} {s : Sc} (h : s.ok) : (seenS fs fc fr s).ok := by
  unfold seenS
  split
  · exact h
  · split <;> exact h
/-- Block b holds a cell. -/
def CellAt (b : Nat) (s c r : Int) (W : World) : Prop := W.heap[b]? = some (.cells #[.int .i64 s, .int .i64 c, .int .i64 r] 28 (0, 0))
theorem CellAt.ext {b : Nat} {s c r : Int} {W w : World} (h : CellAt b s c r W) (hE : Ext W w) : CellAt b s c r w := hE.blk h
theorem CellAt.cell {b : Nat} {s c r : Int} {W : World} (h : CellAt b s c r W) : W.cell? ⟨b, 0, none⟩ = some (.int .i64 s) ∧ W.cell? ⟨b, 1, none⟩ = some (.int .i64 c) ∧ W.cell? ⟨b, 2, none⟩ = some (.int .i64 r) :=
  ⟨by rw [cell_of_row W b 0 _ _ _ h]; rfl, by rw [cell_of_row W b 1 _ _ _ h]; rfl, by rw [cell_of_row W b 2 _ _ _ h]; rfl⟩
def Fl.setA (f : Fl) (r : Rf) : Fl := { f with A := r }
def Fl.setB (f : Fl) (r : Rf) : Fl := { f with B := r }
section
variable {ops : Array Oper} {rest : List Oper} {o : Oper} {a : Act} {w : World} {Q : Exit → Act → World → Prop}
theorem wpl_store_ref (hgd : o.guard = none) (x y : Operand) (ho : o.op = .store 30 x y) {g off : Nat} {r : Rf} (hx : a.eval x = .pointer (some ⟨g, off, none⟩)) (hy : a.eval y = r.val)
    {f f' : Fl} (hg : w.heap[g]? = some (.cells f.cells 33 (0, 0))) (hput : (off = 5 ∧ f' = f.setA r) ∨ (off = 10 ∧ f' = f.setB r)) {w' : World} (hw : w.setRow g f'.cells = w')
    (h : wpList Tryd.prog ops Q rest (a.put o.dst undef) w') : wpList Tryd.prog ops Q (o :: rest) a w := by
  refine wpl_store_at hgd 30 x y ho hx hy hg ?_ (by kernel_rfl) ?_ (w' := w') ?_ h
  · rcases hput with ⟨rfl, _⟩ | ⟨rfl, _⟩ <;> simp [fl_size]
  · intro v hv
    simp only [List.mem_cons, List.not_mem_nil, or_false] at hv
    rcases hv with rfl | rfl | rfl | rfl | rfl <;> rfl
  · rw [← hw]
    congr 1
    rcases hput with ⟨rfl, rfl⟩ | ⟨rfl, rfl⟩ <;> rfl
end
theorem put_fl {w : World} {g : Nat} {f : Fl} (hg : w.heap[g]? = some (.cells f.cells 33 (0, 0))) (f' : Fl) :
    ∃ w', w.setRow g f'.cells = w' ∧ w'.heap[g]? = some (.cells f'.cells 33 (0, 0)) ∧ (∀ k, k ≠ g → w'.heap[k]? = w.heap[k]?) ∧ (∀ W, Ext W w → W.heap.size ≤ g → Ext W w') :=
  ⟨_, rfl, by rw [setRow_heap w g _ _ _ _ hg], fun k hk => setRow_other w g k _ hk, fun W hE hl => below_row hE hl⟩
set_option maxRecDepth 100000 in
set_option maxHeartbeats 8000000 in
theorem seen1_turns (b : Nat) (fs fc fr : Int) (hf : (-1000 ≤ fs ∧ fs ≤ 1000) ∧ (-1000 ≤ fc ∧ fc ≤ 1000) ∧ -1000 ≤ fr ∧ fr ≤ 1000) :
    TurnerG 35 #[] #[.pointer (some ⟨b, 0, none⟩)] (fun s => .mk (seenS fs fc fr s) []) Gc (CellAt b fs fc fr) := by
  intro W s p cap hs hG hJ
  obtain ⟨k, op, vk, vn, vs, ⟨u1, u2, u3, u4, u5⟩, ⟨v1, v2, v3, v4, v5⟩, nm⟩ := s
  obtain ⟨W1, hW1, hE1, hG1, hL1, hS1⟩ := new_blk W #[.int .i64 k, .int .i64 op, .int .i64 vk, .int .i64 vn, .string vs, .int .i64 u1, .int .i64 u2, .int .i64 u3, .bool u4, .bool u5,
    .int .i64 v1, .int .i64 v2, .int .i64 v3, .bool v4, .bool v5, .string nm, .slice p 0 cap] 33
  obtain ⟨W2, hW2, hE2, hG2, hL2, hS2⟩ := new_blk W1 #[.int .i64 0, .int .i64 0, .int .i64 0, .int .i64 0, .string ⟨#[]⟩, .int .i64 0, .int .i64 0, .int .i64 0, .bool false, .bool false, .int .i64 0, .int .i64 0, .int .i64 0, .bool false, .bool false, .string ⟨#[]⟩, .slice none 0 0] 33
  rw [hS1] at hG2
  have HW1 := Lib.hid hW1
  have HW2 := Lib.hid hW2
  have HE2 := Lib.hid (hE1.trans hE2)
  obtain ⟨c0, c1, c2⟩ := (hJ.ext (hE1.trans hE2)).cell
  have HJ := Lib.hid (hJ.ext (hE1.trans hE2))
  have HBL : Hid (b < W.heap.size) := Lib.hid (blk_lt hJ)
  have HG1 := Lib.hid (hE2.blk hG1)
  have HG2 := Lib.hid hG2
  have HS := Lib.hid hs
  have TA := Lib.hid (fun w => turned_any fs fc fr ⟨u1, u2, u3, u4, u5⟩ w hG.1 hf)
  have TB := Lib.hid (fun w => turned_any fs fc fr ⟨v1, v2, v3, v4, v5⟩ w hG.2 hf)
  clear hW1 hE1 hG1 hL1 hS1 hW2 hE2 hG2 hL2 hS2 hs hJ hG
  obtain ⟨A', hA'⟩ : ∃ A', turnR fs fc fr ⟨u1, u2, u3, u4, u5⟩ = A' := ⟨_, rfl⟩
  obtain ⟨B', hB'⟩ : ∃ A', turnR fs fc fr ⟨v1, v2, v3, v4, v5⟩ = A' := ⟨_, rfl⟩
  have HV : Hid (seenS fs fc fr ⟨k, op, vk, vn, vs, ⟨u1, u2, u3, u4, u5⟩, ⟨v1, v2, v3, v4, v5⟩, nm⟩ = if k = 2 then ⟨k, op, vk, vn, vs, A', ⟨v1, v2, v3, v4, v5⟩, nm⟩ else if k = 3 then ⟨k, op, vk, vn, vs, A', B', nm⟩ else ⟨k, op, vk, vn, vs, ⟨u1, u2, u3, u4, u5⟩, ⟨v1, v2, v3, v4, v5⟩, nm⟩) := Lib.hid (by rw [← hA', ← hB']; rfl)
  rw [hA'] at TA
  rw [hB'] at TB
  clear hA' hB'
  have b1 := ext_blk HG1.out
  have hr := Ext.refl W2
  change Calls _ _ #[.agg #[.int .i64 k, .int .i64 op, .int .i64 vk, .int .i64 vn, .string vs, .int .i64 u1, .int .i64 u2, .int .i64 u3, .bool u4, .bool u5,
    .int .i64 v1, .int .i64 v2, .int .i64 v3, .bool v4, .bool v5, .string nm, .slice p 0 cap], .pointer (some ⟨b, 0, none⟩)] W _
  obtain ⟨a1, a2, a3, a4, a5⟩ := A'
  obtain ⟨e1, e2, e3, e4, e5⟩ := B'
  by_cases k2 : k = 2
  · subst k2
    have HV2 := Lib.hid (show seenS fs fc fr ⟨2, op, vk, vn, vs, ⟨u1, u2, u3, u4, u5⟩, ⟨v1, v2, v3, v4, v5⟩, nm⟩ = ⟨2, op, vk, vn, vs, ⟨a1, a2, a3, a4, a5⟩, ⟨v1, v2, v3, v4, v5⟩, nm⟩ by rw [HV.out]; rfl)
    clear HV
    go_enter Tryd.func35, Tryd.ntmps35
    go_upto_region 1 with (fail)
    rw [HW1.out, HW2.out]
    clear HW1 HW2
    go_wp2_with fail
    refine (TA.out _).mono ?_
    rintro e w3 ⟨rfl, hE3⟩
    have hgs : w3.heap[W.heap.size]? = some (.cells (⟨2, op, vk, vn, vs, ⟨u1, u2, u3, u4, u5⟩, ⟨v1, v2, v3, v4, v5⟩, nm, p, 0, cap⟩ : Fl).cells 33 (0, 0)) := hE3.blk HG1.out
    obtain ⟨w4, hw4, hg4, hk4, hX4⟩ := put_fl hgs (⟨2, op, vk, vn, vs, ⟨a1, a2, a3, a4, a5⟩, ⟨v1, v2, v3, v4, v5⟩, nm, p, 0, cap⟩ : Fl)
    have hg2 : w4.heap[W.heap.size + 1]? = _ := (hk4 _ (by omega)).trans (hE3.blk HG2.out)
    have HX : Hid (Ext W w4) := Lib.hid (hX4 W (HE2.out.trans hE3) (Nat.le_refl _))
    have d0 : w4.cell? ⟨W.heap.size, 0, none⟩ = some (.int .i64 2) := by rw [cell_of_row w4 W.heap.size 0 _ _ _ hg4]; rfl
    clear hE3 hk4 hX4 b1 hr c0 c1 c2
    go_wp2_with (first | ((with_reducible refine wpl_guard (isStore 30) ?_ ?_); (· rfl); refine wpl_store_ref rfl _ _ rfl rfl (r := ⟨a1, a2, a3, a4, a5⟩) rfl hgs (.inl ⟨rfl, rfl⟩) hw4 ?_) | ((with_reducible refine wpl_guard (isLoad 33) ?_ ?_); (· rfl); refine wpl_load (t := ?_) (cs := ?_) (fr := ?_) rfl 33 _ rfl rfl ?_ Tryd.underlying33 rfl ?_ ?_; rotate_left 3; (· (first | (with_reducible assumption) | (simp (disch := (first | omega | (simp only [World.size_alloc, World.size_setCell, World.size_drew, size_setRow]; done) | (simp only [World.size_alloc, World.size_setCell, World.size_drew, size_setRow]; omega))) only [hq_at, hq_past, hq_drew, hq_drewN, hq_cell, hq_row, hq_same, rowOf_cells, Option.map_some, *]; rfl) | (simp (disch := (first | omega | (simp only [World.size_alloc, World.size_setCell, World.size_drew, size_setRow]; done) | (simp only [World.size_alloc, World.size_setCell, World.size_drew, size_setRow]; omega))) only [hq_at, hq_past, hq_drew, hq_drewN, hq_cell, hq_row, hq_same, rowOf_cells, Option.map_some, *]))); (· kernel_rfl); (try dsimp only [Act.put, List.setIfInBounds_toArray, List.set_cons_zero, List.set_cons_succ])) | ((with_reducible refine wpl_guard (isStore 33) ?_ ?_); (· rfl); refine wpl_store (t := ?_) (old := ?_) (w' := ?_) rfl 33 _ _ rfl rfl rfl ?_ ?_ ?_ ?_ ?_ ?_; rotate_left 2; (· (first | (with_reducible assumption) | (simp (disch := (first | omega | (simp only [World.size_alloc, World.size_setCell, World.size_drew, size_setRow]; done) | (simp only [World.size_alloc, World.size_setCell, World.size_drew, size_setRow]; omega))) only [hq_at, hq_past, hq_drew, hq_drewN, hq_cell, hq_row, hq_same, rowOf_cells, Option.map_some, *]; rfl) | (simp (disch := (first | omega | (simp only [World.size_alloc, World.size_setCell, World.size_drew, size_setRow]; done) | (simp only [World.size_alloc, World.size_setCell, World.size_drew, size_setRow]; omega))) only [hq_at, hq_past, hq_drew, hq_drewN, hq_cell, hq_row, hq_same, rowOf_cells, Option.map_some, *]))); (· kernel_rfl); (· rfl); (· rfl); rotate_left 1; (· (first | (simp (disch := (first | omega | (simp only [World.size_alloc, World.size_setCell, World.size_drew, size_setRow]; done) | (simp only [World.size_alloc, World.size_setCell, World.size_drew, size_setRow]; omega))) only [setRow_at, setRow_past, setRow_drew]; rfl) | rfl))))
    have hg9 : (w4.setRow (W.heap.size + 1) (⟨2, op, vk, vn, vs, ⟨a1, a2, a3, a4, a5⟩, ⟨v1, v2, v3, v4, v5⟩, nm, p, 0, cap⟩ : Fl).cells).heap[W.heap.size + 1]? = some (.cells (⟨2, op, vk, vn, vs, ⟨a1, a2, a3, a4, a5⟩, ⟨v1, v2, v3, v4, v5⟩, nm, p, 0, cap⟩ : Fl).cells 33 (0, 0)) := by rw [hq_same rfl, hg2]; rfl
    refine ret_row rfl rfl hg9 Tryd.underlying33 rfl (by kernel_rfl) rfl ⟨⟨(⟨2, op, vk, vn, vs, ⟨a1, a2, a3, a4, a5⟩, ⟨v1, v2, v3, v4, v5⟩, nm, p, 0, cap⟩ : Fl), rfl, ?_⟩, below_row HX.out (Nat.le_succ _)⟩
    rw [HV2.out]
    exact Rep.leaf _ _ _ (by exact HS.out) p cap
  by_cases k3 : k = 3
  · subst k3
    have HV2 := Lib.hid (show seenS fs fc fr ⟨3, op, vk, vn, vs, ⟨u1, u2, u3, u4, u5⟩, ⟨v1, v2, v3, v4, v5⟩, nm⟩ = ⟨3, op, vk, vn, vs, ⟨a1, a2, a3, a4, a5⟩, ⟨e1, e2, e3, e4, e5⟩, nm⟩ by rw [HV.out]; rfl)
    clear HV
    go_enter Tryd.func35, Tryd.ntmps35
    go_upto_region 1 with (fail)
    rw [HW1.out, HW2.out]
    clear HW1 HW2
    go_wp2_with fail
    refine (TA.out _).mono ?_
    rintro e w3 ⟨rfl, hE3⟩
    have hgs : w3.heap[W.heap.size]? = some (.cells (⟨3, op, vk, vn, vs, ⟨u1, u2, u3, u4, u5⟩, ⟨v1, v2, v3, v4, v5⟩, nm, p, 0, cap⟩ : Fl).cells 33 (0, 0)) := hE3.blk HG1.out
    obtain ⟨w4, hw4, hg4, hk4, hX4⟩ := put_fl hgs (⟨3, op, vk, vn, vs, ⟨a1, a2, a3, a4, a5⟩, ⟨v1, v2, v3, v4, v5⟩, nm, p, 0, cap⟩ : Fl)
    have HG4 := Lib.hid hg4
    have HG24 : Hid (w4.heap[W.heap.size + 1]? = _) := Lib.hid ((hk4 _ (by omega)).trans (hE3.blk HG2.out))
    have HX4 : Hid (Ext W w4) := Lib.hid (hX4 W (HE2.out.trans hE3) (Nat.le_refl _))
    have d0 : w4.cell? ⟨W.heap.size, 0, none⟩ = some (.int .i64 3) := by rw [cell_of_row w4 W.heap.size 0 _ _ _ hg4]; rfl
    have b4 := ext_blk hg4
    have hr4 := Ext.refl w4
    simp only [Fl.cells] at b4
    have HJ4 : Hid (CellAt b fs fc fr w4) := Lib.hid ((hk4 _ (by have := HBL.out; omega)).trans (HJ.out.ext hE3))
    obtain ⟨c0', c1', c2'⟩ := HJ4.out.cell
    clear hE3 hk4 hX4 b1 hr c0 c1 c2 hg4
    go_wp2_with (first | ((with_reducible refine wpl_guard (isStore 30) ?_ ?_); (· rfl); refine wpl_store_ref rfl _ _ rfl rfl (r := ⟨a1, a2, a3, a4, a5⟩) rfl hgs (.inl ⟨rfl, rfl⟩) hw4 ?_))
    refine (TB.out _).mono ?_
    rintro e w5 ⟨rfl, hE5⟩
    clear hgs hw4
    have hgs : w5.heap[W.heap.size]? = some (.cells (⟨3, op, vk, vn, vs, ⟨a1, a2, a3, a4, a5⟩, ⟨v1, v2, v3, v4, v5⟩, nm, p, 0, cap⟩ : Fl).cells 33 (0, 0)) := hE5.blk HG4.out
    obtain ⟨w6, hw4, hg4, hk4, hX4⟩ := put_fl hgs (⟨3, op, vk, vn, vs, ⟨a1, a2, a3, a4, a5⟩, ⟨e1, e2, e3, e4, e5⟩, nm, p, 0, cap⟩ : Fl)
    have hg2 : w6.heap[W.heap.size + 1]? = _ := (hk4 _ (by omega)).trans (hE5.blk HG24.out)
    have HX : Hid (Ext W w6) := Lib.hid (hX4 W (HX4.out.trans hE5) (Nat.le_refl _))
    clear hE5 hk4 hX4 b4 hr4 c0' c1' c2'
    go_wp2_with (first | ((with_reducible refine wpl_guard (isStore 30) ?_ ?_); (· rfl); refine wpl_store_ref rfl _ _ rfl rfl (r := ⟨e1, e2, e3, e4, e5⟩) rfl hgs (.inr ⟨rfl, rfl⟩) hw4 ?_) | ((with_reducible refine wpl_guard (isLoad 33) ?_ ?_); (· rfl); refine wpl_load (t := ?_) (cs := ?_) (fr := ?_) rfl 33 _ rfl rfl ?_ Tryd.underlying33 rfl ?_ ?_; rotate_left 3; (· (first | (with_reducible assumption) | (simp (disch := (first | omega | (simp only [World.size_alloc, World.size_setCell, World.size_drew, size_setRow]; done) | (simp only [World.size_alloc, World.size_setCell, World.size_drew, size_setRow]; omega))) only [hq_at, hq_past, hq_drew, hq_drewN, hq_cell, hq_row, hq_same, rowOf_cells, Option.map_some, *]; rfl) | (simp (disch := (first | omega | (simp only [World.size_alloc, World.size_setCell, World.size_drew, size_setRow]; done) | (simp only [World.size_alloc, World.size_setCell, World.size_drew, size_setRow]; omega))) only [hq_at, hq_past, hq_drew, hq_drewN, hq_cell, hq_row, hq_same, rowOf_cells, Option.map_some, *]))); (· kernel_rfl); (try dsimp only [Act.put, List.setIfInBounds_toArray, List.set_cons_zero, List.set_cons_succ])) | ((with_reducible refine wpl_guard (isStore 33) ?_ ?_); (· rfl); refine wpl_store (t := ?_) (old := ?_) (w' := ?_) rfl 33 _ _ rfl rfl rfl ?_ ?_ ?_ ?_ ?_ ?_; rotate_left 2; (· (first | (with_reducible assumption) | (simp (disch := (first | omega | (simp only [World.size_alloc, World.size_setCell, World.size_drew, size_setRow]; done) | (simp only [World.size_alloc, World.size_setCell, World.size_drew, size_setRow]; omega))) only [hq_at, hq_past, hq_drew, hq_drewN, hq_cell, hq_row, hq_same, rowOf_cells, Option.map_some, *]; rfl) | (simp (disch := (first | omega | (simp only [World.size_alloc, World.size_setCell, World.size_drew, size_setRow]; done) | (simp only [World.size_alloc, World.size_setCell, World.size_drew, size_setRow]; omega))) only [hq_at, hq_past, hq_drew, hq_drewN, hq_cell, hq_row, hq_same, rowOf_cells, Option.map_some, *]))); (· kernel_rfl); (· rfl); (· rfl); rotate_left 1; (· (first | (simp (disch := (first | omega | (simp only [World.size_alloc, World.size_setCell, World.size_drew, size_setRow]; done) | (simp only [World.size_alloc, World.size_setCell, World.size_drew, size_setRow]; omega))) only [setRow_at, setRow_past, setRow_drew]; rfl) | rfl))))
    have hg9 : (w6.setRow (W.heap.size + 1) (⟨3, op, vk, vn, vs, ⟨a1, a2, a3, a4, a5⟩, ⟨e1, e2, e3, e4, e5⟩, nm, p, 0, cap⟩ : Fl).cells).heap[W.heap.size + 1]? = some (.cells (⟨3, op, vk, vn, vs, ⟨a1, a2, a3, a4, a5⟩, ⟨e1, e2, e3, e4, e5⟩, nm, p, 0, cap⟩ : Fl).cells 33 (0, 0)) := by rw [hq_same rfl, hg2]; rfl
    refine ret_row rfl rfl hg9 Tryd.underlying33 rfl (by kernel_rfl) rfl ⟨⟨(⟨3, op, vk, vn, vs, ⟨a1, a2, a3, a4, a5⟩, ⟨e1, e2, e3, e4, e5⟩, nm, p, 0, cap⟩ : Fl), rfl, ?_⟩, below_row HX.out (Nat.le_succ _)⟩
    rw [HV2.out]
    exact Rep.leaf _ _ _ (by exact HS.out) p cap
  have HV2 := Lib.hid (show seenS fs fc fr ⟨k, op, vk, vn, vs, ⟨u1, u2, u3, u4, u5⟩, ⟨v1, v2, v3, v4, v5⟩, nm⟩ = ⟨k, op, vk, vn, vs, ⟨u1, u2, u3, u4, u5⟩, ⟨v1, v2, v3, v4, v5⟩, nm⟩ by rw [HV.out, if_neg k2, if_neg k3])
  have q2 : (k == 2) = false := by simpa using k2
  have q3 : (k == 3) = false := by simpa using k3
  have hg1 : W2.heap[W.heap.size]? = some (.cells (⟨k, op, vk, vn, vs, ⟨u1, u2, u3, u4, u5⟩, ⟨v1, v2, v3, v4, v5⟩, nm, p, 0, cap⟩ : Fl).cells 33 (0, 0)) := HG1.out
  have hg2 := HG2.out
  have HX := HE2
  clear HV k2 k3
  go_enter Tryd.func35, Tryd.ntmps35
  go_upto_region 1 with (fail)
  rw [HW1.out, HW2.out]
  clear HW1 HW2
  go_wp2_with (first | ((with_reducible refine wpl_guard (isLoad 33) ?_ ?_); (· rfl); refine wpl_load (t := ?_) (cs := ?_) (fr := ?_) rfl 33 _ rfl rfl ?_ Tryd.underlying33 rfl ?_ ?_; rotate_left 3; (· (first | (with_reducible assumption) | (simp (disch := (first | omega | (simp only [World.size_alloc, World.size_setCell, World.size_drew, size_setRow]; done) | (simp only [World.size_alloc, World.size_setCell, World.size_drew, size_setRow]; omega))) only [hq_at, hq_past, hq_drew, hq_drewN, hq_cell, hq_row, hq_same, rowOf_cells, Option.map_some, *]; rfl) | (simp (disch := (first | omega | (simp only [World.size_alloc, World.size_setCell, World.size_drew, size_setRow]; done) | (simp only [World.size_alloc, World.size_setCell, World.size_drew, size_setRow]; omega))) only [hq_at, hq_past, hq_drew, hq_drewN, hq_cell, hq_row, hq_same, rowOf_cells, Option.map_some, *]))); (· kernel_rfl); (try dsimp only [Act.put, List.setIfInBounds_toArray, List.set_cons_zero, List.set_cons_succ])) | ((with_reducible refine wpl_guard (isStore 33) ?_ ?_); (· rfl); refine wpl_store (t := ?_) (old := ?_) (w' := ?_) rfl 33 _ _ rfl rfl rfl ?_ ?_ ?_ ?_ ?_ ?_; rotate_left 2; (· (first | (with_reducible assumption) | (simp (disch := (first | omega | (simp only [World.size_alloc, World.size_setCell, World.size_drew, size_setRow]; done) | (simp only [World.size_alloc, World.size_setCell, World.size_drew, size_setRow]; omega))) only [hq_at, hq_past, hq_drew, hq_drewN, hq_cell, hq_row, hq_same, rowOf_cells, Option.map_some, *]; rfl) | (simp (disch := (first | omega | (simp only [World.size_alloc, World.size_setCell, World.size_drew, size_setRow]; done) | (simp only [World.size_alloc, World.size_setCell, World.size_drew, size_setRow]; omega))) only [hq_at, hq_past, hq_drew, hq_drewN, hq_cell, hq_row, hq_same, rowOf_cells, Option.map_some, *]))); (· kernel_rfl); (· rfl); (· rfl); rotate_left 1; (· (first | (simp (disch := (first | omega | (simp only [World.size_alloc, World.size_setCell, World.size_drew, size_setRow]; done) | (simp only [World.size_alloc, World.size_setCell, World.size_drew, size_setRow]; omega))) only [setRow_at, setRow_past, setRow_drew]; rfl) | rfl))))
  have hg9 : (W2.setRow (W.heap.size + 1) (⟨k, op, vk, vn, vs, ⟨u1, u2, u3, u4, u5⟩, ⟨v1, v2, v3, v4, v5⟩, nm, p, 0, cap⟩ : Fl).cells).heap[W.heap.size + 1]? = some (.cells (⟨k, op, vk, vn, vs, ⟨u1, u2, u3, u4, u5⟩, ⟨v1, v2, v3, v4, v5⟩, nm, p, 0, cap⟩ : Fl).cells 33 (0, 0)) := by rw [hq_same rfl, hg2]; rfl
  refine ret_row rfl rfl hg9 Tryd.underlying33 rfl (by kernel_rfl) rfl ⟨⟨(⟨k, op, vk, vn, vs, ⟨u1, u2, u3, u4, u5⟩, ⟨v1, v2, v3, v4, v5⟩, nm, p, 0, cap⟩ : Fl), rfl, ?_⟩, below_row HX.out (Nat.le_succ _)⟩
  rw [HV2.out]
  exact Rep.leaf _ _ _ (by exact HS.out) p cap
end Go.Proofs.YtdfgobnmcngkmaaDoor
