/-
  shift: Copy's closures: walks. Conditions: each theorem's own.
-/
import Derived.Test.YtdfgobnmcngkmaaDoorShiftK
import Derived.Laws.EntriesVeiled
namespace Go.Proofs.YtdfgobnmcngkmaaDoor
open Go.RowKit
set_option linter.unusedVariables false
set_option linter.unusedSimpArgs false

/-- A reference as it is copied. -/
def movR (dc dr : Int) (r : Rf) : Rf := ⟨r.s, if r.x then r.c else r.c + dc, if r.y then r.r else r.r + dr, r.x, r.y⟩
set_option maxHeartbeats 4000000 in
set_option maxRecDepth 100000 in
theorem move_any (b1 b2 : Nat) (ts tc tr fs fc fr dc dr : Int) (r : Rf) (w : World) (hr : r.near) (h1 : CellAt b1 ts tc tr w) (h2 : CellAt b2 fs fc fr w) (hc : tc - fc = dc) (hrr : tr - fr = dr) (hd : (-1000 ≤ dc ∧ dc ≤ 1000) ∧ -1000 ≤ dr ∧ dr ≤ 1000) :
    Calls Tryd.prog 32 #[r.val, .pointer (some ⟨b1, 0, none⟩), .pointer (some ⟨b2, 0, none⟩)] w fun e w' => e = .returned (movR dc dr r).val ∧ Ext w w' := by
  obtain ⟨s, c, r, x, y⟩ := r
  obtain ⟨⟨h3, h4⟩, ⟨h5, h6⟩, h7, h8⟩ := hr
  obtain ⟨⟨g1, g2⟩, g3, g4⟩ := hd
  simp only at h3 h4 h5 h6 h7 h8
  have w1 : IntKind.i64.wrap dc = dc := IntWalk.i64_in _ ⟨by omega, by omega⟩
  have w2 : IntKind.i64.wrap dr = dr := IntWalk.i64_in _ ⟨by omega, by omega⟩
  have w3 : IntKind.i64.wrap (c + dc) = c + dc := IntWalk.i64_in _ ⟨by omega, by omega⟩
  have w4 : IntKind.i64.wrap (r + dr) = r + dr := IntWalk.i64_in _ ⟨by omega, by omega⟩
  clear h3 h4 h5 h6 h7 h8 g1 g2 g3 g4
  obtain ⟨sc, hsc⟩ : ∃ d, c + dc = d := ⟨_, rfl⟩
  obtain ⟨sr, hsr⟩ : ∃ d, r + dr = d := ⟨_, rfl⟩
  unfold movR Rf.val
  simp only [hsc, hsr] at w3 w4 ⊢
  obtain ⟨l0, l1, l2⟩ := h1.cell
  obtain ⟨m0, m1, m2⟩ := h2.cell
  have hb1 : b1 < w.heap.size := blk_lt h1
  have hb2 : b2 < w.heap.size := blk_lt h2
  have n1 : b1 ≠ w.heap.size := by omega
  have n2 : b2 ≠ w.heap.size := by omega
  have n3 : b1 ≠ w.heap.size + 1 := by omega
  have n4 : b2 ≠ w.heap.size + 1 := by omega
  have hE := Ext.refl w
  clear h1 h2
  cases x <;> cases y
  all_goals
    simp only [Bool.false_eq_true, if_false, if_true]
    go_enter Tryd.func32, Tryd.ntmps32
    go_wp2_with fail
  · refine bodyPost_ret (v := (.agg #[.int .i64 s, .int .i64 sc, .int .i64 sr, .bool false, .bool false])) (by simp [results, Tryd.results32, go_sem, *]) rfl ⟨rfl, ?_⟩; repeat (first | with_reducible assumption | (with_reducible refine below_set ?_ (by first | omega | (simp only [World.size_alloc]; omega))) | (with_reducible refine below_row ?_ (by first | omega | (simp only [World.size_alloc]; omega))) | (with_reducible refine below_drewN ?_ _) | (with_reducible refine below_drew1 ?_) | (with_reducible refine ext_alloc ?_ _))
  · refine bodyPost_ret (v := (.agg #[.int .i64 s, .int .i64 sc, .int .i64 r, .bool false, .bool true])) (by simp [results, Tryd.results32, go_sem, *]) rfl ⟨rfl, ?_⟩; repeat (first | with_reducible assumption | (with_reducible refine below_set ?_ (by first | omega | (simp only [World.size_alloc]; omega))) | (with_reducible refine below_row ?_ (by first | omega | (simp only [World.size_alloc]; omega))) | (with_reducible refine below_drewN ?_ _) | (with_reducible refine below_drew1 ?_) | (with_reducible refine ext_alloc ?_ _))
  · refine bodyPost_ret (v := (.agg #[.int .i64 s, .int .i64 c, .int .i64 sr, .bool true, .bool false])) (by simp [results, Tryd.results32, go_sem, *]) rfl ⟨rfl, ?_⟩; repeat (first | with_reducible assumption | (with_reducible refine below_set ?_ (by first | omega | (simp only [World.size_alloc]; omega))) | (with_reducible refine below_row ?_ (by first | omega | (simp only [World.size_alloc]; omega))) | (with_reducible refine below_drewN ?_ _) | (with_reducible refine below_drew1 ?_) | (with_reducible refine ext_alloc ?_ _))
  · refine bodyPost_ret (v := (.agg #[.int .i64 s, .int .i64 c, .int .i64 r, .bool true, .bool true])) (by simp [results, Tryd.results32, go_sem, *]) rfl ⟨rfl, ?_⟩; repeat (first | with_reducible assumption | (with_reducible refine below_set ?_ (by first | omega | (simp only [World.size_alloc]; omega))) | (with_reducible refine below_row ?_ (by first | omega | (simp only [World.size_alloc]; omega))) | (with_reducible refine below_drewN ?_ _) | (with_reducible refine below_drew1 ?_) | (with_reducible refine ext_alloc ?_ _))
/-- A leaf as it is copied. -/
def goneS : Sc := litS 4 3 ⟨#[]⟩
def copyS (dc dr : Int) (s : Sc) : Sc :=
  if s.k = 3 then (if insV (movR dc dr s.B).s (movR dc dr s.B).c (movR dc dr s.B).r then (if insV (movR dc dr s.A).s (movR dc dr s.A).c (movR dc dr s.A).r then { s with A := movR dc dr s.A, B := movR dc dr s.B } else goneS) else goneS)
  else if s.k = 2 then (if insV (movR dc dr s.A).s (movR dc dr s.A).c (movR dc dr s.A).r then { s with A := movR dc dr s.A } else goneS) else s
/-- Block b holds a function. -/
def FnAt (b : Nat) (v : Value) (W : World) : Prop := ∃ t, W.heap[b]? = some (.cells #[v] t (0, 0))
theorem FnAt.ext {b : Nat} {v : Value} {W w : World} (h : FnAt b v W) (hE : Ext W w) : FnAt b v w := let ⟨t, h⟩ := h; ⟨t, hE.blk h⟩
theorem FnAt.cell {b : Nat} {v : Value} {W : World} (h : FnAt b v W) : W.cell? ⟨b, 0, none⟩ = some v := by obtain ⟨t, h⟩ := h; rw [cell_of_row W b 0 _ _ _ h]; rfl
theorem FnAt.lt {b : Nat} {v : Value} {W : World} (h : FnAt b v W) : b < W.heap.size := by obtain ⟨t, h⟩ := h; exact blk_lt h
/-- What Copy's closure finds. -/
def CopyAt (b1 b2 b3 : Nat) (ts tc tr fs fc fr : Int) (W : World) : Prop := CellAt b1 ts tc tr W ∧ CellAt b2 fs fc fr W ∧ FnAt b3 (.func (Fn.func 32) #[] #[.pointer (some ⟨b1, 0, none⟩), .pointer (some ⟨b2, 0, none⟩)]) W
theorem CopyAt.ext {b1 b2 b3 : Nat} {ts tc tr fs fc fr : Int} {W w : World} (h : CopyAt b1 b2 b3 ts tc tr fs fc fr W) (hE : Ext W w) : CopyAt b1 b2 b3 ts tc tr fs fc fr w := ⟨h.1.ext hE, h.2.1.ext hE, h.2.2.ext hE⟩
theorem CopyAt.keep {b1 b2 b3 : Nat} {ts tc tr fs fc fr : Int} {W w : World} {B : Nat} (h : CopyAt b1 b2 b3 ts tc tr fs fc fr W) (hB : b1 < B ∧ b2 < B ∧ b3 < B) {g : Nat} (hg : B ≤ g) (hk : ∀ k, k ≠ g → w.heap[k]? = W.heap[k]?) : CopyAt b1 b2 b3 ts tc tr fs fc fr w := by
  obtain ⟨h1, h2, t, h3⟩ := h
  exact ⟨(hk b1 (by omega)).trans h1, (hk b2 (by omega)).trans h2, t, (hk b3 (by omega)).trans h3⟩
set_option maxRecDepth 100000 in
set_option maxHeartbeats 8000000 in
theorem copy2_turns (b1 b2 b3 : Nat) (ts tc tr fs fc fr dc dr : Int) (hc : tc - fc = dc) (hrr : tr - fr = dr) (hd : (-1000 ≤ dc ∧ dc ≤ 1000) ∧ -1000 ≤ dr ∧ dr ≤ 1000) :
    TurnerG 33 #[] #[.pointer (some ⟨b3, 0, none⟩)] (fun s => .mk (copyS dc dr s) []) Gc (CopyAt b1 b2 b3 ts tc tr fs fc fr) := by
  intro W s p cap hs hG hJ
  obtain ⟨k, op, vk, vn, vs, ⟨u1, u2, u3, u4, u5⟩, ⟨v1, v2, v3, v4, v5⟩, nm⟩ := s
  obtain ⟨W1, hW1, hE1, hG1, hL1, hS1⟩ := new_blk W #[.int .i64 k, .int .i64 op, .int .i64 vk, .int .i64 vn, .string vs, .int .i64 u1, .int .i64 u2, .int .i64 u3, .bool u4, .bool u5,
    .int .i64 v1, .int .i64 v2, .int .i64 v3, .bool v4, .bool v5, .string nm, .slice p 0 cap] 33
  obtain ⟨W2, hW2, hE2, hG2, hL2, hS2⟩ := new_blk W1 #[.int .i64 0, .int .i64 0, .int .i64 0, .int .i64 0, .string ⟨#[]⟩, .int .i64 0, .int .i64 0, .int .i64 0, .bool false, .bool false, .int .i64 0, .int .i64 0, .int .i64 0, .bool false, .bool false, .string ⟨#[]⟩, .slice none 0 0] 33
  obtain ⟨W3, hW3, hE3, hG3, hL3, hS3⟩ := new_blk W2 #[.int .i64 k, .int .i64 op, .int .i64 vk, .int .i64 vn, .string vs, .int .i64 u1, .int .i64 u2, .int .i64 u3, .bool u4, .bool u5,
    .int .i64 v1, .int .i64 v2, .int .i64 v3, .bool v4, .bool v5, .string nm, .slice p 0 cap] 33
  rw [hS1] at hG2
  rw [hS2, hS1] at hG3
  have HW1 := Lib.hid hW1
  have HW2 := Lib.hid hW2
  have HW3 := Lib.hid hW3
  have HE3 := Lib.hid ((hE1.trans hE2).trans hE3)
  have HJ := Lib.hid (hJ.ext ((hE1.trans hE2).trans hE3))
  have HBL : Hid (b1 < W.heap.size ∧ b2 < W.heap.size ∧ b3 < W.heap.size) := Lib.hid ⟨blk_lt hJ.1, blk_lt hJ.2.1, hJ.2.2.lt⟩
  have HG1 := Lib.hid ((hE2.trans hE3).blk hG1)
  have HG2 := Lib.hid (hE3.blk hG2)
  have HG3 := Lib.hid hG3
  have HS := Lib.hid hs
  have hgn1 := hE2.blk hG1
  have HSZ : Hid (W2.heap.size = W.heap.size + 1 + 1) := Lib.hid (by omega)
  have TA := Lib.hid (fun w hw => move_any b1 b2 ts tc tr fs fc fr dc dr ⟨u1, u2, u3, u4, u5⟩ w hG.1 (hw : CopyAt b1 b2 b3 ts tc tr fs fc fr w).1 hw.2.1 hc hrr hd)
  have TB := Lib.hid (fun w hw => move_any b1 b2 ts tc tr fs fc fr dc dr ⟨v1, v2, v3, v4, v5⟩ w hG.2 (hw : CopyAt b1 b2 b3 ts tc tr fs fc fr w).1 hw.2.1 hc hrr hd)
  clear hW1 hE1 hG1 hL1 hS1 hW2 hE2 hG2 hL2 hS2 hW3 hE3 hG3 hL3 hS3 hs hJ hG hd
  obtain ⟨A', hA'⟩ : ∃ A', movR dc dr ⟨u1, u2, u3, u4, u5⟩ = A' := ⟨_, rfl⟩
  obtain ⟨B', hB'⟩ : ∃ A', movR dc dr ⟨v1, v2, v3, v4, v5⟩ = A' := ⟨_, rfl⟩
  obtain ⟨za, hza⟩ : ∃ z, insV A'.s A'.c A'.r = z := ⟨_, rfl⟩
  obtain ⟨zb, hzb⟩ : ∃ z, insV B'.s B'.c B'.r = z := ⟨_, rfl⟩
  have HV : Hid (copyS dc dr ⟨k, op, vk, vn, vs, ⟨u1, u2, u3, u4, u5⟩, ⟨v1, v2, v3, v4, v5⟩, nm⟩ = if k = 3 then (if zb then (if za then ⟨k, op, vk, vn, vs, A', B', nm⟩ else goneS) else goneS) else if k = 2 then (if za then ⟨k, op, vk, vn, vs, A', ⟨v1, v2, v3, v4, v5⟩, nm⟩ else goneS) else ⟨k, op, vk, vn, vs, ⟨u1, u2, u3, u4, u5⟩, ⟨v1, v2, v3, v4, v5⟩, nm⟩) := Lib.hid (by
    unfold copyS
    simp only [hA', hB', hza, hzb])
  rw [hA'] at TA
  rw [hB'] at TB
  clear hA' hB'
  obtain ⟨a1, a2, a3, a4, a5⟩ := A'
  obtain ⟨e1, e2, e3, e4, e5⟩ := B'
  have IA := Lib.hid (fun w => aright_any a1 a2 a3 w)
  have IB := Lib.hid (fun w => aright_any e1 e2 e3 w)
  simp only at hza hzb
  rw [hza] at IA
  rw [hzb] at IB
  clear hza hzb
  change Calls _ _ #[.agg #[.int .i64 k, .int .i64 op, .int .i64 vk, .int .i64 vn, .string vs, .int .i64 u1, .int .i64 u2, .int .i64 u3, .bool u4, .bool u5,
    .int .i64 v1, .int .i64 v2, .int .i64 v3, .bool v4, .bool v5, .string nm, .slice p 0 cap], .pointer (some ⟨b3, 0, none⟩)] W _
  by_cases k3 : k = 3
  · subst k3
    go_enter Tryd.func33, Tryd.ntmps33
    go_upto_region 1 with (fail)
    rw [HW1.out, HW2.out]
    go_upto_region 2 with (first | ((with_reducible refine wpl_guard (isLoad 33) ?_ ?_); (· rfl); refine wpl_load (t := ?_) (cs := ?_) (fr := ?_) rfl 33 _ rfl rfl ?_ Tryd.underlying33 rfl ?_ ?_; rotate_left 3; (· (first | (with_reducible assumption) | (simp (disch := (first | omega | (simp only [World.size_alloc, World.size_setCell, World.size_drew, size_setRow]; done) | (simp only [World.size_alloc, World.size_setCell, World.size_drew, size_setRow]; omega))) only [hq_at, hq_past, hq_drew, hq_drewN, hq_cell, hq_row, hq_same, rowOf_cells, Option.map_some, *]; rfl) | (simp (disch := (first | omega | (simp only [World.size_alloc, World.size_setCell, World.size_drew, size_setRow]; done) | (simp only [World.size_alloc, World.size_setCell, World.size_drew, size_setRow]; omega))) only [hq_at, hq_past, hq_drew, hq_drewN, hq_cell, hq_row, hq_same, rowOf_cells, Option.map_some, *]))); (· kernel_rfl); (try dsimp only [Act.put, List.setIfInBounds_toArray, List.set_cons_zero, List.set_cons_succ])) | ((with_reducible refine wpl_guard (isStore 33) ?_ ?_); (· rfl); refine wpl_store (t := ?_) (old := ?_) (w' := ?_) rfl 33 _ _ rfl rfl rfl ?_ ?_ ?_ ?_ ?_ ?_; rotate_left 2; (· (first | (with_reducible assumption) | (simp (disch := (first | omega | (simp only [World.size_alloc, World.size_setCell, World.size_drew, size_setRow]; done) | (simp only [World.size_alloc, World.size_setCell, World.size_drew, size_setRow]; omega))) only [hq_at, hq_past, hq_drew, hq_drewN, hq_cell, hq_row, hq_same, rowOf_cells, Option.map_some, *]; rfl) | (simp (disch := (first | omega | (simp only [World.size_alloc, World.size_setCell, World.size_drew, size_setRow]; done) | (simp only [World.size_alloc, World.size_setCell, World.size_drew, size_setRow]; omega))) only [hq_at, hq_past, hq_drew, hq_drewN, hq_cell, hq_row, hq_same, rowOf_cells, Option.map_some, *]))); (· kernel_rfl); (· rfl); (· rfl); rotate_left 1; (· (first | (simp (disch := (first | omega | (simp only [World.size_alloc, World.size_setCell, World.size_drew, size_setRow]; done) | (simp only [World.size_alloc, World.size_setCell, World.size_drew, size_setRow]; omega))) only [setRow_at, setRow_past, setRow_drew]; rfl) | rfl))))
    rw [HW3.out, HSZ.out]
    clear HW1 HW2 HW3 hgn1
    have HJ0 := HJ
    have HG10 := HG1
    have HG20 := HG2
    have HG30 := HG3
    have HX0 := HE3
    have c3 := HJ.out.2.2.cell
    have b1f := ext_blk HG1.out
    have hr := Ext.refl W3
    go_wp2_with fail
    refine (TB.out _ HJ0.out).mono ?_
    rintro e w0a ⟨rfl, hE⟩
    have hgs : w0a.heap[W.heap.size + 1 + 1]? = some (.cells (⟨3, op, vk, vn, vs, ⟨u1, u2, u3, u4, u5⟩, ⟨v1, v2, v3, v4, v5⟩, nm, p, 0, cap⟩ : Fl).cells 33 (0, 0)) := hE.blk HG30.out
    obtain ⟨w1, hw4, hg4, hk4, hX4⟩ := put_fl hgs (⟨3, op, vk, vn, vs, ⟨u1, u2, u3, u4, u5⟩, ⟨e1, e2, e3, e4, e5⟩, nm, p, 0, cap⟩ : Fl)
    have HG31 := Lib.hid hg4
    have HG21 : Hid (w1.heap[W.heap.size + 1]? = _) := Lib.hid ((hk4 _ (by omega)).trans (hE.blk HG20.out))
    have HG11 : Hid (w1.heap[W.heap.size]? = _) := Lib.hid ((hk4 _ (by omega)).trans (hE.blk HG10.out))
    have HX1 : Hid (Ext W w1) := Lib.hid (hX4 W (HX0.out.trans hE) (by omega))
    have HJ1 : Hid (CopyAt b1 b2 b3 ts tc tr fs fc fr w1) := Lib.hid ((HJ0.out.ext hE).keep HBL.out (by omega) hk4)
    have b4 := ext_blk hg4
    have hr4 := Ext.refl w1
    simp only [Fl.cells] at b4
    clear hE hk4 hX4 b1f hr c3 hg4
    go_wp2_with (first | ((with_reducible refine wpl_guard (isStore 30) ?_ ?_); (· rfl); refine wpl_store_ref rfl _ _ rfl rfl (r := ⟨e1, e2, e3, e4, e5⟩) rfl hgs (.inr ⟨rfl, rfl⟩) hw4 ?_))
    clear hgs hw4 b4 hr4
    refine (IB.out _).mono ?_
    rintro e w1b ⟨rfl, hE⟩
    cases zb
    case false =>
      have HV2 : copyS dc dr ⟨3, op, vk, vn, vs, ⟨u1, u2, u3, u4, u5⟩, ⟨v1, v2, v3, v4, v5⟩, nm⟩ = goneS := by rw [HV.out]; rfl
      have HX := Lib.hid (HX1.out.trans hE)
      have hg2 := hE.blk HG21.out
      clear hE
      go_wp2_with fail
      refine (fail_any 3 _).mono ?_
      rintro e wy ⟨rfl, hE⟩
      go_wp2_with fail
      refine (tval_any 4 3 ⟨#[]⟩ _).mono ?_
      rintro e wz ⟨rfl, hE'⟩
      have hg3 := (hE.trans hE').blk hg2
      have HX' := Lib.hid (HX.out.trans (hE.trans hE'))
      clear hE hE' hg2
      unfold Fl.val
      go_wp2_with ((with_reducible refine wpl_guard (isStore 33) ?_ ?_); (· rfl); refine wpl_store (t := ?_) (old := ?_) (w' := ?_) rfl 33 _ _ rfl rfl rfl ?_ ?_ ?_ ?_ ?_ ?_; rotate_left 2; (· (first | (with_reducible assumption) | (simp (disch := (first | omega | (simp only [World.size_alloc, World.size_setCell, World.size_drew, size_setRow]; done) | (simp only [World.size_alloc, World.size_setCell, World.size_drew, size_setRow]; omega))) only [hq_at, hq_past, hq_drew, hq_drewN, hq_cell, hq_row, hq_same, rowOf_cells, Option.map_some, *]; rfl) | (simp (disch := (first | omega | (simp only [World.size_alloc, World.size_setCell, World.size_drew, size_setRow]; done) | (simp only [World.size_alloc, World.size_setCell, World.size_drew, size_setRow]; omega))) only [hq_at, hq_past, hq_drew, hq_drewN, hq_cell, hq_row, hq_same, rowOf_cells, Option.map_some, *]))); (· kernel_rfl); (· rfl); (· rfl); rotate_left 1; (· (first | (simp (disch := (first | omega | (simp only [World.size_alloc, World.size_setCell, World.size_drew, size_setRow]; done) | (simp only [World.size_alloc, World.size_setCell, World.size_drew, size_setRow]; omega))) only [setRow_at, setRow_past, setRow_drew]; rfl) | rfl)))
      have hg9 : (wz.setRow (W.heap.size + 1) (litF 4 3 ⟨#[]⟩).cells).heap[W.heap.size + 1]? = some (.cells (litF 4 3 ⟨#[]⟩).cells 33 (0, 0)) := by rw [hq_same rfl, hg3]; rfl
      refine ret_row rfl rfl hg9 Tryd.underlying33 rfl (by kernel_rfl) rfl ⟨⟨litF 4 3 ⟨#[]⟩, rfl, ?_⟩, below_row HX'.out (Nat.le_succ _)⟩
      rw [HV2]
      exact rep_lit ⟨by omega, by omega⟩ (by show 0 ≤ _; omega)
    have HJ1b := Lib.hid (HJ1.out.ext hE)
    have HG11b := Lib.hid (hE.blk HG11.out)
    have HG21b := Lib.hid (hE.blk HG21.out)
    have HG31b := Lib.hid (hE.blk HG31.out)
    have HX1b := Lib.hid (HX1.out.trans hE)
    clear hE
    obtain ⟨w2, hw2⟩ : ∃ w, w1b = w := ⟨_, rfl⟩
    have HJ2 : Hid (CopyAt b1 b2 b3 ts tc tr fs fc fr w2) := hw2 ▸ HJ1b
    have HG12 : Hid (w2.heap[W.heap.size]? = _) := hw2 ▸ HG11b
    have HG22 : Hid (w2.heap[W.heap.size + 1]? = _) := hw2 ▸ HG21b
    have HG32 : Hid (w2.heap[W.heap.size + 1 + 1]? = _) := hw2 ▸ HG31b
    have HX2 : Hid (Ext W w2) := hw2 ▸ HX1b
    subst hw2
    clear HJ1b HG11b HG21b HG31b HX1b
    have c3 := HJ2.out.2.2.cell
    have b1f := ext_blk HG12.out
    have hr := Ext.refl w1b
    go_wp2_with fail
    refine (TA.out _ HJ2.out).mono ?_
    rintro e w2a ⟨rfl, hE⟩
    have hgs : w2a.heap[W.heap.size + 1 + 1]? = some (.cells (⟨3, op, vk, vn, vs, ⟨u1, u2, u3, u4, u5⟩, ⟨e1, e2, e3, e4, e5⟩, nm, p, 0, cap⟩ : Fl).cells 33 (0, 0)) := hE.blk HG32.out
    obtain ⟨w3, hw4, hg4, hk4, hX4⟩ := put_fl hgs (⟨3, op, vk, vn, vs, ⟨a1, a2, a3, a4, a5⟩, ⟨e1, e2, e3, e4, e5⟩, nm, p, 0, cap⟩ : Fl)
    have HG33 := Lib.hid hg4
    have HG23 : Hid (w3.heap[W.heap.size + 1]? = _) := Lib.hid ((hk4 _ (by omega)).trans (hE.blk HG22.out))
    have HG13 : Hid (w3.heap[W.heap.size]? = _) := Lib.hid ((hk4 _ (by omega)).trans (hE.blk HG12.out))
    have HX3 : Hid (Ext W w3) := Lib.hid (hX4 W (HX2.out.trans hE) (by omega))
    have HJ3 : Hid (CopyAt b1 b2 b3 ts tc tr fs fc fr w3) := Lib.hid ((HJ2.out.ext hE).keep HBL.out (by omega) hk4)
    have b4 := ext_blk hg4
    have hr4 := Ext.refl w3
    simp only [Fl.cells] at b4
    clear hE hk4 hX4 b1f hr c3 hg4
    go_wp2_with (first | ((with_reducible refine wpl_guard (isStore 30) ?_ ?_); (· rfl); refine wpl_store_ref rfl _ _ rfl rfl (r := ⟨a1, a2, a3, a4, a5⟩) rfl hgs (.inl ⟨rfl, rfl⟩) hw4 ?_))
    clear hgs hw4 b4 hr4
    refine (IA.out _).mono ?_
    rintro e w3b ⟨rfl, hE⟩
    cases za
    case false =>
      have HV2 : copyS dc dr ⟨3, op, vk, vn, vs, ⟨u1, u2, u3, u4, u5⟩, ⟨v1, v2, v3, v4, v5⟩, nm⟩ = goneS := by rw [HV.out]; rfl
      have HX := Lib.hid (HX3.out.trans hE)
      have hg2 := hE.blk HG23.out
      clear hE
      go_wp2_with fail
      refine (fail_any 3 _).mono ?_
      rintro e wy ⟨rfl, hE⟩
      go_wp2_with fail
      refine (tval_any 4 3 ⟨#[]⟩ _).mono ?_
      rintro e wz ⟨rfl, hE'⟩
      have hg3 := (hE.trans hE').blk hg2
      have HX' := Lib.hid (HX.out.trans (hE.trans hE'))
      clear hE hE' hg2
      unfold Fl.val
      go_wp2_with ((with_reducible refine wpl_guard (isStore 33) ?_ ?_); (· rfl); refine wpl_store (t := ?_) (old := ?_) (w' := ?_) rfl 33 _ _ rfl rfl rfl ?_ ?_ ?_ ?_ ?_ ?_; rotate_left 2; (· (first | (with_reducible assumption) | (simp (disch := (first | omega | (simp only [World.size_alloc, World.size_setCell, World.size_drew, size_setRow]; done) | (simp only [World.size_alloc, World.size_setCell, World.size_drew, size_setRow]; omega))) only [hq_at, hq_past, hq_drew, hq_drewN, hq_cell, hq_row, hq_same, rowOf_cells, Option.map_some, *]; rfl) | (simp (disch := (first | omega | (simp only [World.size_alloc, World.size_setCell, World.size_drew, size_setRow]; done) | (simp only [World.size_alloc, World.size_setCell, World.size_drew, size_setRow]; omega))) only [hq_at, hq_past, hq_drew, hq_drewN, hq_cell, hq_row, hq_same, rowOf_cells, Option.map_some, *]))); (· kernel_rfl); (· rfl); (· rfl); rotate_left 1; (· (first | (simp (disch := (first | omega | (simp only [World.size_alloc, World.size_setCell, World.size_drew, size_setRow]; done) | (simp only [World.size_alloc, World.size_setCell, World.size_drew, size_setRow]; omega))) only [setRow_at, setRow_past, setRow_drew]; rfl) | rfl)))
      have hg9 : (wz.setRow (W.heap.size + 1) (litF 4 3 ⟨#[]⟩).cells).heap[W.heap.size + 1]? = some (.cells (litF 4 3 ⟨#[]⟩).cells 33 (0, 0)) := by rw [hq_same rfl, hg3]; rfl
      refine ret_row rfl rfl hg9 Tryd.underlying33 rfl (by kernel_rfl) rfl ⟨⟨litF 4 3 ⟨#[]⟩, rfl, ?_⟩, below_row HX'.out (Nat.le_succ _)⟩
      rw [HV2]
      exact rep_lit ⟨by omega, by omega⟩ (by show 0 ≤ _; omega)
    have HV2 : copyS dc dr ⟨3, op, vk, vn, vs, ⟨u1, u2, u3, u4, u5⟩, ⟨v1, v2, v3, v4, v5⟩, nm⟩ = ⟨3, op, vk, vn, vs, ⟨a1, a2, a3, a4, a5⟩, ⟨e1, e2, e3, e4, e5⟩, nm⟩ := by rw [HV.out]; rfl
    have HX := Lib.hid (HX3.out.trans hE)
    have hg2 := hE.blk HG23.out
    have hg3 := hE.blk HG33.out
    clear hE
    go_wp2_with (first | ((with_reducible refine wpl_guard (isLoad 33) ?_ ?_); (· rfl); refine wpl_load (t := ?_) (cs := ?_) (fr := ?_) rfl 33 _ rfl rfl ?_ Tryd.underlying33 rfl ?_ ?_; rotate_left 3; (· (first | (with_reducible assumption) | (simp (disch := (first | omega | (simp only [World.size_alloc, World.size_setCell, World.size_drew, size_setRow]; done) | (simp only [World.size_alloc, World.size_setCell, World.size_drew, size_setRow]; omega))) only [hq_at, hq_past, hq_drew, hq_drewN, hq_cell, hq_row, hq_same, rowOf_cells, Option.map_some, *]; rfl) | (simp (disch := (first | omega | (simp only [World.size_alloc, World.size_setCell, World.size_drew, size_setRow]; done) | (simp only [World.size_alloc, World.size_setCell, World.size_drew, size_setRow]; omega))) only [hq_at, hq_past, hq_drew, hq_drewN, hq_cell, hq_row, hq_same, rowOf_cells, Option.map_some, *]))); (· kernel_rfl); (try dsimp only [Act.put, List.setIfInBounds_toArray, List.set_cons_zero, List.set_cons_succ])) | ((with_reducible refine wpl_guard (isStore 33) ?_ ?_); (· rfl); refine wpl_store (t := ?_) (old := ?_) (w' := ?_) rfl 33 _ _ rfl rfl rfl ?_ ?_ ?_ ?_ ?_ ?_; rotate_left 2; (· (first | (with_reducible assumption) | (simp (disch := (first | omega | (simp only [World.size_alloc, World.size_setCell, World.size_drew, size_setRow]; done) | (simp only [World.size_alloc, World.size_setCell, World.size_drew, size_setRow]; omega))) only [hq_at, hq_past, hq_drew, hq_drewN, hq_cell, hq_row, hq_same, rowOf_cells, Option.map_some, *]; rfl) | (simp (disch := (first | omega | (simp only [World.size_alloc, World.size_setCell, World.size_drew, size_setRow]; done) | (simp only [World.size_alloc, World.size_setCell, World.size_drew, size_setRow]; omega))) only [hq_at, hq_past, hq_drew, hq_drewN, hq_cell, hq_row, hq_same, rowOf_cells, Option.map_some, *]))); (· kernel_rfl); (· rfl); (· rfl); rotate_left 1; (· (first | (simp (disch := (first | omega | (simp only [World.size_alloc, World.size_setCell, World.size_drew, size_setRow]; done) | (simp only [World.size_alloc, World.size_setCell, World.size_drew, size_setRow]; omega))) only [setRow_at, setRow_past, setRow_drew]; rfl) | rfl))))
    have hg9 : (w3b.setRow (W.heap.size + 1) (⟨3, op, vk, vn, vs, ⟨a1, a2, a3, a4, a5⟩, ⟨e1, e2, e3, e4, e5⟩, nm, p, 0, cap⟩ : Fl).cells).heap[W.heap.size + 1]? = some (.cells (⟨3, op, vk, vn, vs, ⟨a1, a2, a3, a4, a5⟩, ⟨e1, e2, e3, e4, e5⟩, nm, p, 0, cap⟩ : Fl).cells 33 (0, 0)) := by rw [hq_same rfl, hg2]; rfl
    refine ret_row rfl rfl hg9 Tryd.underlying33 rfl (by kernel_rfl) rfl ⟨⟨(⟨3, op, vk, vn, vs, ⟨a1, a2, a3, a4, a5⟩, ⟨e1, e2, e3, e4, e5⟩, nm, p, 0, cap⟩ : Fl), rfl, ?_⟩, below_row HX.out (Nat.le_succ _)⟩
    rw [HV2]
    exact Rep.leaf _ _ _ (by exact HS.out) p cap
  by_cases k2 : k = 2
  · subst k2
    go_enter Tryd.func33, Tryd.ntmps33
    go_upto_region 1 with (fail)
    rw [HW1.out, HW2.out]
    go_upto_region 2 with (first | ((with_reducible refine wpl_guard (isLoad 33) ?_ ?_); (· rfl); refine wpl_load (t := ?_) (cs := ?_) (fr := ?_) rfl 33 _ rfl rfl ?_ Tryd.underlying33 rfl ?_ ?_; rotate_left 3; (· (first | (with_reducible assumption) | (simp (disch := (first | omega | (simp only [World.size_alloc, World.size_setCell, World.size_drew, size_setRow]; done) | (simp only [World.size_alloc, World.size_setCell, World.size_drew, size_setRow]; omega))) only [hq_at, hq_past, hq_drew, hq_drewN, hq_cell, hq_row, hq_same, rowOf_cells, Option.map_some, *]; rfl) | (simp (disch := (first | omega | (simp only [World.size_alloc, World.size_setCell, World.size_drew, size_setRow]; done) | (simp only [World.size_alloc, World.size_setCell, World.size_drew, size_setRow]; omega))) only [hq_at, hq_past, hq_drew, hq_drewN, hq_cell, hq_row, hq_same, rowOf_cells, Option.map_some, *]))); (· kernel_rfl); (try dsimp only [Act.put, List.setIfInBounds_toArray, List.set_cons_zero, List.set_cons_succ])) | ((with_reducible refine wpl_guard (isStore 33) ?_ ?_); (· rfl); refine wpl_store (t := ?_) (old := ?_) (w' := ?_) rfl 33 _ _ rfl rfl rfl ?_ ?_ ?_ ?_ ?_ ?_; rotate_left 2; (· (first | (with_reducible assumption) | (simp (disch := (first | omega | (simp only [World.size_alloc, World.size_setCell, World.size_drew, size_setRow]; done) | (simp only [World.size_alloc, World.size_setCell, World.size_drew, size_setRow]; omega))) only [hq_at, hq_past, hq_drew, hq_drewN, hq_cell, hq_row, hq_same, rowOf_cells, Option.map_some, *]; rfl) | (simp (disch := (first | omega | (simp only [World.size_alloc, World.size_setCell, World.size_drew, size_setRow]; done) | (simp only [World.size_alloc, World.size_setCell, World.size_drew, size_setRow]; omega))) only [hq_at, hq_past, hq_drew, hq_drewN, hq_cell, hq_row, hq_same, rowOf_cells, Option.map_some, *]))); (· kernel_rfl); (· rfl); (· rfl); rotate_left 1; (· (first | (simp (disch := (first | omega | (simp only [World.size_alloc, World.size_setCell, World.size_drew, size_setRow]; done) | (simp only [World.size_alloc, World.size_setCell, World.size_drew, size_setRow]; omega))) only [setRow_at, setRow_past, setRow_drew]; rfl) | rfl))))
    rw [HW3.out, HSZ.out]
    clear HW1 HW2 HW3 hgn1
    have HJ0 := HJ
    have HG10 := HG1
    have HG20 := HG2
    have HG30 := HG3
    have HX0 := HE3
    have c3 := HJ.out.2.2.cell
    have b1f := ext_blk HG1.out
    have hr := Ext.refl W3
    go_wp2_with fail
    refine (TA.out _ HJ0.out).mono ?_
    rintro e w0a ⟨rfl, hE⟩
    have hgs : w0a.heap[W.heap.size + 1 + 1]? = some (.cells (⟨2, op, vk, vn, vs, ⟨u1, u2, u3, u4, u5⟩, ⟨v1, v2, v3, v4, v5⟩, nm, p, 0, cap⟩ : Fl).cells 33 (0, 0)) := hE.blk HG30.out
    obtain ⟨w1, hw4, hg4, hk4, hX4⟩ := put_fl hgs (⟨2, op, vk, vn, vs, ⟨a1, a2, a3, a4, a5⟩, ⟨v1, v2, v3, v4, v5⟩, nm, p, 0, cap⟩ : Fl)
    have HG31 := Lib.hid hg4
    have HG21 : Hid (w1.heap[W.heap.size + 1]? = _) := Lib.hid ((hk4 _ (by omega)).trans (hE.blk HG20.out))
    have HG11 : Hid (w1.heap[W.heap.size]? = _) := Lib.hid ((hk4 _ (by omega)).trans (hE.blk HG10.out))
    have HX1 : Hid (Ext W w1) := Lib.hid (hX4 W (HX0.out.trans hE) (by omega))
    have HJ1 : Hid (CopyAt b1 b2 b3 ts tc tr fs fc fr w1) := Lib.hid ((HJ0.out.ext hE).keep HBL.out (by omega) hk4)
    have b4 := ext_blk hg4
    have hr4 := Ext.refl w1
    simp only [Fl.cells] at b4
    clear hE hk4 hX4 b1f hr c3 hg4
    go_wp2_with (first | ((with_reducible refine wpl_guard (isStore 30) ?_ ?_); (· rfl); refine wpl_store_ref rfl _ _ rfl rfl (r := ⟨a1, a2, a3, a4, a5⟩) rfl hgs (.inl ⟨rfl, rfl⟩) hw4 ?_))
    clear hgs hw4 b4 hr4
    refine (IA.out _).mono ?_
    rintro e w1b ⟨rfl, hE⟩
    cases za
    case false =>
      have HV2 : copyS dc dr ⟨2, op, vk, vn, vs, ⟨u1, u2, u3, u4, u5⟩, ⟨v1, v2, v3, v4, v5⟩, nm⟩ = goneS := by rw [HV.out]; rfl
      have HX := Lib.hid (HX1.out.trans hE)
      have hg2 := hE.blk HG21.out
      clear hE
      go_wp2_with fail
      refine (fail_any 3 _).mono ?_
      rintro e wy ⟨rfl, hE⟩
      go_wp2_with fail
      refine (tval_any 4 3 ⟨#[]⟩ _).mono ?_
      rintro e wz ⟨rfl, hE'⟩
      have hg3 := (hE.trans hE').blk hg2
      have HX' := Lib.hid (HX.out.trans (hE.trans hE'))
      clear hE hE' hg2
      unfold Fl.val
      go_wp2_with ((with_reducible refine wpl_guard (isStore 33) ?_ ?_); (· rfl); refine wpl_store (t := ?_) (old := ?_) (w' := ?_) rfl 33 _ _ rfl rfl rfl ?_ ?_ ?_ ?_ ?_ ?_; rotate_left 2; (· (first | (with_reducible assumption) | (simp (disch := (first | omega | (simp only [World.size_alloc, World.size_setCell, World.size_drew, size_setRow]; done) | (simp only [World.size_alloc, World.size_setCell, World.size_drew, size_setRow]; omega))) only [hq_at, hq_past, hq_drew, hq_drewN, hq_cell, hq_row, hq_same, rowOf_cells, Option.map_some, *]; rfl) | (simp (disch := (first | omega | (simp only [World.size_alloc, World.size_setCell, World.size_drew, size_setRow]; done) | (simp only [World.size_alloc, World.size_setCell, World.size_drew, size_setRow]; omega))) only [hq_at, hq_past, hq_drew, hq_drewN, hq_cell, hq_row, hq_same, rowOf_cells, Option.map_some, *]))); (· kernel_rfl); (· rfl); (· rfl); rotate_left 1; (· (first | (simp (disch := (first | omega | (simp only [World.size_alloc, World.size_setCell, World.size_drew, size_setRow]; done) | (simp only [World.size_alloc, World.size_setCell, World.size_drew, size_setRow]; omega))) only [setRow_at, setRow_past, setRow_drew]; rfl) | rfl)))
      have hg9 : (wz.setRow (W.heap.size + 1) (litF 4 3 ⟨#[]⟩).cells).heap[W.heap.size + 1]? = some (.cells (litF 4 3 ⟨#[]⟩).cells 33 (0, 0)) := by rw [hq_same rfl, hg3]; rfl
      refine ret_row rfl rfl hg9 Tryd.underlying33 rfl (by kernel_rfl) rfl ⟨⟨litF 4 3 ⟨#[]⟩, rfl, ?_⟩, below_row HX'.out (Nat.le_succ _)⟩
      rw [HV2]
      exact rep_lit ⟨by omega, by omega⟩ (by show 0 ≤ _; omega)
    have HV2 : copyS dc dr ⟨2, op, vk, vn, vs, ⟨u1, u2, u3, u4, u5⟩, ⟨v1, v2, v3, v4, v5⟩, nm⟩ = ⟨2, op, vk, vn, vs, ⟨a1, a2, a3, a4, a5⟩, ⟨v1, v2, v3, v4, v5⟩, nm⟩ := by rw [HV.out]; rfl
    have HX := Lib.hid (HX1.out.trans hE)
    have hg2 := hE.blk HG21.out
    have hg3 := hE.blk HG31.out
    clear hE
    go_wp2_with (first | ((with_reducible refine wpl_guard (isLoad 33) ?_ ?_); (· rfl); refine wpl_load (t := ?_) (cs := ?_) (fr := ?_) rfl 33 _ rfl rfl ?_ Tryd.underlying33 rfl ?_ ?_; rotate_left 3; (· (first | (with_reducible assumption) | (simp (disch := (first | omega | (simp only [World.size_alloc, World.size_setCell, World.size_drew, size_setRow]; done) | (simp only [World.size_alloc, World.size_setCell, World.size_drew, size_setRow]; omega))) only [hq_at, hq_past, hq_drew, hq_drewN, hq_cell, hq_row, hq_same, rowOf_cells, Option.map_some, *]; rfl) | (simp (disch := (first | omega | (simp only [World.size_alloc, World.size_setCell, World.size_drew, size_setRow]; done) | (simp only [World.size_alloc, World.size_setCell, World.size_drew, size_setRow]; omega))) only [hq_at, hq_past, hq_drew, hq_drewN, hq_cell, hq_row, hq_same, rowOf_cells, Option.map_some, *]))); (· kernel_rfl); (try dsimp only [Act.put, List.setIfInBounds_toArray, List.set_cons_zero, List.set_cons_succ])) | ((with_reducible refine wpl_guard (isStore 33) ?_ ?_); (· rfl); refine wpl_store (t := ?_) (old := ?_) (w' := ?_) rfl 33 _ _ rfl rfl rfl ?_ ?_ ?_ ?_ ?_ ?_; rotate_left 2; (· (first | (with_reducible assumption) | (simp (disch := (first | omega | (simp only [World.size_alloc, World.size_setCell, World.size_drew, size_setRow]; done) | (simp only [World.size_alloc, World.size_setCell, World.size_drew, size_setRow]; omega))) only [hq_at, hq_past, hq_drew, hq_drewN, hq_cell, hq_row, hq_same, rowOf_cells, Option.map_some, *]; rfl) | (simp (disch := (first | omega | (simp only [World.size_alloc, World.size_setCell, World.size_drew, size_setRow]; done) | (simp only [World.size_alloc, World.size_setCell, World.size_drew, size_setRow]; omega))) only [hq_at, hq_past, hq_drew, hq_drewN, hq_cell, hq_row, hq_same, rowOf_cells, Option.map_some, *]))); (· kernel_rfl); (· rfl); (· rfl); rotate_left 1; (· (first | (simp (disch := (first | omega | (simp only [World.size_alloc, World.size_setCell, World.size_drew, size_setRow]; done) | (simp only [World.size_alloc, World.size_setCell, World.size_drew, size_setRow]; omega))) only [setRow_at, setRow_past, setRow_drew]; rfl) | rfl))))
    have hg9 : (w1b.setRow (W.heap.size + 1) (⟨2, op, vk, vn, vs, ⟨a1, a2, a3, a4, a5⟩, ⟨v1, v2, v3, v4, v5⟩, nm, p, 0, cap⟩ : Fl).cells).heap[W.heap.size + 1]? = some (.cells (⟨2, op, vk, vn, vs, ⟨a1, a2, a3, a4, a5⟩, ⟨v1, v2, v3, v4, v5⟩, nm, p, 0, cap⟩ : Fl).cells 33 (0, 0)) := by rw [hq_same rfl, hg2]; rfl
    refine ret_row rfl rfl hg9 Tryd.underlying33 rfl (by kernel_rfl) rfl ⟨⟨(⟨2, op, vk, vn, vs, ⟨a1, a2, a3, a4, a5⟩, ⟨v1, v2, v3, v4, v5⟩, nm, p, 0, cap⟩ : Fl), rfl, ?_⟩, below_row HX.out (Nat.le_succ _)⟩
    rw [HV2]
    exact Rep.leaf _ _ _ (by exact HS.out) p cap
  have HV2 : copyS dc dr ⟨k, op, vk, vn, vs, ⟨u1, u2, u3, u4, u5⟩, ⟨v1, v2, v3, v4, v5⟩, nm⟩ = ⟨k, op, vk, vn, vs, ⟨u1, u2, u3, u4, u5⟩, ⟨v1, v2, v3, v4, v5⟩, nm⟩ := by rw [HV.out, if_neg k3, if_neg k2]
  have HV3 := Lib.hid HV2
  have q2 : (k == 2) = false := by simpa using k2
  have q3 : (k == 3) = false := by simpa using k3
  clear HV HV2 k2 k3
  go_enter Tryd.func33, Tryd.ntmps33
  go_upto_region 1 with (fail)
  rw [HW1.out, HW2.out]
  go_upto_region 2 with (first | ((with_reducible refine wpl_guard (isLoad 33) ?_ ?_); (· rfl); refine wpl_load (t := ?_) (cs := ?_) (fr := ?_) rfl 33 _ rfl rfl ?_ Tryd.underlying33 rfl ?_ ?_; rotate_left 3; (· (first | (with_reducible assumption) | (simp (disch := (first | omega | (simp only [World.size_alloc, World.size_setCell, World.size_drew, size_setRow]; done) | (simp only [World.size_alloc, World.size_setCell, World.size_drew, size_setRow]; omega))) only [hq_at, hq_past, hq_drew, hq_drewN, hq_cell, hq_row, hq_same, rowOf_cells, Option.map_some, *]; rfl) | (simp (disch := (first | omega | (simp only [World.size_alloc, World.size_setCell, World.size_drew, size_setRow]; done) | (simp only [World.size_alloc, World.size_setCell, World.size_drew, size_setRow]; omega))) only [hq_at, hq_past, hq_drew, hq_drewN, hq_cell, hq_row, hq_same, rowOf_cells, Option.map_some, *]))); (· kernel_rfl); (try dsimp only [Act.put, List.setIfInBounds_toArray, List.set_cons_zero, List.set_cons_succ])) | ((with_reducible refine wpl_guard (isStore 33) ?_ ?_); (· rfl); refine wpl_store (t := ?_) (old := ?_) (w' := ?_) rfl 33 _ _ rfl rfl rfl ?_ ?_ ?_ ?_ ?_ ?_; rotate_left 2; (· (first | (with_reducible assumption) | (simp (disch := (first | omega | (simp only [World.size_alloc, World.size_setCell, World.size_drew, size_setRow]; done) | (simp only [World.size_alloc, World.size_setCell, World.size_drew, size_setRow]; omega))) only [hq_at, hq_past, hq_drew, hq_drewN, hq_cell, hq_row, hq_same, rowOf_cells, Option.map_some, *]; rfl) | (simp (disch := (first | omega | (simp only [World.size_alloc, World.size_setCell, World.size_drew, size_setRow]; done) | (simp only [World.size_alloc, World.size_setCell, World.size_drew, size_setRow]; omega))) only [hq_at, hq_past, hq_drew, hq_drewN, hq_cell, hq_row, hq_same, rowOf_cells, Option.map_some, *]))); (· kernel_rfl); (· rfl); (· rfl); rotate_left 1; (· (first | (simp (disch := (first | omega | (simp only [World.size_alloc, World.size_setCell, World.size_drew, size_setRow]; done) | (simp only [World.size_alloc, World.size_setCell, World.size_drew, size_setRow]; omega))) only [setRow_at, setRow_past, setRow_drew]; rfl) | rfl))))
  rw [HW3.out, HSZ.out]
  clear HW1 HW2 HW3 hgn1
  have hg1 := HG1.out
  have hg2 := HG2.out
  have hg3 := HG3.out
  have c0 : W3.cell? ⟨W.heap.size, 0, none⟩ = some (.int .i64 k) := by rw [cell_of_row W3 W.heap.size 0 _ _ _ hg1]; rfl
  go_wp2_with (first | ((with_reducible refine wpl_guard (isLoad 33) ?_ ?_); (· rfl); refine wpl_load (t := ?_) (cs := ?_) (fr := ?_) rfl 33 _ rfl rfl ?_ Tryd.underlying33 rfl ?_ ?_; rotate_left 3; (· (first | (with_reducible assumption) | (simp (disch := (first | omega | (simp only [World.size_alloc, World.size_setCell, World.size_drew, size_setRow]; done) | (simp only [World.size_alloc, World.size_setCell, World.size_drew, size_setRow]; omega))) only [hq_at, hq_past, hq_drew, hq_drewN, hq_cell, hq_row, hq_same, rowOf_cells, Option.map_some, *]; rfl) | (simp (disch := (first | omega | (simp only [World.size_alloc, World.size_setCell, World.size_drew, size_setRow]; done) | (simp only [World.size_alloc, World.size_setCell, World.size_drew, size_setRow]; omega))) only [hq_at, hq_past, hq_drew, hq_drewN, hq_cell, hq_row, hq_same, rowOf_cells, Option.map_some, *]))); (· kernel_rfl); (try dsimp only [Act.put, List.setIfInBounds_toArray, List.set_cons_zero, List.set_cons_succ])) | ((with_reducible refine wpl_guard (isStore 33) ?_ ?_); (· rfl); refine wpl_store (t := ?_) (old := ?_) (w' := ?_) rfl 33 _ _ rfl rfl rfl ?_ ?_ ?_ ?_ ?_ ?_; rotate_left 2; (· (first | (with_reducible assumption) | (simp (disch := (first | omega | (simp only [World.size_alloc, World.size_setCell, World.size_drew, size_setRow]; done) | (simp only [World.size_alloc, World.size_setCell, World.size_drew, size_setRow]; omega))) only [hq_at, hq_past, hq_drew, hq_drewN, hq_cell, hq_row, hq_same, rowOf_cells, Option.map_some, *]; rfl) | (simp (disch := (first | omega | (simp only [World.size_alloc, World.size_setCell, World.size_drew, size_setRow]; done) | (simp only [World.size_alloc, World.size_setCell, World.size_drew, size_setRow]; omega))) only [hq_at, hq_past, hq_drew, hq_drewN, hq_cell, hq_row, hq_same, rowOf_cells, Option.map_some, *]))); (· kernel_rfl); (· rfl); (· rfl); rotate_left 1; (· (first | (simp (disch := (first | omega | (simp only [World.size_alloc, World.size_setCell, World.size_drew, size_setRow]; done) | (simp only [World.size_alloc, World.size_setCell, World.size_drew, size_setRow]; omega))) only [setRow_at, setRow_past, setRow_drew]; rfl) | rfl))))
  have hg9 : (W3.setRow (W.heap.size + 1) (⟨k, op, vk, vn, vs, ⟨u1, u2, u3, u4, u5⟩, ⟨v1, v2, v3, v4, v5⟩, nm, p, 0, cap⟩ : Fl).cells).heap[W.heap.size + 1]? = some (.cells (⟨k, op, vk, vn, vs, ⟨u1, u2, u3, u4, u5⟩, ⟨v1, v2, v3, v4, v5⟩, nm, p, 0, cap⟩ : Fl).cells 33 (0, 0)) := by rw [hq_same rfl, hg2]; rfl
  refine ret_row rfl rfl hg9 Tryd.underlying33 rfl (by kernel_rfl) rfl ⟨⟨(⟨k, op, vk, vn, vs, ⟨u1, u2, u3, u4, u5⟩, ⟨v1, v2, v3, v4, v5⟩, nm, p, 0, cap⟩ : Fl), rfl, ?_⟩, below_row HE3.out (Nat.le_succ _)⟩
  rw [HV3.out]
  exact Rep.leaf _ _ _ (by exact HS.out) p cap
def Fl.sc (f : Fl) : Sc := ⟨f.k, f.op, f.vk, f.vn, f.vs, f.A, f.B, f.nm⟩
/-- A leaf behind an edit. -/
def leafS (s : Int) (c d : Bool) (a : Int) (x : Sc) : Sc := (leafV s c d a (x.fl none 0 0)).sc
theorem leafV_one {s : Int} {c d : Bool} {a : Int} {n : Fl} (h : n.k = 2) : leafV s c d a n = if celB s c d a n.A.s n.A.c n.A.r then n.movA (celC s c d a n.A.s n.A.c) (celR s c d a n.A.s n.A.r) else goneF := by unfold leafV; rw [if_pos h]
theorem leafV_oth {s : Int} {c d : Bool} {a : Int} {n : Fl} (h : n.k ≠ 2) (h3 : ¬ (n.k = 3 ∧ n.A.s = s)) : leafV s c d a n = n := by unfold leafV; rw [if_neg h, if_neg h3]
def arP (c : Bool) (A : Rf) : Int := if c then A.c else A.r
def arLo (p q : Int) : Int := if q < p then q else p
def arHi (p q : Int) : Int := if q < p then p else q
def arM (c : Bool) : Int := if c then 26 else 99
theorem leafV_area {s : Int} {c d : Bool} {a : Int} {n : Fl} (h : n.k ≠ 2) (h3 : n.k = 3 ∧ n.A.s = s) : leafV s c d a n = areaV n c (decide (arP c n.B < arP c n.A))
    (spX d (oneB d a (arLo (arP c n.A) (arP c n.B)) (arM c)) (oneB d a (arHi (arP c n.A) (arP c n.B)) (arM c)) (oneV d a (arLo (arP c n.A) (arP c n.B))) (arLo (arP c n.A) (arP c n.B)) (arHi (arP c n.A) (arP c n.B)))
    (spY d (oneB d a (arLo (arP c n.A) (arP c n.B)) (arM c)) (oneB d a (arHi (arP c n.A) (arP c n.B)) (arM c)) (oneV d a (arHi (arP c n.A) (arP c n.B))) (arLo (arP c n.A) (arP c n.B)) (arHi (arP c n.A) (arP c n.B)) (arM c))
    (spB d (oneB d a (arLo (arP c n.A) (arP c n.B)) (arM c)) (oneB d a (arHi (arP c n.A) (arP c n.B)) (arM c)) (oneV d a (arLo (arP c n.A) (arP c n.B))) (oneV d a (arHi (arP c n.A) (arP c n.B))) (arLo (arP c n.A) (arP c n.B)) (arHi (arP c n.A) (arP c n.B)) (arM c)) := by
  unfold leafV; rw [if_neg h, if_pos h3]; rfl
theorem leafV_fl (s : Int) (c d : Bool) (a : Int) (x : Sc) (p : Option Addr) (cap : Nat) : ∃ p' cap', leafV s c d a (x.fl p 0 cap) = (leafS s c d a x).fl p' 0 cap' := by
  unfold leafS
  by_cases h2 : x.k = 2
  · rw [leafV_one (n := x.fl p 0 cap) h2, leafV_one (n := x.fl none 0 0) h2]
    show ∃ p' cap', (if celB s c d a x.A.s x.A.c x.A.r then _ else _) = (Fl.sc (if celB s c d a x.A.s x.A.c x.A.r then _ else _)).fl p' 0 cap'
    cases celB s c d a x.A.s x.A.c x.A.r
    · exact ⟨none, 0, rfl⟩
    · exact ⟨p, cap, rfl⟩
  · by_cases h3 : x.k = 3 ∧ x.A.s = s
    · rw [leafV_area (n := x.fl p 0 cap) h2 h3, leafV_area (n := x.fl none 0 0) h2 h3]
      show ∃ p' cap', areaV (x.fl p 0 cap) c _ _ _ (spB d (oneB d a (arLo (arP c x.A) (arP c x.B)) (arM c)) (oneB d a (arHi (arP c x.A) (arP c x.B)) (arM c)) (oneV d a (arLo (arP c x.A) (arP c x.B))) (oneV d a (arHi (arP c x.A) (arP c x.B))) (arLo (arP c x.A) (arP c x.B)) (arHi (arP c x.A) (arP c x.B)) (arM c)) = (Fl.sc (areaV (x.fl none 0 0) c _ _ _ (spB d (oneB d a (arLo (arP c x.A) (arP c x.B)) (arM c)) (oneB d a (arHi (arP c x.A) (arP c x.B)) (arM c)) (oneV d a (arLo (arP c x.A) (arP c x.B))) (oneV d a (arHi (arP c x.A) (arP c x.B))) (arLo (arP c x.A) (arP c x.B)) (arHi (arP c x.A) (arP c x.B)) (arM c)))).fl p' 0 cap'
      cases spB d (oneB d a (arLo (arP c x.A) (arP c x.B)) (arM c)) (oneB d a (arHi (arP c x.A) (arP c x.B)) (arM c)) (oneV d a (arLo (arP c x.A) (arP c x.B))) (oneV d a (arHi (arP c x.A) (arP c x.B))) (arLo (arP c x.A) (arP c x.B)) (arHi (arP c x.A) (arP c x.B)) (arM c)
      · exact ⟨none, 0, rfl⟩
      · cases c
        · exact ⟨p, cap, rfl⟩
        · exact ⟨p, cap, rfl⟩
    · rw [leafV_oth (n := x.fl p 0 cap) h2 h3, leafV_oth (n := x.fl none 0 0) h2 h3]
      exact ⟨p, cap, rfl⟩
theorem leafS_ok {s : Int} {c d : Bool} {a : Int} {x : Sc} (h : x.ok) : (leafS s c d a x).ok := by
  unfold leafS
  have hg : (Fl.sc goneF).ok := show (litS 4 3 ⟨#[]⟩).ok from litS_ok ⟨by omega, by omega⟩ (by show 0 ≤ _; omega)
  by_cases h2 : x.k = 2
  · rw [leafV_one (n := x.fl none 0 0) h2]
    split
    · exact h
    · exact hg
  · by_cases h3 : x.k = 3 ∧ x.A.s = s
    · rw [leafV_area (n := x.fl none 0 0) h2 h3]
      unfold areaV
      split
      · cases c <;> exact h
      · exact hg
    · rw [leafV_oth (n := x.fl none 0 0) h2 h3]; exact h
def Gl (x : Sc) : Prop := x.A.ok ∧ x.B.ok
theorem leaf_turns (s a : Int) (c d : Bool) : TurnerG 17 #[edV s c d a] #[] (fun x => .mk (leafS s c d a x) []) Gl (fun _ => True) := by
  intro W x p cap hs hG _
  obtain ⟨p', cap', e⟩ := leafV_fl s c d a x p cap
  have h := leaf_all s a c d (x.fl p 0 cap) W hG.1 hG.2
  rw [e] at h
  refine h.mono ?_
  rintro e w ⟨rfl, hE⟩
  exact ⟨⟨_, rfl, Rep.leaf _ _ _ (leafS_ok hs) p' cap'⟩, hE⟩
set_option maxRecDepth 100000 in
set_option maxHeartbeats 4000000 in
theorem formula8_any (s a : Int) (c d : Bool) (t : Tr) (f : Fl) (W : World) (hr : Rep W (fun _ => True) t f) (hG : LeafG Gl t) :
    Calls Tryd.prog 11 #[edV s c d a, f.val] W fun e w' => (∃ r, e = .returned r.val ∧ Rep w' (fun _ => True) (mapT (fun x => .mk (leafS s c d a x) []) t) r) ∧ Ext W w' := by
  obtain ⟨W1, hW1, hE1, hG1, hL1, hS1⟩ := new_blk W #[.int .i64 s, .bool c, .bool d, .int .i64 a] 36
  obtain ⟨W2, hW2, hE2, hG2, hL2, hS2⟩ := new_blk W1 f.cells 33
  obtain ⟨W3, hW3, hE3, hG3, hL3, hS3⟩ := new_blk W2 #[.int .i64 0, .int .i64 0, .int .i64 0, .int .i64 0, .string ⟨#[]⟩, .int .i64 0, .int .i64 0, .int .i64 0, .bool false, .bool false, .int .i64 0, .int .i64 0, .int .i64 0, .bool false, .bool false, .string ⟨#[]⟩, .slice none 0 0] 33
  rw [hS1] at hG2
  rw [hS2, hS1] at hG3
  have HW1 := Lib.hid hW1
  have HW2 := Lib.hid hW2
  have HW3 := Lib.hid hW3
  have HE3 := Lib.hid ((hE1.trans hE2).trans hE3)
  have hg2 := hE3.blk hG2
  have HG3 := Lib.hid hG3
  have hg3 : W3.heap[W.heap.size]? = some (.cells #[.int .i64 s, .bool c, .bool d, .int .i64 a] 36 (0, 0)) := (hE2.trans hE3).blk hG1
  have c0 : W3.cell? ⟨W.heap.size, 0, none⟩ = some (.int .i64 s) := by rw [cell_of_row W3 W.heap.size 0 _ _ _ hg3]; rfl
  have c1 : W3.cell? ⟨W.heap.size, 1, none⟩ = some (.bool c) := by rw [cell_of_row W3 W.heap.size 1 _ _ _ hg3]; rfl
  have c2 : W3.cell? ⟨W.heap.size, 2, none⟩ = some (.bool d) := by rw [cell_of_row W3 W.heap.size 2 _ _ _ hg3]; rfl
  have c3 : W3.cell? ⟨W.heap.size, 3, none⟩ = some (.int .i64 a) := by rw [cell_of_row W3 W.heap.size 3 _ _ _ hg3]; rfl
  have MP := Lib.hid (map_gen 17 #[edV s c d a] #[] (fun x => .mk (leafS s c d a x) []) Gl (fun _ => True) (Lib.hid (fun _ _ _ _ => trivial)) (Lib.hid (leaf_turns s a c d)) (enters_of Tryd.func17 (by kernel_rfl) rfl) (sizeT t) t f (fun _ => True) W3 (Nat.le_refl _) hG (hr.ext ((hE1.trans hE2).trans hE3)) trivial)
  have HSZ : Hid (W2.heap.size = W.heap.size + 1 + 1) := Lib.hid (by omega)
  have HLT : Hid (W.heap.size + 1 + 1 < W3.heap.size) := Lib.hid (by omega)
  clear hW1 hE1 hG1 hL1 hS1 hW2 hE2 hG2 hL2 hS2 hW3 hE3 hG3 hL3 hS3 hr hG hg3
  unfold Fl.val
  go_enter Tryd.func11, Tryd.ntmps11
  go_upto_region 1 with (fail)
  rw [HW1.out, HW2.out, HW3.out]
  clear HW1 HW2 HW3
  go_wp2_with (first | ((with_reducible refine wpl_guard (isLoad 33) ?_ ?_); (· rfl); refine wpl_load (t := ?_) (cs := ?_) (fr := ?_) rfl 33 _ rfl rfl ?_ Tryd.underlying33 rfl ?_ ?_; rotate_left 3; (· (first | (with_reducible assumption) | (simp (disch := (first | omega | (simp only [World.size_alloc, World.size_setCell, World.size_drew, size_setRow]; done) | (simp only [World.size_alloc, World.size_setCell, World.size_drew, size_setRow]; omega))) only [hq_at, hq_past, hq_drew, hq_drewN, hq_cell, hq_row, hq_same, rowOf_cells, Option.map_some, *]; rfl) | (simp (disch := (first | omega | (simp only [World.size_alloc, World.size_setCell, World.size_drew, size_setRow]; done) | (simp only [World.size_alloc, World.size_setCell, World.size_drew, size_setRow]; omega))) only [hq_at, hq_past, hq_drew, hq_drewN, hq_cell, hq_row, hq_same, rowOf_cells, Option.map_some, *]))); (· kernel_rfl); (try dsimp only [Act.put, List.setIfInBounds_toArray, List.set_cons_zero, List.set_cons_succ])))
  refine MP.out.mono ?_
  rintro e w4 ⟨⟨r, rfl, hR⟩, hE4⟩
  have HR := Lib.hid hR
  have HX := Lib.hid (HE3.out.trans hE4)
  have hg4 := hE4.blk HG3.out
  clear hR hE4 MP c0 c1 c2 c3 hg2
  unfold Fl.val
  go_wp2_with (first | ((with_reducible refine wpl_guard (isStore 33) ?_ ?_); (· rfl); refine wpl_store (t := ?_) (old := ?_) (w' := ?_) rfl 33 _ _ rfl rfl rfl ?_ ?_ ?_ ?_ ?_ ?_; rotate_left 2; (· (first | (with_reducible assumption) | (simp (disch := (first | omega | (simp only [World.size_alloc, World.size_setCell, World.size_drew, size_setRow]; done) | (simp only [World.size_alloc, World.size_setCell, World.size_drew, size_setRow]; omega))) only [hq_at, hq_past, hq_drew, hq_drewN, hq_cell, hq_row, hq_same, rowOf_cells, Option.map_some, *]; rfl) | (simp (disch := (first | omega | (simp only [World.size_alloc, World.size_setCell, World.size_drew, size_setRow]; done) | (simp only [World.size_alloc, World.size_setCell, World.size_drew, size_setRow]; omega))) only [hq_at, hq_past, hq_drew, hq_drewN, hq_cell, hq_row, hq_same, rowOf_cells, Option.map_some, *]))); (· kernel_rfl); (· rfl); (· rfl); rotate_left 1; (· (first | (simp (disch := (first | omega | (simp only [World.size_alloc, World.size_setCell, World.size_drew, size_setRow]; done) | (simp only [World.size_alloc, World.size_setCell, World.size_drew, size_setRow]; omega))) only [setRow_at, setRow_past, setRow_drew]; rfl) | rfl))))
  have hg9 : (w4.setRow (W.heap.size + 1 + 1) r.cells).heap[W.heap.size + 1 + 1]? = some (.cells r.cells 33 (0, 0)) := by rw [hq_same rfl, hg4]; rfl
  refine ret_row rfl rfl hg9 Tryd.underlying33 rfl (by kernel_rfl) rfl ⟨⟨r, rfl, ?_⟩, below_row HX.out (by omega)⟩
  exact (HR.out.keeps (fun k hk _ => setRow_other w4 _ k _ (by have := HLT.out; omega))).imp' (fun _ _ _ => trivial)
set_option maxRecDepth 100000 in
set_option maxHeartbeats 4000000 in
theorem seen8_any (fs fc fr : Int) (hf : (-1000 ≤ fs ∧ fs ≤ 1000) ∧ (-1000 ≤ fc ∧ fc ≤ 1000) ∧ -1000 ≤ fr ∧ fr ≤ 1000) (t : Tr) (f : Fl) (W : World) (hr : Rep W (fun _ => True) t f) (hG : LeafG Gc t) :
    Calls Tryd.prog 16 #[f.val, ceV fs fc fr] W fun e w' => (∃ r, e = .returned r.val ∧ Rep w' (fun _ => True) (mapT (fun x => .mk (seenS fs fc fr x) []) t) r) ∧ Ext W w' := by
  obtain ⟨W1, hW1, hE1, hG1, hL1, hS1⟩ := new_blk W f.cells 33
  obtain ⟨W2, hW2, hE2, hG2, hL2, hS2⟩ := new_blk W1 #[.int .i64 fs, .int .i64 fc, .int .i64 fr] 28
  obtain ⟨W3, hW3, hE3, hG3, hL3, hS3⟩ := new_blk W2 #[.int .i64 0, .int .i64 0, .int .i64 0, .int .i64 0, .string ⟨#[]⟩, .int .i64 0, .int .i64 0, .int .i64 0, .bool false, .bool false, .int .i64 0, .int .i64 0, .int .i64 0, .bool false, .bool false, .string ⟨#[]⟩, .slice none 0 0] 33
  rw [hS1] at hG2
  rw [hS2, hS1] at hG3
  have HW1 := Lib.hid hW1
  have HW2 := Lib.hid hW2
  have HW3 := Lib.hid hW3
  have HE3 := Lib.hid ((hE1.trans hE2).trans hE3)
  have hg2 := (hE2.trans hE3).blk hG1
  have HG3 := Lib.hid hG3
  have MP := Lib.hid (map_gen 35 #[] #[.pointer (some ⟨W.heap.size + 1, 0, none⟩)] (fun x => .mk (seenS fs fc fr x) []) Gc (CellAt (W.heap.size + 1) fs fc fr) (Lib.hid (fun _ _ h hE => h.ext hE)) (Lib.hid (seen1_turns _ fs fc fr hf)) (enters_of Tryd.func35 (by kernel_rfl) rfl) (sizeT t) t f (fun _ => True) W3 (Nat.le_refl _) hG (hr.ext ((hE1.trans hE2).trans hE3)) (show CellAt _ fs fc fr W3 from hE3.blk hG2))
  have HLT : Hid (W.heap.size + 1 + 1 < W3.heap.size) := Lib.hid (by omega)
  have HS1 := Lib.hid hS1
  clear hW1 hE1 hG1 hL1 hS1 hW2 hE2 hG2 hL2 hS2 hW3 hE3 hG3 hL3 hS3 hr hG
  unfold Fl.val
  go_enter Tryd.func16, Tryd.ntmps16
  go_upto_region 1 with (fail)
  rw [HW1.out, HW2.out, HW3.out]
  clear HW1 HW2 HW3
  go_wp2_with (first | ((with_reducible refine wpl_guard (isLoad 33) ?_ ?_); (· rfl); refine wpl_load (t := ?_) (cs := ?_) (fr := ?_) rfl 33 _ rfl rfl ?_ Tryd.underlying33 rfl ?_ ?_; rotate_left 3; (· (first | (with_reducible assumption) | (simp (disch := (first | omega | (simp only [World.size_alloc, World.size_setCell, World.size_drew, size_setRow]; done) | (simp only [World.size_alloc, World.size_setCell, World.size_drew, size_setRow]; omega))) only [hq_at, hq_past, hq_drew, hq_drewN, hq_cell, hq_row, hq_same, rowOf_cells, Option.map_some, *]; rfl) | (simp (disch := (first | omega | (simp only [World.size_alloc, World.size_setCell, World.size_drew, size_setRow]; done) | (simp only [World.size_alloc, World.size_setCell, World.size_drew, size_setRow]; omega))) only [hq_at, hq_past, hq_drew, hq_drewN, hq_cell, hq_row, hq_same, rowOf_cells, Option.map_some, *]))); (· kernel_rfl); (try dsimp only [Act.put, List.setIfInBounds_toArray, List.set_cons_zero, List.set_cons_succ])))
  refine MP.out.mono ?_
  rintro e w4 ⟨⟨r, rfl, hR⟩, hE4⟩
  have HR := Lib.hid hR
  have HX := Lib.hid (HE3.out.trans hE4)
  have hg4 := hE4.blk HG3.out
  clear hR hE4 MP hg2
  unfold Fl.val
  go_wp2_with (first | ((with_reducible refine wpl_guard (isStore 33) ?_ ?_); (· rfl); refine wpl_store (t := ?_) (old := ?_) (w' := ?_) rfl 33 _ _ rfl rfl rfl ?_ ?_ ?_ ?_ ?_ ?_; rotate_left 2; (· (first | (with_reducible assumption) | (simp (disch := (first | omega | (simp only [World.size_alloc, World.size_setCell, World.size_drew, size_setRow]; done) | (simp only [World.size_alloc, World.size_setCell, World.size_drew, size_setRow]; omega))) only [hq_at, hq_past, hq_drew, hq_drewN, hq_cell, hq_row, hq_same, rowOf_cells, Option.map_some, *]; rfl) | (simp (disch := (first | omega | (simp only [World.size_alloc, World.size_setCell, World.size_drew, size_setRow]; done) | (simp only [World.size_alloc, World.size_setCell, World.size_drew, size_setRow]; omega))) only [hq_at, hq_past, hq_drew, hq_drewN, hq_cell, hq_row, hq_same, rowOf_cells, Option.map_some, *]))); (· kernel_rfl); (· rfl); (· rfl); rotate_left 1; (· (first | (simp (disch := (first | omega | (simp only [World.size_alloc, World.size_setCell, World.size_drew, size_setRow]; done) | (simp only [World.size_alloc, World.size_setCell, World.size_drew, size_setRow]; omega))) only [setRow_at, setRow_past, setRow_drew]; rfl) | rfl))))
  have hg9 : (w4.setRow (W.heap.size + 1 + 1) r.cells).heap[W.heap.size + 1 + 1]? = some (.cells r.cells 33 (0, 0)) := by rw [hq_same rfl, hg4]; rfl
  refine ret_row rfl rfl hg9 Tryd.underlying33 rfl (by kernel_rfl) rfl ⟨⟨r, rfl, ?_⟩, below_row HX.out (by omega)⟩
  exact (HR.out.keeps (fun k hk _ => setRow_other w4 _ k _ (by have := HLT.out; omega))).imp' (fun _ _ _ => trivial)
set_option maxRecDepth 100000 in
set_option maxHeartbeats 4000000 in
theorem copy8_any (ts tc tr fs fc fr dc dr : Int) (hc : tc - fc = dc) (hrr : tr - fr = dr) (hd : (-1000 ≤ dc ∧ dc ≤ 1000) ∧ -1000 ≤ dr ∧ dr ≤ 1000) (t : Tr) (f : Fl) (W : World) (hr : Rep W (fun _ => True) t f) (hG : LeafG Gc t) :
    Calls Tryd.prog 15 #[f.val, ceV fs fc fr, ceV ts tc tr] W fun e w' => (∃ r, e = .returned r.val ∧ Rep w' (fun _ => True) (mapT (fun x => .mk (copyS dc dr x) []) t) r) ∧ Ext W w' := by
  obtain ⟨W1, hW1, hE1, hG1, hL1, hS1⟩ := new_blk W f.cells 33
  obtain ⟨W2, hW2, hE2, hG2, hL2, hS2⟩ := new_blk W1 #[.int .i64 fs, .int .i64 fc, .int .i64 fr] 28
  obtain ⟨W3, hW3, hE3, hG3, hL3, hS3⟩ := new_blk W2 #[.int .i64 ts, .int .i64 tc, .int .i64 tr] 28
  obtain ⟨W4, hW4, hE4, hG4, hL4, hS4⟩ := new_blk W3 #[.int .i64 0, .int .i64 0, .int .i64 0, .int .i64 0, .string ⟨#[]⟩, .int .i64 0, .int .i64 0, .int .i64 0, .bool false, .bool false, .int .i64 0, .int .i64 0, .int .i64 0, .bool false, .bool false, .string ⟨#[]⟩, .slice none 0 0] 33
  obtain ⟨W5, hW5, hE5, hG5, hL5, hS5⟩ := new_blk W4 #[.func (Fn.func 32) #[] #[.pointer (some ⟨W.heap.size + 1 + 1, 0, none⟩), .pointer (some ⟨W.heap.size + 1, 0, none⟩)]] 63
  rw [hS1] at hG2
  rw [hS2, hS1] at hG3
  rw [hS3, hS2, hS1] at hG4
  rw [hS4, hS3, hS2, hS1] at hG5
  have HW1 := Lib.hid hW1
  have HW2 := Lib.hid hW2
  have HW3 := Lib.hid hW3
  have HW4 := Lib.hid hW4
  have HW5 := Lib.hid hW5
  have HE5 := Lib.hid ((((hE1.trans hE2).trans hE3).trans hE4).trans hE5)
  have hg1 := (((hE2.trans hE3).trans hE4).trans hE5).blk hG1
  have HG4 := Lib.hid (hE5.blk hG4)
  have MP := Lib.hid (map_gen 33 #[] #[.pointer (some ⟨W.heap.size + 1 + 1 + 1 + 1, 0, none⟩)] (fun x => .mk (copyS dc dr x) []) Gc (CopyAt (W.heap.size + 1 + 1) (W.heap.size + 1) (W.heap.size + 1 + 1 + 1 + 1) ts tc tr fs fc fr) (Lib.hid (fun _ _ h hE => h.ext hE)) (Lib.hid (copy2_turns _ _ _ ts tc tr fs fc fr dc dr hc hrr hd)) (enters_of Tryd.func33 (by kernel_rfl) rfl) (sizeT t) t f (fun _ => True) W5 (Nat.le_refl _) hG (hr.ext ((((hE1.trans hE2).trans hE3).trans hE4).trans hE5)) ⟨(hE4.trans hE5).blk hG3, ((hE3.trans hE4).trans hE5).blk hG2, _, hG5⟩)
  have HLT : Hid (W.heap.size + 1 + 1 + 1 < W5.heap.size) := Lib.hid (by omega)
  have HSZ : Hid (W4.heap.size = W.heap.size + 1 + 1 + 1 + 1) := Lib.hid (by omega)
  clear hW1 hE1 hG1 hL1 hS1 hW2 hE2 hG2 hL2 hS2 hW3 hE3 hG3 hL3 hS3 hW4 hE4 hG4 hL4 hS4 hW5 hE5 hG5 hL5 hS5 hr hG
  unfold Fl.val
  go_enter Tryd.func15, Tryd.ntmps15
  go_upto_region 1 with (fail)
  rw [HW1.out, HW2.out, HW3.out, HW4.out]
  go_upto_region 2 with (fail)
  rw [HW5.out, HSZ.out]
  clear HW1 HW2 HW3 HW4 HW5
  go_wp2_with (first | ((with_reducible refine wpl_guard (isLoad 33) ?_ ?_); (· rfl); refine wpl_load (t := ?_) (cs := ?_) (fr := ?_) rfl 33 _ rfl rfl ?_ Tryd.underlying33 rfl ?_ ?_; rotate_left 3; (· (first | (with_reducible assumption) | (simp (disch := (first | omega | (simp only [World.size_alloc, World.size_setCell, World.size_drew, size_setRow]; done) | (simp only [World.size_alloc, World.size_setCell, World.size_drew, size_setRow]; omega))) only [hq_at, hq_past, hq_drew, hq_drewN, hq_cell, hq_row, hq_same, rowOf_cells, Option.map_some, *]; rfl) | (simp (disch := (first | omega | (simp only [World.size_alloc, World.size_setCell, World.size_drew, size_setRow]; done) | (simp only [World.size_alloc, World.size_setCell, World.size_drew, size_setRow]; omega))) only [hq_at, hq_past, hq_drew, hq_drewN, hq_cell, hq_row, hq_same, rowOf_cells, Option.map_some, *]))); (· kernel_rfl); (try dsimp only [Act.put, List.setIfInBounds_toArray, List.set_cons_zero, List.set_cons_succ])))
  refine MP.out.mono ?_
  rintro e w6 ⟨⟨r, rfl, hR⟩, hE6⟩
  have HR := Lib.hid hR
  have HX := Lib.hid (HE5.out.trans hE6)
  have hg4 := hE6.blk HG4.out
  clear hR hE6 MP hg1
  unfold Fl.val
  go_wp2_with (first | ((with_reducible refine wpl_guard (isStore 33) ?_ ?_); (· rfl); refine wpl_store (t := ?_) (old := ?_) (w' := ?_) rfl 33 _ _ rfl rfl rfl ?_ ?_ ?_ ?_ ?_ ?_; rotate_left 2; (· (first | (with_reducible assumption) | (simp (disch := (first | omega | (simp only [World.size_alloc, World.size_setCell, World.size_drew, size_setRow]; done) | (simp only [World.size_alloc, World.size_setCell, World.size_drew, size_setRow]; omega))) only [hq_at, hq_past, hq_drew, hq_drewN, hq_cell, hq_row, hq_same, rowOf_cells, Option.map_some, *]; rfl) | (simp (disch := (first | omega | (simp only [World.size_alloc, World.size_setCell, World.size_drew, size_setRow]; done) | (simp only [World.size_alloc, World.size_setCell, World.size_drew, size_setRow]; omega))) only [hq_at, hq_past, hq_drew, hq_drewN, hq_cell, hq_row, hq_same, rowOf_cells, Option.map_some, *]))); (· kernel_rfl); (· rfl); (· rfl); rotate_left 1; (· (first | (simp (disch := (first | omega | (simp only [World.size_alloc, World.size_setCell, World.size_drew, size_setRow]; done) | (simp only [World.size_alloc, World.size_setCell, World.size_drew, size_setRow]; omega))) only [setRow_at, setRow_past, setRow_drew]; rfl) | rfl))))
  have hg9 : (w6.setRow (W.heap.size + 1 + 1 + 1) r.cells).heap[W.heap.size + 1 + 1 + 1]? = some (.cells r.cells 33 (0, 0)) := by rw [hq_same rfl, hg4]; rfl
  refine ret_row rfl rfl hg9 Tryd.underlying33 rfl (by kernel_rfl) rfl ⟨⟨r, rfl, ?_⟩, below_row HX.out (by omega)⟩
  exact (HR.out.keeps (fun k hk _ => setRow_other w6 _ k _ (by have := HLT.out; omega))).imp' (fun _ _ _ => trivial)
theorem formula8_v (s a : Int) (c d : Bool) {t : Tr} {v : Value} {w : World} (h : TreeV t v w) (hG : LeafG Gl t) :
    Calls Tryd.prog 11 #[edV s c d a, v] w fun e w' => ∃ u, e = .returned u ∧ Ext w w' ∧ TreeV (mapT (fun x => .mk (leafS s c d a x) []) t) u w' := by
  obtain ⟨f, rfl, hf⟩ := h
  refine (formula8_any s a c d t f w hf hG).mono ?_
  rintro e w' ⟨⟨r, rfl, hR⟩, hE⟩
  exact ⟨r.val, rfl, hE, r, rfl, hR⟩
theorem seen8_v (fs fc fr : Int) (hf : (-1000 ≤ fs ∧ fs ≤ 1000) ∧ (-1000 ≤ fc ∧ fc ≤ 1000) ∧ -1000 ≤ fr ∧ fr ≤ 1000) {t : Tr} {v : Value} {w : World} (h : TreeV t v w) (hG : LeafG Gc t) :
    Calls Tryd.prog 16 #[v, ceV fs fc fr] w fun e w' => ∃ u, e = .returned u ∧ Ext w w' ∧ TreeV (mapT (fun x => .mk (seenS fs fc fr x) []) t) u w' := by
  obtain ⟨f, rfl, hf'⟩ := h
  refine (seen8_any fs fc fr hf t f w hf' hG).mono ?_
  rintro e w' ⟨⟨r, rfl, hR⟩, hE⟩
  exact ⟨r.val, rfl, hE, r, rfl, hR⟩
theorem copy8_v (ts tc tr fs fc fr dc dr : Int) (hc : tc - fc = dc) (hrr : tr - fr = dr) (hd : (-1000 ≤ dc ∧ dc ≤ 1000) ∧ -1000 ≤ dr ∧ dr ≤ 1000) {t : Tr} {v : Value} {w : World} (h : TreeV t v w) (hG : LeafG Gc t) :
    Calls Tryd.prog 15 #[v, ceV fs fc fr, ceV ts tc tr] w fun e w' => ∃ u, e = .returned u ∧ Ext w w' ∧ TreeV (mapT (fun x => .mk (copyS dc dr x) []) t) u w' := by
  obtain ⟨f, rfl, hf'⟩ := h
  refine (copy8_any ts tc tr fs fc fr dc dr hc hrr hd t f w hf' hG).mono ?_
  rintro e w' ⟨⟨r, rfl, hR⟩, hE⟩
  exact ⟨r.val, rfl, hE, r, rfl, hR⟩
end Go.Proofs.YtdfgobnmcngkmaaDoor
