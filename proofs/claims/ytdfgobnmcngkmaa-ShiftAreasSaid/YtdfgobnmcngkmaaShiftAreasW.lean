/-
  ShiftAreas: walk. Conditions: the arguments' own.
-/
import Derived.Test.YtdfgobnmcngkmaaShiftG
import Derived.Test.YtdfgobnmcngkmaaShiftH
import Derived.Test.YtdfgobnmcngkmaaPut
import Derived.Deep.DeepCutAuto
import Derived.BigRegion
namespace Go.Proofs.Ytdfgobnmcngkmaa.shiftAreas
open Go.RowKit
set_option linter.unusedVariables false
set_option linter.unusedSimpArgs false

def sz (ed : Bool) (ea lo hi : Int) : Int := if ed then (if lo ≤ ea ∧ ea ≤ hi then hi - lo else hi - lo + 1) else if lo < ea ∧ ea ≤ hi then hi - lo + 2 else hi - lo + 1
abbrev arV (k vk vn s r x : Int) (s2 r2 : Int) : Value := .agg #[.int .i64 k, .int .i64 0, .int .i64 vk, .int .i64 vn, .string ⟨#[]⟩, .int .i64 s, .int .i64 x, .int .i64 r, .bool false, .bool false, .int .i64 s2, .int .i64 x, .int .i64 r2, .bool false, .bool false, .string ⟨#[]⟩, .slice none 0 0]
/-- What an area of one column becomes. -/
theorem areas_fact (es : Int) (ed : Bool) (ea lo hi : Int) (hb : 0 ≤ ea ∧ ea ≤ 7) (h0 : 0 ≤ lo) (h1 : lo ≤ hi) (h2 : hi ≤ 15) :
    ∃ X Y : Int, ∃ Z : Bool, (leafV es false ed ea (areaF ⟨es, 0, lo, false, false⟩ ⟨es, 0, hi, false, false⟩)).val = (if Z then arV 3 0 0 es X 0 es Y else arV 1 4 3 0 0 0 0 0) ∧
      (0 ≤ X ∧ X ≤ 100 ∧ 0 ≤ Y ∧ Y ≤ 100) ∧ (Z = false ∧ sz ed ea lo hi = 0 ∨ Z = true ∧ sz ed ea lo hi ≠ 0 ∧ Y - X + 1 = sz ed ea lo hi ∧ (hi < ea ∧ X = lo ∨ ea ≤ hi)) := by
  have key : ∀ X Y Z, spX ed (oneB ed ea lo 99) (oneB ed ea hi 99) (oneV ed ea lo) lo hi = X → spY ed (oneB ed ea lo 99) (oneB ed ea hi 99) (oneV ed ea hi) lo hi 99 = Y → spB ed (oneB ed ea lo 99) (oneB ed ea hi 99) (oneV ed ea lo) (oneV ed ea hi) lo hi 99 = Z →
      (leafV es false ed ea (areaF ⟨es, 0, lo, false, false⟩ ⟨es, 0, hi, false, false⟩)).val = (if Z then arV 3 0 0 es X 0 es Y else arV 1 4 3 0 0 0 0 0) := by
    intro X Y Z hX hY hZ
    subst hX hY hZ
    unfold leafV
    rw [if_neg (show ¬ (areaF _ _).k = 2 by simp [areaF]), if_pos ⟨rfl, rfl⟩]
    have hq : ¬ hi < lo := by omega
    simp only [areaF, Bool.false_eq_true, if_false, if_neg hq, decide_eq_false hq, areaV]
    cases spB ed (oneB ed ea lo 99) (oneB ed ea hi 99) (oneV ed ea lo) (oneV ed ea hi) lo hi 99 <;> rfl
  refine ⟨_, _, _, key _ _ _ rfl rfl rfl, ?_⟩
  cases ed
  all_goals
    simp only [spB, spX, spY, spC, sz, oneB, oneV, if_true, if_false, Bool.false_eq_true]
    by_cases a1 : lo < ea <;> by_cases a2 : hi < ea <;> by_cases a3 : ea < lo <;> by_cases a4 : ea < hi <;> by_cases a5 : lo = hi
    all_goals try (exfalso; omega)
    all_goals simp [a1, a2, a3, a4, a5]
    all_goals try omega
set_option maxHeartbeats 4000000 in
set_option maxRecDepth 100000 in
theorem walk0 (n a b : Int) (w : World) :
    Calls Try.prog 4 #[.int .i64 n, .int .i64 a, .int .i64 b] w fun e w' => e = .returned (.bool true) ∧ Ext w w' := by
  obtain ⟨es, hes⟩ : ∃ es, edS n = es := ⟨_, rfl⟩
  obtain ⟨ec, hec⟩ : ∃ ec, edC n = ec := ⟨_, rfl⟩
  obtain ⟨ed, hed⟩ : ∃ ed, edD n = ed := ⟨_, rfl⟩
  obtain ⟨ea, hea⟩ : ∃ ea, edA n = ea := ⟨_, rfl⟩
  have hbe := ed_bd n
  have cee := fun w => edit_any n w
  rw [hes, hec, hed, hea] at cee
  rw [hes, hea] at hbe
  have CEE := Lib.hid cee
  have HBE := Lib.hid hbe
  clear hes hec hed hea hbe cee
  go_enter Try.func4, Try.ntmps4
  go_wp2_with fail
  refine (fit_any _).mono ?_
  rintro e w3 ⟨rfl, hE3⟩
  go_wp2_with fail
  refine (CEE.out _).mono ?_
  rintro e w4 ⟨rfl, hE4⟩
  clear CEE
  obtain ⟨W5, hW5, hE5, hG5, hL5, hS5⟩ := new_blk w4 #[.int .i64 es, .bool false, .bool ed, .int .i64 ea] 26
  have HW5 := Lib.hid hW5
  have HG5 := Lib.hid hG5
  have HE5 := Lib.hid (hE3.trans (hE4.trans hE5))
  clear hW5 hG5 hE3 hE4 hE5 hL5 hS5
  go_upto_region 6 with (fail)
  rw [HW5.out]
  clear HW5
  have hA : 0 ≤ bits .and .i64 a 15 ∧ bits .and .i64 a 15 ≤ 15 := by rw [and_i64_4]; omega
  have hB : 0 ≤ bits .and .i64 b 15 ∧ bits .and .i64 b 15 ≤ 15 := by rw [and_i64_4]; omega
  generalize bits .and .i64 a 15 = A at *
  generalize bits .and .i64 b 15 = B at *
  generalize w4.heap.size = g7 at *
  go_upto_if 23 with (fail)
  go_cut [1, 2] (fun x y wx => ∃ lo hi : Int, x = .int .i64 lo ∧ y = .int .i64 hi ∧ 0 ≤ lo ∧ lo ≤ hi ∧ hi ≤ 15 ∧ W5 = wx)
  case first =>
    clear HBE
    by_cases hl : B < A
    · go_wp2_with fail
      go_meet
      case rel => exact ⟨B, A, rfl, rfl, by omega, by omega, by omega, rfl⟩
    · go_wp2_with fail
      go_meet
      case rel => exact ⟨A, B, rfl, rfl, by omega, by omega, by omega, rfl⟩
  case rest =>
  obtain ⟨lo, hi, rfl, rfl, h0, h1, h2, rfl⟩ := hcut
  clear hA hB A B
  obtain ⟨W6, hW6, hE6, hG6, hL6, hS6⟩ := new_blk W5 #[.int .i64 0, .int .i64 0, .int .i64 0, .bool false, .bool false] 33
  obtain ⟨W7, hW7, hE7, hG7, hL7, hS7⟩ := new_blk W6 #[.int .i64 0, .int .i64 0, .int .i64 0, .bool false, .bool false] 33
  rw [hS6] at hG7
  have HW6 := Lib.hid hW6
  have HW7 := Lib.hid hW7
  have hG5' := hE7.blk (hE6.blk HG5.out)
  have hG6' := hE7.blk hG6
  have hne1 : g7 ≠ W5.heap.size := by have := blk_lt HG5.out; omega
  have hne2 : g7 ≠ W5.heap.size + 1 := by have := blk_lt HG5.out; omega
  have HE7 := Lib.hid (HE5.out.trans (hE6.trans hE7))
  have HL := Lib.hid (HE5.out.size)
  clear hW6 hW7 hE6 hE7 hG6 hL6 hL7 hS6 hS7
  go_upto_region 9 with (fail)
  rw [HW6.out, HW7.out]
  clear HW6 HW7
  generalize hg8 : W5.heap.size = g8 at *
  have HG5 := Lib.hid hG5'
  have HG6 := Lib.hid hG6'
  have HG7 := Lib.hid hG7
  have c70 := cell_of_row W7 g7 0 _ _ _ hG5'
  have z80 := frozen_of_row W7 g8 0 _ _ hG6'
  have z82 := frozen_of_row W7 g8 2 _ _ hG6'
  have z90 := frozen_of_row W7 (g8 + 1) 0 _ _ hG7
  have z92 := frozen_of_row W7 (g8 + 1) 2 _ _ hG7
  have c80 := cell_of_row W7 g8 0 _ _ _ hG6'
  have c82 := cell_of_row W7 g8 2 _ _ _ hG6'
  have c90 := cell_of_row W7 (g8 + 1) 0 _ _ _ hG7
  have c92 := cell_of_row W7 (g8 + 1) 2 _ _ _ hG7
  simp only [List.getElem?_toArray, List.getElem?_cons_zero, List.getElem?_cons_succ] at c70 c80 c82 c90 c92
  clear hG5' hG6' hG7 hg8
  go_cut [6] (fun v wx => v = .bool false ∧ Ext w wx ∧ wx.heap[g7]? = some (.cells #[.int .i64 es, .bool false, .bool ed, .int .i64 ea] 26 (0, 0)) ∧ wx.heap[g8]? = some (.cells #[.int .i64 es, .int .i64 0, .int .i64 lo, .bool false, .bool false] 33 (0, 0)) ∧ wx.heap[g8 + 1]? = some (.cells #[.int .i64 es, .int .i64 0, .int .i64 hi, .bool false, .bool false] 33 (0, 0)))
  case first =>
    clear HBE h0 h1 h2
    go_region
    all_goals go_wp2_with fail
    all_goals go_meet
    all_goals
      case rel =>
        have H1 := HG5.out
        have H2 := HG6.out
        have H3 := HG7.out
        have HE := HE7.out
        have HLL := HL.out
        refine ⟨rfl, ?_, ?_, ?_, ?_⟩
        · repeat (first | with_reducible assumption | (with_reducible refine ext_drew ?_) | (with_reducible refine ext_set ?_ (show w.heap.size ≤ _ by dsimp only; omega)))
        all_goals simp (disch := omega) only [hq_drew, hq_drewN, hq_cell, hq_put, H1, H2, H3, Option.map_some, setIn_cells]
        all_goals rfl
  case rest =>
  obtain ⟨rfl, hE0, hG7, hG8, hG9⟩ := hcut
  clear c70 c80 c82 c90 c92 z80 z82 z90 z92 HG5 HG6 HG7 HE7 HE5 HL hne1 hne2
  obtain ⟨X, Y, Z, hv, hxy, hZ⟩ := areas_fact es ed ea lo hi HBE.out.2 h0 h1 h2
  have hsz : sz ed ea lo hi = sz ed ea lo hi := rfl
  have e1 : CallE Try.prog wc 11 #[.agg #[.int .i64 es, .int .i64 0, .int .i64 lo, .bool false, .bool false], .agg #[.int .i64 es, .int .i64 0, .int .i64 hi, .bool false, .bool false]] (arV 3 0 0 es lo 0 es hi) := fun w' _ => tspan_any ⟨es, 0, lo, false, false⟩ ⟨es, 0, hi, false, false⟩ w'
  have e2 : CallE Try.prog wc 10 #[.agg #[.int .i64 es, .bool false, .bool ed, .int .i64 ea], arV 3 0 0 es lo 0 es hi] (leafV es false ed ea (areaF ⟨es, 0, lo, false, false⟩ ⟨es, 0, hi, false, false⟩)).val :=
    fun w' _ => leaf_any es ea false ed (areaF ⟨es, 0, lo, false, false⟩ ⟨es, 0, hi, false, false⟩) w' (.inr ⟨rfl, rfl⟩) (show Rf.ok ⟨es, 0, lo, false, false⟩ from ⟨⟨Int.le_refl _, by simp only; omega⟩, by simp only; omega⟩) (show Rf.ok ⟨es, 0, hi, false, false⟩ from ⟨⟨Int.le_refl _, by simp only; omega⟩, by simp only; omega⟩)
  rw [hv] at e2
  clear hv hsz
  have b7 := ext_blk hG7
  have l7 := ext_lt (blk_lt hG7)
  have b8 := ext_blk hG8
  have l8 := ext_lt (blk_lt hG8)
  have b9 := ext_blk hG9
  have l9 := ext_lt (blk_lt hG9)
  have hr := Ext.refl wc
  have HB : Hid ((0 ≤ ea ∧ ea ≤ 7) ∧ 0 ≤ lo ∧ lo ≤ hi ∧ hi ≤ 15) := Lib.hid ⟨HBE.out.2, h0, h1, h2⟩
  have HG7 := Lib.hid hG7
  have HE0 := Lib.hid hE0
  clear HBE hG8 hG9 hG7 hE0
  cases Z
  · rw [if_neg Bool.false_ne_true] at e2
    have hz : sz ed ea lo hi = 0 := by rcases hZ with ⟨-, h⟩ | ⟨h, -⟩; exact h; cases h
    have hzz : ed = true ∧ lo = ea ∧ hi = ea := by
      unfold sz at hz
      cases ed
      · simp at hz; split at hz <;> omega
      · simp at hz; refine ⟨rfl, ?_⟩; split at hz <;> omega
    obtain ⟨rfl, rfl, rfl⟩ := hzz
    clear hz hZ h0 h1 h2
    go_wp2_with fail
    refine region_own [10] (by intro d hd; simp only [List.mem_cons, List.not_mem_nil, or_false] at hd; rcases hd with rfl <;> rfl) (by kernel_rfl) (by kernel_rfl) rfl (fun K hK => ?_)
    repeat (first | (refine seqr_skip (by rfl) (fun ρ => by rfl) ?_; (try simp only [Act.put, List.setIfInBounds_toArray, List.set_cons_zero, List.set_cons_succ])) | (refine seqr_pure (v := ?_) (by rfl) (fun ρ => by rfl) (fun ρ w hE hF => ?_) ?_; rotate_left 1; (· ((try simp only [fill, Act.put, List.setIfInBounds_toArray, List.set_cons_zero, List.set_cons_succ]); go_simp; try with_reducible rfl)); (try simp only [Act.put, List.setIfInBounds_toArray, List.set_cons_zero, List.set_cons_succ])) | (refine seqr_call0 (v := ?_) (f := ?_) (args := ?_) (by rfl) (fun ρ => by rfl) (fun ρ w => ?_) (fun w hE => ?_) ?_; rotate_left 3; (· ((try simp only [fill, Act.put, List.setIfInBounds_toArray, List.set_cons_zero, List.set_cons_succ]); go_simp; constructor <;> with_reducible rfl)); (· (with_reducible exact CallE.call (by assumption) hE)); (try simp only [Act.put, List.setIfInBounds_toArray, List.set_cons_zero, List.set_cons_succ])))
    (refine seqr_own 38 (#[.int .i64 0, .int .i64 0, .int .i64 0, .int .i64 0, .string ⟨#[]⟩, .int .i64 0, .int .i64 0, .int .i64 0, .bool false, .bool false, .int .i64 0, .int .i64 0, .int .i64 0, .bool false, .bool false, .string ⟨#[]⟩, .slice none 0 0]) rfl (by decide) (by rfl) (fun ρ => by rfl) (fun ρ w hE hF => ?_) ?_; (· ((try simp only [fill, Act.put, List.setIfInBounds_toArray, List.set_cons_zero, List.set_cons_succ]); go_simp; try rfl)); (try simp only [Act.put, List.setIfInBounds_toArray, List.set_cons_zero, List.set_cons_succ]))
    refine seqr_tails (by kernel_rfl) (fun ρ wN hEN hFN hAN => ?_); (try simp only [fill, Act.put, List.setIfInBounds_toArray, List.set_cons_zero, List.set_cons_succ])
    obtain ⟨g10, hp10, hl10, hb10⟩ := hFN _ (.head _)
    simp only at hp10
    rw [hp10]
    clear hp10 hFN hAN
    go_wp2_with ((with_reducible refine wpl_guard (isStore 38) ?_ ?_); (· rfl); refine wpl_store (t := ?_) (old := ?_) (w' := ?_) rfl 38 _ _ rfl rfl rfl ?_ ?_ ?_ ?_ ?_ ?_; rotate_left 2; (· (first | (with_reducible assumption) | (simp (disch := (first | omega | (simp only [World.size_alloc, World.size_setCell, World.size_drew, size_setRow]; done) | (simp only [World.size_alloc, World.size_setCell, World.size_drew, size_setRow]; omega))) only [hq_at, hq_past, hq_drew, hq_drewN, hq_cell, hq_row, hq_same, rowOf_cells, Option.map_some, *]; rfl) | (simp (disch := (first | omega | (simp only [World.size_alloc, World.size_setCell, World.size_drew, size_setRow]; done) | (simp only [World.size_alloc, World.size_setCell, World.size_drew, size_setRow]; omega))) only [hq_at, hq_past, hq_drew, hq_drewN, hq_cell, hq_row, hq_same, rowOf_cells, Option.map_some, *]))); (· kernel_rfl); (· rfl); (· rfl); rotate_left 1; (· (first | (simp (disch := (first | omega | (simp only [World.size_alloc, World.size_setCell, World.size_drew, size_setRow]; done) | (simp only [World.size_alloc, World.size_setCell, World.size_drew, size_setRow]; omega))) only [setRow_at, setRow_past, setRow_drew]; rfl) | rfl)))
    refine (show K _ _ from hK.out _ _ ?_); clear hK K
    obtain ⟨W10, hW10, hE10, hG10⟩ := put_blk hEN hl10 hb10 (arV 1 4 3 0 0 0 0 0).cells
    simp only [arV, Value.cells] at hW10 hG10
    rw [hW10]
    have b7 := ext_blk (hE10.blk HG7.out)
    have b10 := ext_blk hG10
    have l10 := ext_lt (blk_lt hG10)
    have hr := Ext.refl W10
    have HEF := Lib.hid (HE0.out.trans hE10)
    obtain ⟨⟨hb0, hb1⟩, h0, h1, h2⟩ := HB.out
    clear b8 b9 l7 l8 l9 e1 e2 hEN hb10 hW10 hE10 hG10 hl10 HG7
    go_wp2_with fail
    go_ret
    exact ⟨rfl, HEF.out⟩
  · rw [if_pos rfl] at e2
    obtain ⟨hz, hXY, hX⟩ : sz ed ea lo hi ≠ 0 ∧ Y - X + 1 = sz ed ea lo hi ∧ (hi < ea ∧ X = lo ∨ ea ≤ hi) := by rcases hZ with ⟨h, -⟩ | ⟨-, h⟩; cases h; exact h
    clear hZ
    go_wp2_with fail
    refine region_own [10] (by intro d hd; simp only [List.mem_cons, List.not_mem_nil, or_false] at hd; rcases hd with rfl <;> rfl) (by kernel_rfl) (by kernel_rfl) rfl (fun K hK => ?_)
    repeat (first | (refine seqr_skip (by rfl) (fun ρ => by rfl) ?_; (try simp only [Act.put, List.setIfInBounds_toArray, List.set_cons_zero, List.set_cons_succ])) | (refine seqr_pure (v := ?_) (by rfl) (fun ρ => by rfl) (fun ρ w hE hF => ?_) ?_; rotate_left 1; (· ((try simp only [fill, Act.put, List.setIfInBounds_toArray, List.set_cons_zero, List.set_cons_succ]); go_simp; try with_reducible rfl)); (try simp only [Act.put, List.setIfInBounds_toArray, List.set_cons_zero, List.set_cons_succ])) | (refine seqr_call0 (v := ?_) (f := ?_) (args := ?_) (by rfl) (fun ρ => by rfl) (fun ρ w => ?_) (fun w hE => ?_) ?_; rotate_left 3; (· ((try simp only [fill, Act.put, List.setIfInBounds_toArray, List.set_cons_zero, List.set_cons_succ]); go_simp; constructor <;> with_reducible rfl)); (· (with_reducible exact CallE.call (by assumption) hE)); (try simp only [Act.put, List.setIfInBounds_toArray, List.set_cons_zero, List.set_cons_succ])))
    (refine seqr_own 38 (#[.int .i64 0, .int .i64 0, .int .i64 0, .int .i64 0, .string ⟨#[]⟩, .int .i64 0, .int .i64 0, .int .i64 0, .bool false, .bool false, .int .i64 0, .int .i64 0, .int .i64 0, .bool false, .bool false, .string ⟨#[]⟩, .slice none 0 0]) rfl (by decide) (by rfl) (fun ρ => by rfl) (fun ρ w hE hF => ?_) ?_; (· ((try simp only [fill, Act.put, List.setIfInBounds_toArray, List.set_cons_zero, List.set_cons_succ]); go_simp; try rfl)); (try simp only [Act.put, List.setIfInBounds_toArray, List.set_cons_zero, List.set_cons_succ]))
    refine seqr_tails (by kernel_rfl) (fun ρ wN hEN hFN hAN => ?_); (try simp only [fill, Act.put, List.setIfInBounds_toArray, List.set_cons_zero, List.set_cons_succ])
    obtain ⟨g10, hp10, hl10, hb10⟩ := hFN _ (.head _)
    simp only at hp10
    rw [hp10]
    clear hp10 hFN hAN
    go_wp2_with ((with_reducible refine wpl_guard (isStore 38) ?_ ?_); (· rfl); refine wpl_store (t := ?_) (old := ?_) (w' := ?_) rfl 38 _ _ rfl rfl rfl ?_ ?_ ?_ ?_ ?_ ?_; rotate_left 2; (· (first | (with_reducible assumption) | (simp (disch := (first | omega | (simp only [World.size_alloc, World.size_setCell, World.size_drew, size_setRow]; done) | (simp only [World.size_alloc, World.size_setCell, World.size_drew, size_setRow]; omega))) only [hq_at, hq_past, hq_drew, hq_drewN, hq_cell, hq_row, hq_same, rowOf_cells, Option.map_some, *]; rfl) | (simp (disch := (first | omega | (simp only [World.size_alloc, World.size_setCell, World.size_drew, size_setRow]; done) | (simp only [World.size_alloc, World.size_setCell, World.size_drew, size_setRow]; omega))) only [hq_at, hq_past, hq_drew, hq_drewN, hq_cell, hq_row, hq_same, rowOf_cells, Option.map_some, *]))); (· kernel_rfl); (· rfl); (· rfl); rotate_left 1; (· (first | (simp (disch := (first | omega | (simp only [World.size_alloc, World.size_setCell, World.size_drew, size_setRow]; done) | (simp only [World.size_alloc, World.size_setCell, World.size_drew, size_setRow]; omega))) only [setRow_at, setRow_past, setRow_drew]; rfl) | rfl)))
    refine (show K _ _ from hK.out _ _ ?_); clear hK K
    obtain ⟨W10, hW10, hE10, hG10⟩ := put_blk hEN hl10 hb10 (arV 3 0 0 es X 0 es Y).cells
    simp only [arV, Value.cells] at hW10 hG10
    rw [hW10]
    have b7 := ext_blk (hE10.blk HG7.out)
    have b10 := ext_blk hG10
    have l10 := ext_lt (blk_lt hG10)
    have hr := Ext.refl W10
    have HEF := Lib.hid (HE0.out.trans hE10)
    obtain ⟨⟨hb0, hb1⟩, h0, h1, h2⟩ := HB.out
    clear b8 b9 l7 l8 l9 e1 e2 hEN hb10 hW10 hE10 hG10 hl10 HG7
    have q : ∀ u v : Int, u = v → (u == v) = true := fun u v h => by simp [h]
    rcases (by omega : ea < lo ∨ ea = lo ∨ (lo < ea ∧ ea ≤ hi) ∨ hi < ea ∧ lo < ea) with a1 | a1 | ⟨a1, a2⟩ | ⟨a1, a2⟩ <;> cases ed
    all_goals
      unfold sz at hz hXY
      simp only [if_true, if_false, Bool.false_eq_true] at hz hXY
    · have q1 := q (Y - X + 1) (hi - lo + 1) (by split at hXY <;> omega)
      clear hz hXY
      go_wp2_with fail
      all_goals go_ret
      all_goals exact ⟨rfl, HEF.out⟩
    · have q1 := q (Y - X + 1) (hi - lo + 1) (by split at hXY <;> omega)
      clear hz hXY
      go_wp2_with fail
      all_goals go_ret
      all_goals exact ⟨rfl, HEF.out⟩
    · have q1 := q (Y - X + 1) (hi - lo + 1) (by split at hXY <;> omega)
      subst a1
      clear hz hXY
      go_wp2_with fail
      all_goals go_ret
      all_goals exact ⟨rfl, HEF.out⟩
    · have q1 := q (Y - X + 1) (hi - lo) (by split at hXY <;> omega)
      have hlt : ea < hi := by split at hz <;> omega
      subst a1
      clear hz hXY
      go_wp2_with fail
      all_goals go_ret
      all_goals exact ⟨rfl, HEF.out⟩
    · have q1 := q (Y - X + 1) (hi - lo + 1 + 1) (by split at hXY <;> omega)
      clear hz hXY
      go_wp2_with fail
      all_goals go_ret
      all_goals exact ⟨rfl, HEF.out⟩
    · have q1 := q (Y - X + 1) (hi - lo) (by split at hXY <;> omega)
      clear hz hXY
      go_wp2_with fail
      all_goals go_ret
      all_goals exact ⟨rfl, HEF.out⟩
    · have q1 := q (Y - X + 1) (hi - lo + 1) (by split at hXY <;> omega)
      have hX' : X = lo := by omega
      subst hX'
      have q2 := q X X rfl
      clear hz hXY hX
      go_wp2_with fail
      all_goals go_ret
      all_goals exact ⟨rfl, HEF.out⟩
    · have q1 := q (Y - X + 1) (hi - lo + 1) (by split at hXY <;> omega)
      have hX' : X = lo := by omega
      subst hX'
      have q2 := q X X rfl
      clear hz hXY hX
      go_wp2_with fail
      all_goals go_ret
      all_goals exact ⟨rfl, HEF.out⟩
theorem walk (n a b : Int) (w : World) (wn : (Lit.int .i64 n).wf = true) (wa : (Lit.int .i64 a).wf = true) (wb : (Lit.int .i64 b).wf = true) :
    Calls Try.prog 4 #[.int .i64 n, .int .i64 a, .int .i64 b] w fun e w' => e = .returned (.bool true) ∧ Below w.heap.size w w' := walk0 n a b w
end Go.Proofs.Ytdfgobnmcngkmaa.shiftAreas
