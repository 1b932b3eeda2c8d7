/-
  addr: PrintRef, Parse of what it printed; the law's fit: walks. Conditions: each theorem's own.
-/
import Derived.Test.YtffogjhjgmohiaaDoorAddrA
import Derived.Laws.Runes
import Derived.Deep.CutBlock
import Derived.Deep.DeepCutAuto
namespace Go.Proofs.YtffogjhjgmohiaaDoor
open Go.RowKit
set_option linter.unusedVariables false
set_option linter.unusedSimpArgs false

set_option maxRecDepth 100000 in
set_option maxHeartbeats 4000000 in
/-- Parse, step by step: what its callees hand back told ahead. -/
theorem parse_core (S0 S1 S2 S3 S4 head : ByteArray) (full x y : Bool) (t : Int) (s c r : Nat) (w : World) (hm : MaxI w)
    (hcut : ∀ w, MaxI w → Calls Tryd.prog 65 #[.string S0, .string ⟨#[33]⟩] w fun e w' => e = .returned (.tuple #[.string head, .string S1, .bool full]) ∧ Ext w w')
    (hp1 : ∀ w, Calls Tryd.prog 66 #[.string (if full then S1 else S0), .string ⟨#[36]⟩] w fun e w' => e = .returned (.tuple #[.string S2, .bool x]) ∧ w' = w)
    (hp2 : ∀ w, Calls Tryd.prog 66 #[.string S3, .string ⟨#[36]⟩] w fun e w' => e = .returned (.tuple #[.string S4, .bool y]) ∧ w' = w)
    (hat : ∀ w, Calls Tryd.prog 67 #[.string S4] w fun e w' => e = .returned (.tuple #[.int .i64 ((r + 1 : Nat) : Int), .nilIface]) ∧ Ext w w')
    (hit : ∀ w, Calls Tryd.prog 68 #[.int .i64 ((r + 1 : Nat) : Int)] w fun e w' => e = .returned (.string S4) ∧ w' = w)
    (h2 : 0 < S2.size) (h2c : (S2[0]'h2).toNat = 65 + c) (h23 : S2.extract 1 S2.size = S3) (hS2 : S2.size ≤ 100)
    (hs : s < 3) (hc : c < 26) (hr : r < 99) (hh : full = true → ∃ h : head.size = 2, (head[0]'(by omega)).toNat = 83 ∧ (head[1]'(by omega)).toNat = 49 + s) (hts : full = false → t = (s : Int)) :
    Calls Tryd.prog 58 #[.string S0, .int .i64 t] w fun e w' => e = .returned (.tuple #[refV s c r x y, .bool true]) ∧ Ext w w' := by
  obtain ⟨W1, hW1, hE1, hG1, hL1, hS1⟩ := new_blk w #[.int .i64 0, .int .i64 0, .int .i64 0, .bool false, .bool false] 30
  obtain ⟨W2, hW2, hE2, hG2, hL2, hS2'⟩ := new_blk W1 #[.int .i64 t, .int .i64 0, .int .i64 0, .bool false, .bool false] 30
  rw [hS1] at hG2
  have HW1 := Lib.hid hW1
  have HW2 := Lib.hid hW2
  have HM2 := Lib.hid ((hm.ext hE1).ext hE2)
  have HG1 := Lib.hid (hE2.blk hG1)
  have HG2 := Lib.hid hG2
  have HE2 := Lib.hid (hE1.trans hE2)
  obtain ⟨b0, hb0⟩ : ∃ b0, S2[0]'h2 = b0 := ⟨_, rfl⟩
  rw [hb0] at h2c
  have hb1 : (b0.toNat : Int) - 65 = (c : Int) := by omega
  have hb2 : (65 : Int) ≤ (b0.toNat : Int) := by omega
  have hb3 : (b0.toNat : Int) ≤ 90 := by omega
  have hne : S2.toList.isEmpty = false := by
    rw [Lib.toList_data]
    cases hl : S2.data.toList with
    | nil => exact absurd h2 (by rw [show S2.size = S2.data.toList.length by simp, hl]; simp)
    | cons => rfl
  have HCUT := Lib.hid hcut
  have HP1 := Lib.hid hp1
  have HP2 := Lib.hid hp2
  have HAT := Lib.hid hat
  have HIT := Lib.hid hit
  have HHH := Lib.hid hh
  have HTS := Lib.hid hts
  clear hW1 hW2 hE1 hE2 hG1 hG2 hL1 hL2 hS1 hS2' hcut hp1 hp2 hat hit hh hts hm h2c
  cases full
  · have hts := HTS.out rfl
    subst hts
    go_enter Tryd.func58, Tryd.ntmps58
    go_wp2_with fail
    rw [HW1.out, HW2.out]
    refine (HCUT.out _ HM2.out).mono ?_
    rintro e w3 ⟨rfl, hE3⟩
    have k1 := hE3.blk HG1.out
    have k2 := hE3.blk HG2.out
    have K1 := Lib.hid k1
    have K2 := Lib.hid k2
    have hc0 := cell_of_row w3 _ 0 _ _ _ k2
    have hc1 := cell_of_row w3 _ 1 _ _ _ k2
    have hc3 := cell_of_row w3 _ 3 _ _ _ k2
    have hc4 := cell_of_row w3 _ 4 _ _ _ k2
    have hf0 := frozen_of_row w3 _ 0 _ _ k2
    have hf1 := frozen_of_row w3 _ 1 _ _ k2
    have hf3 := frozen_of_row w3 _ 3 _ _ k2
    have hf4 := frozen_of_row w3 _ 4 _ _ k2
    simp only [List.getElem?_toArray, List.getElem?_cons_zero, List.getElem?_cons_succ] at hc0 hc1 hc3 hc4
    have HE3 := Lib.hid (HE2.out.trans hE3)
    clear k1 k2 hE3 HW1 HW2
    go_wp2_with fail
    refine (HP1.out _).mono ?_
    rintro e w' ⟨rfl, hw3⟩
    have hw3 := hw3.symm
    subst hw3
    go_wp2_with fail
    refine (HP2.out _).mono ?_
    rintro e w' ⟨rfl, hw3⟩
    have hw3 := hw3.symm
    subst hw3
    go_upto_region 13 with (fail)
    obtain ⟨W5, hW5⟩ : ∃ W5, ((w3.setCell ⟨w.heap.size + 1, 3, none⟩ (.bool x)).setCell ⟨w.heap.size + 1, 1, none⟩ (.int .i64 (c : Int))).setCell ⟨w.heap.size + 1, 4, none⟩ (.bool y) = W5 := ⟨_, rfl⟩
    have hg5 : W5.heap[w.heap.size + 1]? = some (.cells #[.int .i64 (s : Int), .int .i64 (c : Int), .int .i64 0, .bool x, .bool y] 30 (0, 0)) := by
      rw [← hW5]
      simp (disch := omega) only [hq_put, K2.out, Option.map_some, setIn_cells]
      rfl
    have hg4 : W5.heap[w.heap.size]? = some (.cells #[.int .i64 0, .int .i64 0, .int .i64 0, .bool false, .bool false] 30 (0, 0)) := by
      rw [← hW5]
      simp (disch := omega) only [hq_cell, K1.out]
    have hE5 : Ext w W5 := by
      rw [← hW5]
      repeat (first | (with_reducible exact HE3.out) | (with_reducible refine ext_set ?_ (show w.heap.size ≤ _ by dsimp only; omega)))
    rw [hW5]
    clear hW5 hc0 hc1 hc3 hc4 hf0 hf1 hf3 hf4 K1 K2 HE3 hb0 hb1 hb2 hb3 hne
    have HG4 := Lib.hid hg4
    have HG5 := Lib.hid hg5
    have HE5 := Lib.hid hE5
    clear hg4 hg5 hE5
    go_wp2_with fail
    refine (HAT.out _).mono ?_
    rintro e w6 ⟨rfl, hE6⟩
    have b5 := ext_blk (hE6.blk HG5.out)
    have l5 := ext_lt (blk_lt (hE6.blk HG5.out))
    have hr6 := Ext.refl w6
    have hri : 1 ≤ ((r + 1 : Nat) : Int) := by omega
    have hri2 : ((r + 1 : Nat) : Int) ≤ 99 := by omega
    have hrw : IntKind.i64.wrap (((r + 1 : Nat) : Int) - 1) = (r : Int) := by rw [IntWalk.i64_in _ ⟨by omega, by omega⟩]; omega
    have hri3 : ((r + 1 : Nat) : Int) - 1 = (r : Int) := by omega
    generalize hRR : ((r + 1 : Nat) : Int) = RR at *
    have hss : (S4.toList != S4.toList) = false := by simp
    go_wp2_with fail
    refine (HIT.out _).mono ?_
    rintro e w' ⟨rfl, rfl⟩
    go_wp2_with fail
    refine (aright_any (s : Int) (c : Int) 0 _).mono ?_
    rintro e w7 ⟨rfl, hE7⟩
    rw [show insV (s : Int) (c : Int) 0 = true by simp only [insV, Bool.and_eq_true, decide_eq_true_eq]; omega]
    have hX := hE6.trans hE7
    have k4 := hX.blk HG4.out
    have k5 := hX.blk HG5.out
    have HX := Lib.hid (HE5.out.trans hX)
    have HK4 := Lib.hid k4
    have hc2 := cell_of_row w7 _ 2 _ _ _ k5
    have hf2 := frozen_of_row w7 _ 2 _ _ k5
    simp only [List.getElem?_toArray, List.getElem?_cons_zero, List.getElem?_cons_succ] at hc2
    have HK5 := Lib.hid k5
    clear hE6 hE7 hX k4 k5 b5 l5 hr6
    go_upto_region 17 with (fail)
    obtain ⟨W8, hW8⟩ : ∃ W8, w7.setCell ⟨w.heap.size + 1, 2, none⟩ (.int .i64 (r : Int)) = W8 := ⟨_, rfl⟩
    have hg5 : W8.heap[w.heap.size + 1]? = some (.cells #[.int .i64 (s : Int), .int .i64 (c : Int), .int .i64 (r : Int), .bool x, .bool y] 30 (0, 0)) := by
      rw [← hW8]
      simp (disch := omega) only [hq_put, HK5.out, Option.map_some, setIn_cells]
      rfl
    have hg4 : W8.heap[w.heap.size]? = some (.cells #[.int .i64 0, .int .i64 0, .int .i64 0, .bool false, .bool false] 30 (0, 0)) := by
      rw [← hW8]
      simp (disch := omega) only [hq_cell, HK4.out]
    have HE8 : Hid (Ext w W8) := Lib.hid (by rw [← hW8]; exact ext_set HX.out (show w.heap.size ≤ w.heap.size + 1 by omega))
    rw [hW8]
    clear hW8 hc2 hf2 HX HK4 HK5 HAT HIT HP1 HP2 HCUT HG4 HG5
    go_wp2_with (first | ((with_reducible refine wpl_guard (isLoad 30) ?_ ?_); (· rfl); refine wpl_load (t := ?_) (cs := ?_) (fr := ?_) rfl 30 _ rfl rfl ?_ Tryd.underlying30 rfl ?_ ?_; rotate_left 3; (· (first | (with_reducible assumption) | (simp (disch := (first | omega | (simp only [World.size_alloc, World.size_setCell, World.size_drew, size_setRow]; done) | (simp only [World.size_alloc, World.size_setCell, World.size_drew, size_setRow]; omega))) only [hq_at, hq_past, hq_drew, hq_drewN, hq_cell, hq_row, hq_same, rowOf_cells, Option.map_some, *]; rfl) | (simp (disch := (first | omega | (simp only [World.size_alloc, World.size_setCell, World.size_drew, size_setRow]; done) | (simp only [World.size_alloc, World.size_setCell, World.size_drew, size_setRow]; omega))) only [hq_at, hq_past, hq_drew, hq_drewN, hq_cell, hq_row, hq_same, rowOf_cells, Option.map_some, *]))); (· kernel_rfl); (try dsimp only [Act.put, List.setIfInBounds_toArray, List.set_cons_zero, List.set_cons_succ])) | ((with_reducible refine wpl_guard (isStore 30) ?_ ?_); (· rfl); refine wpl_store (t := ?_) (old := ?_) (w' := ?_) rfl 30 _ _ rfl rfl rfl ?_ ?_ ?_ ?_ ?_ ?_; rotate_left 2; (· (first | (with_reducible assumption) | (simp (disch := (first | omega | (simp only [World.size_alloc, World.size_setCell, World.size_drew, size_setRow]; done) | (simp only [World.size_alloc, World.size_setCell, World.size_drew, size_setRow]; omega))) only [hq_at, hq_past, hq_drew, hq_drewN, hq_cell, hq_row, hq_same, rowOf_cells, Option.map_some, *]; rfl) | (simp (disch := (first | omega | (simp only [World.size_alloc, World.size_setCell, World.size_drew, size_setRow]; done) | (simp only [World.size_alloc, World.size_setCell, World.size_drew, size_setRow]; omega))) only [hq_at, hq_past, hq_drew, hq_drewN, hq_cell, hq_row, hq_same, rowOf_cells, Option.map_some, *]))); (· kernel_rfl); (· rfl); (· rfl); rotate_left 1; (· (first | (simp (disch := (first | omega | (simp only [World.size_alloc, World.size_setCell, World.size_drew, size_setRow]; done) | (simp only [World.size_alloc, World.size_setCell, World.size_drew, size_setRow]; omega))) only [setRow_at, setRow_past, setRow_drew]; rfl) | rfl))))
    obtain ⟨W9, hW9, hE9, hG9⟩ := put_blk (W := w) HE8.out (Nat.le_refl _) hg4 #[.int .i64 (s : Int), .int .i64 (c : Int), .int .i64 (r : Int), .bool x, .bool y]
    rw [hW9]
    have b9 := ext_blk hG9 W9 (Ext.refl _)
    refine bodyPost_ret (v := .tuple #[refV s c r x y, .bool true]) ?_ rfl ⟨rfl, hE9⟩
    simp [results, Tryd.results58, go_sem, b9]
  · obtain ⟨hhs, hh0, hh1⟩ := HHH.out rfl
    have hh1' : (head[1]'(by omega)).toNat = 49 + s := hh1
    obtain ⟨h0, hh0e⟩ : ∃ h0, head[0]'(by omega) = h0 := ⟨_, rfl⟩
    obtain ⟨h1, hh1e⟩ : ∃ h1, head[1]'(by omega) = h1 := ⟨_, rfl⟩
    rw [hh0e] at hh0
    rw [hh1e] at hh1 hh1'
    have q0 : (h0.toNat : Int) = 83 := by omega
    have q1 : (h1.toNat : Int) - 49 = (s : Int) := by omega
    have q2 : (49 : Int) ≤ (h1.toNat : Int) := by omega
    have q3 : (h1.toNat : Int) < 52 := by omega
    have qs : (head.size : Int) = 2 := by omega
    clear hh0 hh1 hh1'
    go_enter Tryd.func58, Tryd.ntmps58
    go_wp2_with fail
    rw [HW1.out, HW2.out]
    refine (HCUT.out _ HM2.out).mono ?_
    rintro e w3 ⟨rfl, hE3⟩
    have k1 := hE3.blk HG1.out
    have k2 := hE3.blk HG2.out
    have K1 := Lib.hid k1
    have K2 := Lib.hid k2
    have hc0 := cell_of_row w3 _ 0 _ _ _ k2
    have hc1 := cell_of_row w3 _ 1 _ _ _ k2
    have hc3 := cell_of_row w3 _ 3 _ _ _ k2
    have hc4 := cell_of_row w3 _ 4 _ _ _ k2
    have hf0 := frozen_of_row w3 _ 0 _ _ k2
    have hf1 := frozen_of_row w3 _ 1 _ _ k2
    have hf3 := frozen_of_row w3 _ 3 _ _ k2
    have hf4 := frozen_of_row w3 _ 4 _ _ k2
    simp only [List.getElem?_toArray, List.getElem?_cons_zero, List.getElem?_cons_succ] at hc0 hc1 hc3 hc4
    have HE3 := Lib.hid (HE2.out.trans hE3)
    clear k1 k2 hE3 HW1 HW2
    go_wp2_with fail
    refine (HP1.out _).mono ?_
    rintro e w' ⟨rfl, hw3⟩
    have hw3 := hw3.symm
    subst hw3
    go_wp2_with fail
    refine (HP2.out _).mono ?_
    rintro e w' ⟨rfl, hw3⟩
    have hw3 := hw3.symm
    subst hw3
    go_upto_region 13 with (fail)
    obtain ⟨W5, hW5⟩ : ∃ W5, (((w3.setCell ⟨w.heap.size + 1, 0, none⟩ (.int .i64 (s : Int))).setCell ⟨w.heap.size + 1, 3, none⟩ (.bool x)).setCell ⟨w.heap.size + 1, 1, none⟩ (.int .i64 (c : Int))).setCell ⟨w.heap.size + 1, 4, none⟩ (.bool y) = W5 := ⟨_, rfl⟩
    have hg5 : W5.heap[w.heap.size + 1]? = some (.cells #[.int .i64 (s : Int), .int .i64 (c : Int), .int .i64 0, .bool x, .bool y] 30 (0, 0)) := by
      rw [← hW5]
      simp (disch := omega) only [hq_put, K2.out, Option.map_some, setIn_cells]
      rfl
    have hg4 : W5.heap[w.heap.size]? = some (.cells #[.int .i64 0, .int .i64 0, .int .i64 0, .bool false, .bool false] 30 (0, 0)) := by
      rw [← hW5]
      simp (disch := omega) only [hq_cell, K1.out]
    have hE5 : Ext w W5 := by
      rw [← hW5]
      repeat (first | (with_reducible exact HE3.out) | (with_reducible refine ext_set ?_ (show w.heap.size ≤ _ by dsimp only; omega)))
    rw [hW5]
    clear hW5 hc0 hc1 hc3 hc4 hf0 hf1 hf3 hf4 K1 K2 HE3 hb0 hb1 hb2 hb3 hne
    have HG4 := Lib.hid hg4
    have HG5 := Lib.hid hg5
    have HE5 := Lib.hid hE5
    clear hg4 hg5 hE5
    go_wp2_with fail
    refine (HAT.out _).mono ?_
    rintro e w6 ⟨rfl, hE6⟩
    have b5 := ext_blk (hE6.blk HG5.out)
    have l5 := ext_lt (blk_lt (hE6.blk HG5.out))
    have hr6 := Ext.refl w6
    have hri : 1 ≤ ((r + 1 : Nat) : Int) := by omega
    have hri2 : ((r + 1 : Nat) : Int) ≤ 99 := by omega
    have hrw : IntKind.i64.wrap (((r + 1 : Nat) : Int) - 1) = (r : Int) := by rw [IntWalk.i64_in _ ⟨by omega, by omega⟩]; omega
    have hri3 : ((r + 1 : Nat) : Int) - 1 = (r : Int) := by omega
    generalize hRR : ((r + 1 : Nat) : Int) = RR at *
    have hss : (S4.toList != S4.toList) = false := by simp
    go_wp2_with fail
    refine (HIT.out _).mono ?_
    rintro e w' ⟨rfl, rfl⟩
    go_wp2_with fail
    refine (aright_any (s : Int) (c : Int) 0 _).mono ?_
    rintro e w7 ⟨rfl, hE7⟩
    rw [show insV (s : Int) (c : Int) 0 = true by simp only [insV, Bool.and_eq_true, decide_eq_true_eq]; omega]
    have hX := hE6.trans hE7
    have k4 := hX.blk HG4.out
    have k5 := hX.blk HG5.out
    have HX := Lib.hid (HE5.out.trans hX)
    have HK4 := Lib.hid k4
    have hc2 := cell_of_row w7 _ 2 _ _ _ k5
    have hf2 := frozen_of_row w7 _ 2 _ _ k5
    simp only [List.getElem?_toArray, List.getElem?_cons_zero, List.getElem?_cons_succ] at hc2
    have HK5 := Lib.hid k5
    clear hE6 hE7 hX k4 k5 b5 l5 hr6
    go_upto_region 17 with (fail)
    obtain ⟨W8, hW8⟩ : ∃ W8, w7.setCell ⟨w.heap.size + 1, 2, none⟩ (.int .i64 (r : Int)) = W8 := ⟨_, rfl⟩
    have hg5 : W8.heap[w.heap.size + 1]? = some (.cells #[.int .i64 (s : Int), .int .i64 (c : Int), .int .i64 (r : Int), .bool x, .bool y] 30 (0, 0)) := by
      rw [← hW8]
      simp (disch := omega) only [hq_put, HK5.out, Option.map_some, setIn_cells]
      rfl
    have hg4 : W8.heap[w.heap.size]? = some (.cells #[.int .i64 0, .int .i64 0, .int .i64 0, .bool false, .bool false] 30 (0, 0)) := by
      rw [← hW8]
      simp (disch := omega) only [hq_cell, HK4.out]
    have HE8 : Hid (Ext w W8) := Lib.hid (by rw [← hW8]; exact ext_set HX.out (show w.heap.size ≤ w.heap.size + 1 by omega))
    rw [hW8]
    clear hW8 hc2 hf2 HX HK4 HK5 HAT HIT HP1 HP2 HCUT HG4 HG5
    go_wp2_with (first | ((with_reducible refine wpl_guard (isLoad 30) ?_ ?_); (· rfl); refine wpl_load (t := ?_) (cs := ?_) (fr := ?_) rfl 30 _ rfl rfl ?_ Tryd.underlying30 rfl ?_ ?_; rotate_left 3; (· (first | (with_reducible assumption) | (simp (disch := (first | omega | (simp only [World.size_alloc, World.size_setCell, World.size_drew, size_setRow]; done) | (simp only [World.size_alloc, World.size_setCell, World.size_drew, size_setRow]; omega))) only [hq_at, hq_past, hq_drew, hq_drewN, hq_cell, hq_row, hq_same, rowOf_cells, Option.map_some, *]; rfl) | (simp (disch := (first | omega | (simp only [World.size_alloc, World.size_setCell, World.size_drew, size_setRow]; done) | (simp only [World.size_alloc, World.size_setCell, World.size_drew, size_setRow]; omega))) only [hq_at, hq_past, hq_drew, hq_drewN, hq_cell, hq_row, hq_same, rowOf_cells, Option.map_some, *]))); (· kernel_rfl); (try dsimp only [Act.put, List.setIfInBounds_toArray, List.set_cons_zero, List.set_cons_succ])) | ((with_reducible refine wpl_guard (isStore 30) ?_ ?_); (· rfl); refine wpl_store (t := ?_) (old := ?_) (w' := ?_) rfl 30 _ _ rfl rfl rfl ?_ ?_ ?_ ?_ ?_ ?_; rotate_left 2; (· (first | (with_reducible assumption) | (simp (disch := (first | omega | (simp only [World.size_alloc, World.size_setCell, World.size_drew, size_setRow]; done) | (simp only [World.size_alloc, World.size_setCell, World.size_drew, size_setRow]; omega))) only [hq_at, hq_past, hq_drew, hq_drewN, hq_cell, hq_row, hq_same, rowOf_cells, Option.map_some, *]; rfl) | (simp (disch := (first | omega | (simp only [World.size_alloc, World.size_setCell, World.size_drew, size_setRow]; done) | (simp only [World.size_alloc, World.size_setCell, World.size_drew, size_setRow]; omega))) only [hq_at, hq_past, hq_drew, hq_drewN, hq_cell, hq_row, hq_same, rowOf_cells, Option.map_some, *]))); (· kernel_rfl); (· rfl); (· rfl); rotate_left 1; (· (first | (simp (disch := (first | omega | (simp only [World.size_alloc, World.size_setCell, World.size_drew, size_setRow]; done) | (simp only [World.size_alloc, World.size_setCell, World.size_drew, size_setRow]; omega))) only [setRow_at, setRow_past, setRow_drew]; rfl) | rfl))))
    obtain ⟨W9, hW9, hE9, hG9⟩ := put_blk (W := w) HE8.out (Nat.le_refl _) hg4 #[.int .i64 (s : Int), .int .i64 (c : Int), .int .i64 (r : Int), .bool x, .bool y]
    rw [hW9]
    have b9 := ext_blk hG9 W9 (Ext.refl _)
    refine bodyPost_ret (v := .tuple #[refV s c r x y, .bool true]) ?_ rfl ⟨rfl, hE9⟩
    simp [results, Tryd.results58, go_sem, b9]
theorem mk_tail (b : UInt8) (l : List UInt8) : (mk (b :: l)).extract 1 (mk (b :: l)).size = mk l := by
  refine ByteArray.ext ?_
  rw [ByteArray.data_extract, mk_size]
  apply Array.ext'
  simp [mk]
theorem mk_head (b : UInt8) (l : List UInt8) (h : 0 < (mk (b :: l)).size) : (mk (b :: l))[0]'h = b := rfl
theorem parse_body (x y : Bool) (t c r : Nat) (w : World) (hm : MaxI w) (ht : t < 3) (hc : c < 26) (hr : r < 99) :
    Calls Tryd.prog 58 #[.string (mk (bodyL x y c r)), .int .i64 (t : Int)] w fun e w' => e = .returned (.tuple #[refV t c r x y, .bool true]) ∧ Ext w w' := by
  have hn := body_no x y hc hr
  have hl := body_len x y hr (c := c)
  have hcb := colB_nat hc
  have h36 : colB c ≠ 36 := by intro e; rw [e] at hcb; have : (36 : UInt8).toNat = 36 := rfl; omega
  obtain ⟨t1, t2⟩ := trim_dol x (colB c) (dol y ++ D2 (r + 1)) h36
  obtain ⟨t3, t4⟩ := trim_digits y (show r + 1 < 100 by omega)
  refine parse_core (mk (bodyL x y c r)) (mk []) (mk (colB c :: (dol y ++ D2 (r + 1)))) (mk (dol y ++ D2 (r + 1))) (mk (D2 (r + 1))) (mk (bodyL x y c r)) false x y t t c r w hm
    (fun w hm => ?_) (fun w => ?_) (fun w => ?_) (fun w => atoiC (r + 1) (by omega) w) (fun w => itoaC (r + 1) (by omega) w) (by rw [mk_size]; simp) ?_ (mk_tail _ _) ?_ ht hc hr (fun h => by cases h) (fun _ => rfl)
  · have := cutC (mk (bodyL x y c r)) w hm (by rw [mk_size]; omega)
    rw [mk_list, cut_no _ hn] at this
    exact this
  · have := preC (mk (bodyL x y c r)) w
    rw [mk_list, show bodyL x y c r = dol x ++ (colB c :: (dol y ++ D2 (r + 1))) from rfl, t1, t2] at this
    exact this
  · have := preC (mk (dol y ++ D2 (r + 1))) w
    rw [mk_list, t3, t4] at this
    exact this
  · rw [mk_head]; exact hcb
  · rw [mk_size]
    have : (bodyL x y c r).length = (dol x).length + (colB c :: (dol y ++ D2 (r + 1))).length := by simp [bodyL]
    omega
theorem parse_full (x y : Bool) (t : Int) (s c r : Nat) (w : World) (hm : MaxI w) (hs : s < 3) (hc : c < 26) (hr : r < 99) :
    Calls Tryd.prog 58 #[.string (mk (fullL s x y c r)), .int .i64 t] w fun e w' => e = .returned (.tuple #[refV s c r x y, .bool true]) ∧ Ext w w' := by
  have hl := body_len x y hr (c := c)
  have hcb := colB_nat hc
  have h36 : colB c ≠ 36 := by intro e; rw [e] at hcb; have : (36 : UInt8).toNat = 36 := rfl; omega
  have hsb : (UInt8.ofNat (49 + s)).toNat = 49 + s := by simp [UInt8.toNat_ofNat']; omega
  have h33 : UInt8.ofNat (49 + s) ≠ 33 := by intro e; rw [e] at hsb; have : (33 : UInt8).toNat = 33 := rfl; omega
  obtain ⟨t1, t2⟩ := trim_dol x (colB c) (dol y ++ D2 (r + 1)) h36
  obtain ⟨t3, t4⟩ := trim_digits y (show r + 1 < 100 by omega)
  refine parse_core (mk (fullL s x y c r)) (mk (bodyL x y c r)) (mk (colB c :: (dol y ++ D2 (r + 1)))) (mk (dol y ++ D2 (r + 1))) (mk (D2 (r + 1))) (mk [83, UInt8.ofNat (49 + s)]) true x y t s c r w hm
    (fun w hm => ?_) (fun w => ?_) (fun w => ?_) (fun w => atoiC (r + 1) (by omega) w) (fun w => itoaC (r + 1) (by omega) w) (by rw [mk_size]; simp) ?_ (mk_tail _ _) ?_ hs hc hr (fun _ => ⟨rfl, rfl, hsb⟩) (fun h => by cases h)
  · have := cutC (mk (fullL s x y c r)) w hm (by rw [mk_size]; simp only [fullL, List.length_cons]; omega)
    rw [mk_list, show fullL s x y c r = 83 :: UInt8.ofNat (49 + s) :: 33 :: bodyL x y c r from rfl, cut_yes _ _ _ (by decide) h33] at this
    exact this
  · have := preC (mk (bodyL x y c r)) w
    rw [mk_list, show bodyL x y c r = dol x ++ (colB c :: (dol y ++ D2 (r + 1))) from rfl, t1, t2] at this
    exact this
  · have := preC (mk (dol y ++ D2 (r + 1))) w
    rw [mk_list, t3, t4] at this
    exact this
  · rw [mk_head]; exact hcb
  · rw [mk_size]
    have : (bodyL x y c r).length = (dol x).length + (colB c :: (dol y ++ D2 (r + 1))).length := by simp [bodyL]
    omega
end Go.Proofs.YtffogjhjgmohiaaDoor
