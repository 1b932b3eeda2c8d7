/-
  ParseBlanks: walk. Conditions: the arguments' own.
-/
import Derived.Test.YtffogjhjgmohiaaDoorParT
import Derived.Test.YtffogjhjgmohiaaDoorParW
namespace Go.Proofs.YtffogjhjgmohiaaDoor.parseBlanks
open Go.RowKit
set_option linter.unusedVariables false
set_option linter.unusedSimpArgs false

theorem mk_app (a b : List UInt8) : mk a ++ mk b = mk (a ++ b) := by
  apply ByteArray.ext
  simp [mk]
def pieceV : Array Value := #[.string ⟨#[49]⟩, .string ⟨#[65, 49]⟩, .string ⟨#[83, 85, 77, 40, 65, 49, 58, 66, 50, 41]⟩, .string ⟨#[34, 120, 34]⟩, .string ⟨#[40, 50, 41]⟩, .string ⟨#[45, 51]⟩, .string ⟨#[73, 70, 40, 84, 82, 85, 69, 44, 49, 44, 50, 41]⟩, .string ⟨#[84, 82, 85, 69]⟩, .string ⟨#[35, 78, 47, 65]⟩, .string ⟨#[82, 65, 84, 69]⟩]
def opV : Array Value := #[.string ⟨#[43]⟩, .string ⟨#[45]⟩, .string ⟨#[42]⟩, .string ⟨#[47]⟩, .string ⟨#[38]⟩, .string ⟨#[61]⟩, .string ⟨#[60, 62]⟩]
theorem piece_at {k : Nat} (h : k < 10) : pieceV[k]? = some (.string (mk (pieceS.getD k []))) ∧ (pieceS.getD k []).length ≤ 20 := by
  have : k = 0 ∨ k = 1 ∨ k = 2 ∨ k = 3 ∨ k = 4 ∨ k = 5 ∨ k = 6 ∨ k = 7 ∨ k = 8 ∨ k = 9 := by omega
  rcases this with rfl | rfl | rfl | rfl | rfl | rfl | rfl | rfl | rfl | rfl <;> exact ⟨rfl, by decide⟩
theorem op_at {k : Nat} (h : k < 7) : opV[k]? = some (.string (mk (blankO.getD k []))) ∧ (blankO.getD k []).length ≤ 2 := by
  have : k = 0 ∨ k = 1 ∨ k = 2 ∨ k = 3 ∨ k = 4 ∨ k = 5 ∨ k = 6 := by omega
  rcases this with rfl | rfl | rfl | rfl | rfl | rfl | rfl <;> exact ⟨rfl, by decide⟩
theorem bsO (w : World) : (Instr.buildSlice 23 7 [(0, Value.string ⟨#[43]⟩), (1, .string ⟨#[45]⟩), (2, .string ⟨#[42]⟩), (3, .string ⟨#[47]⟩), (4, .string ⟨#[38]⟩), (5, .string ⟨#[61]⟩), (6, .string ⟨#[60, 62]⟩)].toArray).run Tryd.prog w = .ok (.slice (some ⟨w.heap.size, 0, none⟩) 7 7) (w.alloc (.cells opV 9)) := by kernel_rfl
set_option maxRecDepth 100000 in
set_option maxHeartbeats 8000000 in
theorem walk (a b c : Int) (W : World) (wa : (Lit.int .i64 a).wf = true) (wb : (Lit.int .i64 b).wf = true) (wc : (Lit.int .i64 c).wf = true) (hE : EnvX W) :
    Calls Tryd.prog 8 #[.int .i64 a, .int .i64 b, .int .i64 c] W fun e w' => e = .returned (.bool true) ∧ Below W.heap.size W w' := by
  have HE := Lib.hid hE
  have HF := Lib.hid (fit6 W hE)
  clear hE
  obtain ⟨A, hA, hA10⟩ := cyc 10 a (by omega) (by omega)
  obtain ⟨B, hB, hB10⟩ := cyc 10 b (by omega) (by omega)
  obtain ⟨C, hC, hC7⟩ := cyc 7 c (by omega) (by omega)
  simp only [Int.cast_ofNat_Int] at hA hB hC
  go_enter Tryd.func8, Tryd.ntmps8
  go_wp2_with fail
  refine HF.out.mono ?_
  rintro e w2 ⟨rfl, hX2⟩
  have HX2 := Lib.hid hX2
  clear hX2 HF
  obtain ⟨W3, hW3, hE3, hG3, hL3, hS3⟩ := new_blk w2 pieceV 9
  have HW3 := Lib.hid hW3
  have HX3 := Lib.hid (HX2.out.trans hE3)
  have hcA : W3.cell? ⟨w2.heap.size, A, none⟩ = some (.string (mk (pieceS.getD A []))) := by rw [cell_of_row W3 _ A _ _ _ hG3]; exact (piece_at hA10).1
  have hcB : W3.cell? ⟨w2.heap.size, B, none⟩ = some (.string (mk (pieceS.getD B []))) := by rw [cell_of_row W3 _ B _ _ _ hG3]; exact (piece_at hB10).1
  have HA := Lib.hid hA10
  have HB := Lib.hid hB10
  have HC := Lib.hid hC7
  have hAI : (A : Int) < 10 := by omega
  have hBI : (B : Int) < 10 := by omega
  have hCI : (C : Int) < 7 := by omega
  obtain ⟨X, hX⟩ : ∃ X, mk (pieceS.getD A []) = X := ⟨_, rfl⟩
  obtain ⟨Y, hY⟩ : ∃ Y, mk (pieceS.getD B []) = Y := ⟨_, rfl⟩
  obtain ⟨O, hO⟩ : ∃ O, mk (blankO.getD C []) = O := ⟨_, rfl⟩
  rw [hX] at hcA
  rw [hY] at hcB
  have HXX := Lib.hid hX
  have HYY := Lib.hid hY
  have HOO := Lib.hid hO
  have hXs : (X.size : Int) ≤ 20 := by rw [← hX, mk_size]; have := (piece_at hA10).2; omega
  have hYs : (Y.size : Int) ≤ 20 := by rw [← hY, mk_size]; have := (piece_at hB10).2; omega
  have hOs : (O.size : Int) ≤ 2 := by rw [← hO, mk_size]; have := (op_at hC7).2; omega
  obtain ⟨W4, hW4, hE4, hG4, hL4, hS4⟩ := new_blk W3.drew opV 9
  have HX4 := Lib.hid (HX3.out.trans ((ext_drew (Ext.refl W3)).trans hE4))
  have hcO : W4.cell? ⟨W3.heap.size, C, none⟩ = some (.string O) := by rw [show W3.heap.size = W3.drew.heap.size from rfl, cell_of_row W4 _ C _ _ _ hG4, ← hO]; exact (op_at hC7).1
  have hbs : (Instr.buildSlice 23 7 [(0, Value.string ⟨#[43]⟩), (1, .string ⟨#[45]⟩), (2, .string ⟨#[42]⟩), (3, .string ⟨#[47]⟩), (4, .string ⟨#[38]⟩), (5, .string ⟨#[61]⟩), (6, .string ⟨#[60, 62]⟩)].toArray).run Tryd.prog W3.drew = .ok (.slice (some ⟨W3.heap.size, 0, none⟩) 7 7) W4 := by rw [← hW4]; exact bsO _
  clear hW3 hE3 hG3 hL3 hS3 hA10 hB10 hC7 hX hY hO hW4 hE4 hG4 hL4 hS4
  unfold pieceV at HW3
  go_upto_region 4 with (fail)
  rw [HW3.out]
  clear HW3
  go_region
  have hS1 : X ++ O ++ Y = mk (tightS A B C) := by
    rw [← HXX.out, ← HYY.out, ← HOO.out, mk_app, mk_app]
    simp [tightS]
  have hS2 : ⟨#[32]⟩ ++ X ++ ⟨#[32, 32]⟩ ++ O ++ ⟨#[32]⟩ ++ Y ++ ⟨#[32]⟩ = mk (wideS A B C) := by
    show mk [32] ++ X ++ mk [32, 32] ++ O ++ mk [32] ++ Y ++ mk [32] = _
    rw [← HXX.out, ← HYY.out, ← HOO.out]
    simp only [mk_app]
    simp [wideS]
  have HS2 := Lib.hid hS2
  clear hS2
  obtain ⟨s, t, u, hk, hR1, hR2⟩ := blanks_at HA.out HB.out HC.out
  have HP1 := Lib.hid (pars_any (tightS A B C) 0 _ W4 hR1 (by decide) (HE.out.ext HX4.out))
  have HP2 := Lib.hid (fun w hE => pars_any (wideS A B C) 0 _ w hR2 (by decide) hE)
  have HK := Lib.hid hk
  clear hR1 hR2 hk
  go_wp2_with (first | ((with_reducible refine wpl_guard isBS ?_ ?_); (· rfl); refine wpl_bs rfl _ _ _ rfl ?_ (hbs) ?_; (· rfl)))
  refine HP1.out.mono ?_
  rintro e w5 ⟨hX5, ⟨t', f, hRe, rfl, hRep⟩ | ⟨c, p, hRe, -⟩⟩
  case inr => cases hRe
  injection hRe with hRe
  subst hRe
  obtain ⟨W5, hW5, hE5, hG5, hL5, hS5⟩ := new_blk w5 f.cells 33
  have HW5 := Lib.hid hW5
  have HG5 := Lib.hid hG5
  have HX5 := Lib.hid (HX4.out.trans (hX5.trans hE5))
  have HR5 := Lib.hid ((hRep.ext hE5).imp' (S' := fun _ => True) (fun _ _ _ => trivial))
  have HC2 := Lib.hid (HP2.out W5 (HE.out.ext HX5.out))
  have hS2 := HS2.out
  clear hX5 hRep hW5 hE5 hG5 hL5 hS5 hS1 HP1 HP2 hbs hcA hcB hcO
  unfold Fl.val
  go_upto_region 7 with (first | ((with_reducible refine wpl_guard (isStore 33) ?_ ?_); (· rfl); refine wpl_store (t := ?_) (old := ?_) (w' := ?_) rfl 33 _ _ rfl rfl rfl ?_ ?_ ?_ ?_ ?_ ?_; rotate_left 2; (· (first | (with_reducible assumption) | (simp (disch := (first | omega | (simp only [World.size_alloc, World.size_setCell, World.size_drew, size_setRow]; done) | (simp only [World.size_alloc, World.size_setCell, World.size_drew, size_setRow]; omega))) only [hq_at, hq_past, hq_drew, hq_drewN, hq_cell, hq_row, hq_same, rowOf_cells, Option.map_some, *]; rfl) | (simp (disch := (first | omega | (simp only [World.size_alloc, World.size_setCell, World.size_drew, size_setRow]; done) | (simp only [World.size_alloc, World.size_setCell, World.size_drew, size_setRow]; omega))) only [hq_at, hq_past, hq_drew, hq_drewN, hq_cell, hq_row, hq_same, rowOf_cells, Option.map_some, *]))); (· kernel_rfl); (· rfl); (· rfl); rotate_left 1; (· (first | (simp (disch := (first | omega | (simp only [World.size_alloc, World.size_setCell, World.size_drew, size_setRow]; done) | (simp only [World.size_alloc, World.size_setCell, World.size_drew, size_setRow]; omega))) only [setRow_at, setRow_past, setRow_drew]; rfl) | rfl))))
  rw [HW5.out]
  clear HW5
  go_wp2_with fail
  clear hS2
  refine HC2.out.mono ?_
  rintro e w6 ⟨hX6, ⟨t', f', hRe, rfl, hRep⟩ | ⟨c, p, hRe, -⟩⟩
  case inr => cases hRe
  injection hRe with hRe
  subst hRe
  obtain ⟨W6, hW6, hE6, hG6, hL6, hS6⟩ := new_blk w6 f'.cells 33
  have HW6 := Lib.hid hW6
  have HX56 := Lib.hid (hX6.trans hE6)
  have HR6 := Lib.hid ((hRep.ext hE6).imp' (S' := fun _ => True) (fun _ _ _ => trivial))
  have HSM := Lib.hid (same_any _ _ _ f f' (fun _ => True) W6 (Nat.le_refl _) (HR5.out.ext HX56.out) HR6.out)
  rw [sameT_self] at HSM
  have hg5 := HX56.out.blk HG5.out
  have HG6 := Lib.hid hg5
  have hg6 := hG6
  obtain ⟨p5, cap5, hf5⟩ := HR5.out.own
  have HF5 := Lib.hid hf5
  clear hX6 hRep hW6 hE6 hG6 hL6 hS6 HC2 hf5
  unfold Fl.val at HSM ⊢
  go_upto_region 8 with (first | ((with_reducible refine wpl_guard (isStore 33) ?_ ?_); (· rfl); refine wpl_store (t := ?_) (old := ?_) (w' := ?_) rfl 33 _ _ rfl rfl rfl ?_ ?_ ?_ ?_ ?_ ?_; rotate_left 2; (· (first | (with_reducible assumption) | (simp (disch := (first | omega | (simp only [World.size_alloc, World.size_setCell, World.size_drew, size_setRow]; done) | (simp only [World.size_alloc, World.size_setCell, World.size_drew, size_setRow]; omega))) only [hq_at, hq_past, hq_drew, hq_drewN, hq_cell, hq_row, hq_same, rowOf_cells, Option.map_some, *]; rfl) | (simp (disch := (first | omega | (simp only [World.size_alloc, World.size_setCell, World.size_drew, size_setRow]; done) | (simp only [World.size_alloc, World.size_setCell, World.size_drew, size_setRow]; omega))) only [hq_at, hq_past, hq_drew, hq_drewN, hq_cell, hq_row, hq_same, rowOf_cells, Option.map_some, *]))); (· kernel_rfl); (· rfl); (· rfl); rotate_left 1; (· (first | (simp (disch := (first | omega | (simp only [World.size_alloc, World.size_setCell, World.size_drew, size_setRow]; done) | (simp only [World.size_alloc, World.size_setCell, World.size_drew, size_setRow]; omega))) only [setRow_at, setRow_past, setRow_drew]; rfl) | rfl))))
  rw [HW6.out]
  clear HW6
  go_wp2_with (first | ((with_reducible refine wpl_guard (isLoad 33) ?_ ?_); (· rfl); refine wpl_load_want (t := ?_) (cs := ?_) (fr := ?_) (by rfl) 33 _ rfl rfl ?_ Tryd.underlying33 rfl ?_ ?_; rotate_left 3; (· (first | (with_reducible assumption) | (simp (disch := (first | omega | (simp only [World.size_alloc, World.size_setCell, World.size_drew, size_setRow]; done) | (simp only [World.size_alloc, World.size_setCell, World.size_drew, size_setRow]; omega))) only [hq_at, hq_past, hq_drew, hq_drewN, hq_cell, hq_row, hq_same, rowOf_cells, Option.map_some, *]; rfl) | (simp (disch := (first | omega | (simp only [World.size_alloc, World.size_setCell, World.size_drew, size_setRow]; done) | (simp only [World.size_alloc, World.size_setCell, World.size_drew, size_setRow]; omega))) only [hq_at, hq_past, hq_drew, hq_drewN, hq_cell, hq_row, hq_same, rowOf_cells, Option.map_some, *]))); (· kernel_rfl); (try dsimp only [Act.put, List.setIfInBounds_toArray, List.set_cons_zero, List.set_cons_succ])))
  refine HSM.out.mono ?_
  rintro e w7 ⟨rfl, hX7⟩
  have HX7 := Lib.hid hX7
  have hg7 := hX7.blk HG6.out
  rw [HF5.out] at hg7
  have c0 : w7.cell? ⟨w5.heap.size, 0, none⟩ = some (.int .i64 7) := by rw [cell_of_row w7 w5.heap.size 0 _ _ _ hg7, ← HK.out]; rfl
  have c16 : w7.cell? ⟨w5.heap.size, 16, none⟩ = some (.slice p5 2 cap5) := by rw [cell_of_row w7 w5.heap.size 16 _ _ _ hg7]; rfl
  clear hX7 hg7 hg5 hg6
  go_wp2_with fail
  go_ret
  exact ⟨rfl, HX5.out.trans (HX56.out.trans HX7.out)⟩
end Go.Proofs.YtffogjhjgmohiaaDoor.parseBlanks
