/-
  ParseAny: walk. Conditions: the arguments' own.
-/
import Derived.Test.YtffogjhjgmohiaaDoorParT
namespace Go.Proofs.YtffogjhjgmohiaaDoor.parseAny
open Go.RowKit
set_option linter.unusedVariables false
set_option linter.unusedSimpArgs false

set_option maxRecDepth 100000 in
set_option maxHeartbeats 8000000 in
theorem walk (S : ByteArray) (sheet : Int) (W : World) (wS : S.size ≤ 9223372036854775807) (wn : (Lit.int .i64 sheet).wf = true) (hE : EnvX W) :
    Calls Tryd.prog 9 #[.string S, .int .i64 sheet] W fun e w' => e = .returned (.bool true) ∧ Below W.heap.size W w' := by
  have HE := Lib.hid hE
  have HF := Lib.hid (fit6 W hE)
  clear hE
  go_enter Tryd.func9, Tryd.ntmps9
  go_wp2_with fail
  refine HF.out.mono ?_
  rintro e w2 ⟨rfl, hX2⟩
  have HX2 := Lib.hid hX2
  clear hX2 HF
  by_cases hz : 400 < S.size
  · have hz' : (400 : Int) < (S.size : Int) := by omega
    go_wp2_with fail
    go_ret
    exact ⟨rfl, HX2.out⟩
  have hz' : (S.size : Int) ≤ 400 := by omega
  go_wp2_with fail
  obtain ⟨k, hk, hk3⟩ := cyc 3 sheet (by omega) (by omega)
  simp only [Int.cast_ofNat_Int] at hk
  rw [hk]
  obtain ⟨R, hR⟩ := Option.ne_none_iff_exists'.1 (parse_ends S.data.toList k)
  have hP := pars_any S.data.toList k R w2 hR hk3 (HE.out.ext HX2.out)
  rw [mk_self] at hP
  have HO := Lib.hid (parse_out (fun _ => 0) (fun _ => 0) ⟨fun _ _ => Nat.le_refl _, fun _ _ _ _ => Nat.le_refl _, fun _ _ => Nat.le_refl _, fun _ _ => Nat.le_refl _, fun _ _ _ _ _ _ => Nat.le_refl _, fun _ _ _ => Nat.le_refl _⟩ hk3 hR)
  have HP := Lib.hid hP
  have HLEN : Hid (S.data.toList.length = S.size) := Lib.hid (by simp)
  clear hk hR hP
  refine HP.out.mono ?_
  rintro e w3 ⟨hX3, ⟨t, f, rfl, rfl, hRep⟩ | ⟨c, p, rfl, rfl⟩⟩
  · obtain ⟨hg, hd, -, hl, -⟩ := HO.out
    have hl' : (S.size : Int) ≤ 200 := by rw [HLEN.out] at hl; omega
    have HGR := Lib.hid (gt_right hg 200 (by omega))
    obtain ⟨W4, hW4, hE4, hG4, hL4, hS4⟩ := new_blk w3 f.cells 33
    have HW4 := Lib.hid hW4
    have HX4 := Lib.hid (hX3.trans hE4)
    have HT := Lib.hid (tright_any t f _ W4 (hRep.ext hE4) (HE.out.ext (HX2.out.trans HX4.out)).1.1 (HE.out.ext (HX2.out.trans HX4.out)).1.2)
    clear hX3 hRep hW4 hE4 hL4 hS4 hg hd hl HP hz
    unfold Fl.val at HT ⊢
    go_upto_region 7 with (first | ((with_reducible refine wpl_guard (isStore 33) ?_ ?_); (· rfl); refine wpl_store (t := ?_) (old := ?_) (w' := ?_) rfl 33 _ _ rfl rfl rfl ?_ ?_ ?_ ?_ ?_ ?_; rotate_left 2; (· (first | (with_reducible assumption) | (simp (disch := (first | omega | (simp only [World.size_alloc, World.size_setCell, World.size_drew, size_setRow]; done) | (simp only [World.size_alloc, World.size_setCell, World.size_drew, size_setRow]; omega))) only [hq_at, hq_past, hq_drew, hq_drewN, hq_cell, hq_row, hq_same, rowOf_cells, Option.map_some, *]; rfl) | (simp (disch := (first | omega | (simp only [World.size_alloc, World.size_setCell, World.size_drew, size_setRow]; done) | (simp only [World.size_alloc, World.size_setCell, World.size_drew, size_setRow]; omega))) only [hq_at, hq_past, hq_drew, hq_drewN, hq_cell, hq_row, hq_same, rowOf_cells, Option.map_some, *]))); (· kernel_rfl); (· rfl); (· rfl); rotate_left 1; (· (first | (simp (disch := (first | omega | (simp only [World.size_alloc, World.size_setCell, World.size_drew, size_setRow]; done) | (simp only [World.size_alloc, World.size_setCell, World.size_drew, size_setRow]; omega))) only [setRow_at, setRow_past, setRow_drew]; rfl) | rfl))))
    rw [HW4.out]
    clear HW4
    go_wp2_with (first | ((with_reducible refine wpl_guard (isLoad 33) ?_ ?_); (· rfl); refine wpl_load (t := ?_) (cs := ?_) (fr := ?_) rfl 33 _ rfl rfl ?_ Tryd.underlying33 rfl ?_ ?_; rotate_left 3; (· (first | (with_reducible assumption) | (simp (disch := (first | omega | (simp only [World.size_alloc, World.size_setCell, World.size_drew, size_setRow]; done) | (simp only [World.size_alloc, World.size_setCell, World.size_drew, size_setRow]; omega))) only [hq_at, hq_past, hq_drew, hq_drewN, hq_cell, hq_row, hq_same, rowOf_cells, Option.map_some, *]; rfl) | (simp (disch := (first | omega | (simp only [World.size_alloc, World.size_setCell, World.size_drew, size_setRow]; done) | (simp only [World.size_alloc, World.size_setCell, World.size_drew, size_setRow]; omega))) only [hq_at, hq_past, hq_drew, hq_drewN, hq_cell, hq_row, hq_same, rowOf_cells, Option.map_some, *]))); (· kernel_rfl); (try dsimp only [Act.put, List.setIfInBounds_toArray, List.set_cons_zero, List.set_cons_succ])))
    refine HT.out.mono ?_
    rintro e w5 ⟨rfl, hX5⟩
    rw [HGR.out]
    have HX5 := Lib.hid hX5
    clear hX5 hG4
    go_wp2_with fail
    go_ret
    exact ⟨rfl, HX2.out.trans (HX4.out.trans HX5.out)⟩
  · obtain ⟨h1, h6, hp, hlong⟩ := HO.out
    rw [HLEN.out] at hp hlong
    obtain ⟨W4, hW4, hE4, hG4, hL4, hS4⟩ := new_blk w3 zF.cells 33
    have HW4 := Lib.hid hW4
    have HX4 := Lib.hid (hX3.trans hE4)
    have c0 : W4.cell? ⟨w3.heap.size, 0, none⟩ = some (.int .i64 0) := by rw [cell_of_row W4 w3.heap.size 0 _ _ _ hG4]; rfl
    have c16 : W4.cell? ⟨w3.heap.size, 16, none⟩ = some (.slice none 0 0) := by rw [cell_of_row W4 w3.heap.size 16 _ _ _ hG4]; rfl
    have hp1 : (p : Int) ≤ (S.size : Int) := by omega
    have hc : c = 1 ∨ c = 2 ∨ c = 3 ∨ c = 4 ∨ c = 5 ∨ c = 6 := by omega
    have hlong' : (S.size : Int) ≤ 200 ∨ (200 < (S.size : Int) ∧ c = 4) := by
      by_cases h : 200 < S.size
      · exact .inr ⟨by omega, hlong h⟩
      · exact .inl (by omega)
    clear hX3 hW4 hE4 hG4 hL4 hS4 h1 h6 hp hlong HP hz HO
    unfold Fl.val
    rcases hlong' with hs | ⟨hs, rfl⟩
    · rcases hc with rfl | rfl | rfl | rfl | rfl | rfl
      all_goals
        go_upto_region 7 with (first | ((with_reducible refine wpl_guard (isStore 33) ?_ ?_); (· rfl); refine wpl_store (t := ?_) (old := ?_) (w' := ?_) rfl 33 _ _ rfl rfl rfl ?_ ?_ ?_ ?_ ?_ ?_; rotate_left 2; (· (first | (with_reducible assumption) | (simp (disch := (first | omega | (simp only [World.size_alloc, World.size_setCell, World.size_drew, size_setRow]; done) | (simp only [World.size_alloc, World.size_setCell, World.size_drew, size_setRow]; omega))) only [hq_at, hq_past, hq_drew, hq_drewN, hq_cell, hq_row, hq_same, rowOf_cells, Option.map_some, *]; rfl) | (simp (disch := (first | omega | (simp only [World.size_alloc, World.size_setCell, World.size_drew, size_setRow]; done) | (simp only [World.size_alloc, World.size_setCell, World.size_drew, size_setRow]; omega))) only [hq_at, hq_past, hq_drew, hq_drewN, hq_cell, hq_row, hq_same, rowOf_cells, Option.map_some, *]))); (· kernel_rfl); (· rfl); (· rfl); rotate_left 1; (· (first | (simp (disch := (first | omega | (simp only [World.size_alloc, World.size_setCell, World.size_drew, size_setRow]; done) | (simp only [World.size_alloc, World.size_setCell, World.size_drew, size_setRow]; omega))) only [setRow_at, setRow_past, setRow_drew]; rfl) | rfl))))
        rw [HW4.out]
        clear HW4
        go_wp2_with fail
        go_ret
        exact ⟨rfl, HX2.out.trans HX4.out⟩
    · go_upto_region 7 with (first | ((with_reducible refine wpl_guard (isStore 33) ?_ ?_); (· rfl); refine wpl_store (t := ?_) (old := ?_) (w' := ?_) rfl 33 _ _ rfl rfl rfl ?_ ?_ ?_ ?_ ?_ ?_; rotate_left 2; (· (first | (with_reducible assumption) | (simp (disch := (first | omega | (simp only [World.size_alloc, World.size_setCell, World.size_drew, size_setRow]; done) | (simp only [World.size_alloc, World.size_setCell, World.size_drew, size_setRow]; omega))) only [hq_at, hq_past, hq_drew, hq_drewN, hq_cell, hq_row, hq_same, rowOf_cells, Option.map_some, *]; rfl) | (simp (disch := (first | omega | (simp only [World.size_alloc, World.size_setCell, World.size_drew, size_setRow]; done) | (simp only [World.size_alloc, World.size_setCell, World.size_drew, size_setRow]; omega))) only [hq_at, hq_past, hq_drew, hq_drewN, hq_cell, hq_row, hq_same, rowOf_cells, Option.map_some, *]))); (· kernel_rfl); (· rfl); (· rfl); rotate_left 1; (· (first | (simp (disch := (first | omega | (simp only [World.size_alloc, World.size_setCell, World.size_drew, size_setRow]; done) | (simp only [World.size_alloc, World.size_setCell, World.size_drew, size_setRow]; omega))) only [setRow_at, setRow_past, setRow_drew]; rfl) | rfl))))
      rw [HW4.out]
      clear HW4
      go_wp2_with fail
      go_ret
      exact ⟨rfl, HX2.out.trans HX4.out⟩
end Go.Proofs.YtffogjhjgmohiaaDoor.parseAny
