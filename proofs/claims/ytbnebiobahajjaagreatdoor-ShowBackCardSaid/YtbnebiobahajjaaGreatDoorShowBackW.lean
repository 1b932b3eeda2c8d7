/-
  ShowBack: walk. Conditions: the arguments' own.
-/
import Derived.Test.YtbnebiobahajjaaGreatDoorShK
namespace Go.Proofs.YtbnebiobahajjaaGreatDoor.showBack
open Go.RowKit
set_option linter.unusedVariables false
set_option linter.unusedSimpArgs false

set_option maxRecDepth 100000 in
set_option maxHeartbeats 8000000 in
theorem walk (a : Option Addr) (len cap : Nat) (sheet : Int) (W : World) (hS : SeedIn W a len cap) (wn : (Lit.int .i64 sheet).wf = true) (hE : EnvX W) :
    Calls Tryz.prog 3 #[.slice a len cap, .int .i64 sheet] W fun e w' => e = .returned (.bool true) ∧ Below W.heap.size W w' := by
  obtain ⟨W1, hW1, hE1, hG1, hL1, hS1⟩ := new_blk W #[.slice a len cap] 23
  have HW1 := Lib.hid hW1
  have HE1 := Lib.hid hE1
  have HG1 := Lib.hid hG1
  have HS := Lib.hid hS
  have HQ1 := Lib.hid (hE.ext hE1)
  have HLow := Lib.hid hE.low
  clear hW1 hE1 hG1 hL1 hS1 hS hE
  go_enter Tryz.func3, Tryz.ntmps3
  go_upto_region 1 with (fail)
  rw [HW1.out]
  clear HW1
  go_wp2_with fail
  refine (fit7 W1 HQ1.out).mono ?_
  rintro e w2 ⟨rfl, hE2⟩
  have HE2 := Lib.hid hE2
  have HG2 := Lib.hid (hE2.blk HG1.out)
  have c2 : w2.cell? ⟨W.heap.size, 0, none⟩ = some (.slice a len cap) := by rw [cell_of_row w2 W.heap.size 0 _ _ _ HG2.out]; rfl
  clear hE2
  by_cases hz : 200 < len
  · have hz' : (200 : Int) < (len : Int) := by omega
    go_wp2_with fail
    go_ret
    exact ⟨rfl, HE1.out.trans HE2.out⟩
  have hz' : (len : Int) ≤ 200 := by omega
  have HSA : Hid (SeedAt W.heap.size w2) := Lib.hid (HS.out.at_ (HE1.out.trans HE2.out) (Nat.le_refl _) (by omega) HG2.out)
  clear hz
  obtain ⟨k, hk, hk3⟩ := cyc 3 sheet (by omega) (by omega)
  simp only [Int.cast_ofNat_Int] at hk
  go_wp2_with fail
  refine (show Calls Tryz.prog _ #[.pointer (some ⟨W.heap.size, 0, none⟩), .int .i64 6] w2 _ from formula 6 (by decide) W.heap.size w2 HSA.out (HQ1.out.ext HE2.out).1 HLow.out.1 (blk_lt HG2.out)).mono ?_
  rintro e w3 ⟨⟨f, t, rfl, hR3, hF3⟩, hX3, hS3⟩
  obtain ⟨W4, hW4, hE4, hG4, hL4, hS4⟩ := new_blk w3 f.cells 33
  have HW4 := Lib.hid hW4
  have HG4 := Lib.hid hG4
  have HX4 : Hid (Ext W W4) := Lib.hid ((hX3.ext (HE1.out.trans HE2.out) (Nat.le_refl _)).trans hE4)
  have HQ4 : Hid (EnvX W4) := Lib.hid (((HQ1.out.ext HE2.out).extX HLow.out hX3).ext hE4)
  have HGT := Lib.hid (ft_gt hF3)
  have HSZ : Hid (sizeT t ≤ 10000000) := Lib.hid (ft_size hF3)
  have HR4 : Hid (Rep W4 (fun _ => True) t f) := Lib.hid ((hR3.ext hE4).imp' fun _ _ _ => trivial)
  have HC := Lib.hid (formula_text (k : Int) HGT.out (by have := HSZ.out; omega) f _ W4 HR4.out HQ4.out.1)
  have HK3 := Lib.hid hk3
  have HK := Lib.hid hk
  clear hX3 hS3 c2 hW4 hE4 hL4 hS4 hF3 hR3 hk3 hk
  unfold Fl.val
  go_upto_region 7 with (first | ((with_reducible refine wpl_guard (isStore 33) ?_ ?_); (· rfl); refine wpl_store (t := ?_) (old := ?_) (w' := ?_) rfl 33 _ _ rfl rfl rfl ?_ ?_ ?_ ?_ ?_ ?_; rotate_left 2; (· (first | (with_reducible assumption) | (simp (disch := (first | omega | (simp only [World.size_alloc, World.size_setCell, World.size_drew, size_setRow]; done) | (simp only [World.size_alloc, World.size_setCell, World.size_drew, size_setRow]; omega))) only [hq_at, hq_past, hq_drew, hq_drewN, hq_cell, hq_row, hq_same, rowOf_cells, Option.map_some, *]; rfl) | (simp (disch := (first | omega | (simp only [World.size_alloc, World.size_setCell, World.size_drew, size_setRow]; done) | (simp only [World.size_alloc, World.size_setCell, World.size_drew, size_setRow]; omega))) only [hq_at, hq_past, hq_drew, hq_drewN, hq_cell, hq_row, hq_same, rowOf_cells, Option.map_some, *]))); (· kernel_rfl); (· rfl); (· rfl); rotate_left 1; (· (first | (simp (disch := (first | omega | (simp only [World.size_alloc, World.size_setCell, World.size_drew, size_setRow]; done) | (simp only [World.size_alloc, World.size_setCell, World.size_drew, size_setRow]; omega))) only [setRow_at, setRow_past, setRow_drew]; rfl) | rfl))))
  rw [HW4.out]
  try rw [HK.out]
  clear HW4
  go_wp2_with (first | ((with_reducible refine wpl_guard (isLoad 33) ?_ ?_); (· rfl); refine wpl_load (t := ?_) (cs := ?_) (fr := ?_) rfl 33 _ rfl rfl ?_ Tryz.underlying33 rfl ?_ ?_; rotate_left 3; (· (first | (with_reducible assumption) | (simp (disch := (first | omega | (simp only [World.size_alloc, World.size_setCell, World.size_drew, size_setRow]; done) | (simp only [World.size_alloc, World.size_setCell, World.size_drew, size_setRow]; omega))) only [hq_at, hq_past, hq_drew, hq_drewN, hq_cell, hq_row, hq_same, rowOf_cells, Option.map_some, *]; rfl) | (simp (disch := (first | omega | (simp only [World.size_alloc, World.size_setCell, World.size_drew, size_setRow]; done) | (simp only [World.size_alloc, World.size_setCell, World.size_drew, size_setRow]; omega))) only [hq_at, hq_past, hq_drew, hq_drewN, hq_cell, hq_row, hq_same, rowOf_cells, Option.map_some, *]))); (· kernel_rfl); (try dsimp only [Act.put, List.setIfInBounds_toArray, List.set_cons_zero, List.set_cons_succ])))
  try rw [HK.out]
  refine HC.out.mono ?_
  rintro e w5 ⟨rfl, hX5⟩
  have HX5 := Lib.hid hX5
  have HG5 := Lib.hid (hX5.blk HG4.out)
  have HQ5 := Lib.hid (HQ4.out.ext hX5)
  have HR5 := Lib.hid (HR4.out.ext hX5)
  clear hX5 hG4 HC
  have HLEN : Hid ((mk (shT (k : Int) 0 t)).size = (shT (k : Int) 0 t).length) := Lib.hid (mk_size _)
  have HSL := Lib.hid (sh_len (k : Int) HGT.out 0)
  go_upto_region 8 with (fail)
  rcases read_back HK3.out (p := (k : Int)) (.inl rfl) HGT.out with hR | ⟨hl, hR⟩ | ⟨-, q, hR⟩
  · have HP := Lib.hid (pars_any _ k _ w5 hR HK3.out HQ5.out)
    clear hR
    go_wp2_with fail
    refine HP.out.mono ?_
    rintro e w6 ⟨hX6, ⟨t', f', hR', rfl, hRep⟩ | ⟨c, p, hR', -⟩⟩
    case inr => cases hR'
    injection hR' with hR'
    subst hR'
    obtain ⟨W7, hW7, hE7, hG7, hL7, hS7⟩ := new_blk w6 f'.cells 33
    have HW7 := Lib.hid hW7
    have HX7 := Lib.hid (hX6.trans hE7)
    have HG7 := Lib.hid hG7
    have hg4 := (hX6.trans hE7).blk HG5.out
    have hsame := same_any (sizeT t) t t f f' (fun _ => True) W7 (Nat.le_refl _) (HR5.out.ext HX7.out) ((hRep.ext hE7).imp' fun _ _ _ => trivial)
    rw [sameT_self] at hsame
    have HSM := Lib.hid hsame
    clear hX6 hRep hW7 hE7 hL7 hS7 hsame HP
    unfold Fl.val at HSM ⊢
    go_upto_region 9 with (first | ((with_reducible refine wpl_guard (isStore 33) ?_ ?_); (· rfl); refine wpl_store (t := ?_) (old := ?_) (w' := ?_) rfl 33 _ _ rfl rfl rfl ?_ ?_ ?_ ?_ ?_ ?_; rotate_left 2; (· (first | (with_reducible assumption) | (simp (disch := (first | omega | (simp only [World.size_alloc, World.size_setCell, World.size_drew, size_setRow]; done) | (simp only [World.size_alloc, World.size_setCell, World.size_drew, size_setRow]; omega))) only [hq_at, hq_past, hq_drew, hq_drewN, hq_cell, hq_row, hq_same, rowOf_cells, Option.map_some, *]; rfl) | (simp (disch := (first | omega | (simp only [World.size_alloc, World.size_setCell, World.size_drew, size_setRow]; done) | (simp only [World.size_alloc, World.size_setCell, World.size_drew, size_setRow]; omega))) only [hq_at, hq_past, hq_drew, hq_drewN, hq_cell, hq_row, hq_same, rowOf_cells, Option.map_some, *]))); (· kernel_rfl); (· rfl); (· rfl); rotate_left 1; (· (first | (simp (disch := (first | omega | (simp only [World.size_alloc, World.size_setCell, World.size_drew, size_setRow]; done) | (simp only [World.size_alloc, World.size_setCell, World.size_drew, size_setRow]; omega))) only [setRow_at, setRow_past, setRow_drew]; rfl) | rfl))))
    rw [HW7.out]
    clear HW7
    go_wp2_with (first | ((with_reducible refine wpl_guard (isLoad 33) ?_ ?_); (· rfl); refine wpl_load_want (t := ?_) (cs := ?_) (fr := ?_) (by rfl) 33 _ rfl rfl ?_ Tryz.underlying33 rfl ?_ ?_; rotate_left 3; (· (first | (with_reducible assumption) | (simp (disch := (first | omega | (simp only [World.size_alloc, World.size_setCell, World.size_drew, size_setRow]; done) | (simp only [World.size_alloc, World.size_setCell, World.size_drew, size_setRow]; omega))) only [hq_at, hq_past, hq_drew, hq_drewN, hq_cell, hq_row, hq_same, rowOf_cells, Option.map_some, *]; rfl) | (simp (disch := (first | omega | (simp only [World.size_alloc, World.size_setCell, World.size_drew, size_setRow]; done) | (simp only [World.size_alloc, World.size_setCell, World.size_drew, size_setRow]; omega))) only [hq_at, hq_past, hq_drew, hq_drewN, hq_cell, hq_row, hq_same, rowOf_cells, Option.map_some, *]))); (· kernel_rfl); (try dsimp only [Act.put, List.setIfInBounds_toArray, List.set_cons_zero, List.set_cons_succ])))
    refine HSM.out.mono ?_
    rintro e w8 ⟨rfl, hX8⟩
    have HX8 := Lib.hid hX8
    clear hX8 HSM hG7 hg4
    go_wp2_with fail
    go_ret
    exact ⟨rfl, HX4.out.trans (HX5.out.trans (HX7.out.trans HX8.out))⟩
  all_goals
    have HP := Lib.hid (pars_any _ k _ w5 hR HK3.out HQ5.out)
    clear hR
    go_wp2_with fail
    refine HP.out.mono ?_
    rintro e w6 ⟨hX6, ⟨t', f', hR', -⟩ | ⟨c, p, hR', rfl⟩⟩
    case inl => cases hR'
    injection hR' with hR'
    injection hR' with hR1 hR2
    subst hR1 hR2
    obtain ⟨W7, hW7, hE7, hG7, hL7, hS7⟩ := new_blk w6 zF.cells 33
    have HW7 := Lib.hid hW7
    have HX7 := Lib.hid (hX6.trans hE7)
    clear hX6 hW7 hE7 hG7 hL7 hS7 HP
    unfold Fl.val
    go_upto_region 9 with (first | ((with_reducible refine wpl_guard (isStore 33) ?_ ?_); (· rfl); refine wpl_store (t := ?_) (old := ?_) (w' := ?_) rfl 33 _ _ rfl rfl rfl ?_ ?_ ?_ ?_ ?_ ?_; rotate_left 2; (· (first | (with_reducible assumption) | (simp (disch := (first | omega | (simp only [World.size_alloc, World.size_setCell, World.size_drew, size_setRow]; done) | (simp only [World.size_alloc, World.size_setCell, World.size_drew, size_setRow]; omega))) only [hq_at, hq_past, hq_drew, hq_drewN, hq_cell, hq_row, hq_same, rowOf_cells, Option.map_some, *]; rfl) | (simp (disch := (first | omega | (simp only [World.size_alloc, World.size_setCell, World.size_drew, size_setRow]; done) | (simp only [World.size_alloc, World.size_setCell, World.size_drew, size_setRow]; omega))) only [hq_at, hq_past, hq_drew, hq_drewN, hq_cell, hq_row, hq_same, rowOf_cells, Option.map_some, *]))); (· kernel_rfl); (· rfl); (· rfl); rotate_left 1; (· (first | (simp (disch := (first | omega | (simp only [World.size_alloc, World.size_setCell, World.size_drew, size_setRow]; done) | (simp only [World.size_alloc, World.size_setCell, World.size_drew, size_setRow]; omega))) only [setRow_at, setRow_past, setRow_drew]; rfl) | rfl))))
    rw [HW7.out]
    clear HW7
  · obtain ⟨T, hT⟩ : ∃ T, mk (shT (k : Int) 0 t) = T := ⟨_, rfl⟩
    rw [hT] at HLEN ⊢
    have hl1 : (200 : Int) < (T.size : Int) := by have := HLEN.out; omega
    have hl2 : (T.size : Int) ≤ 4000000000 := by have := HLEN.out; have := HSL.out; have := HSZ.out; omega
    clear hT hl
    go_wp2_with fail
    go_ret
    exact ⟨rfl, HX4.out.trans (HX5.out.trans HX7.out)⟩
  · obtain ⟨T, hT⟩ : ∃ T, mk (shT (k : Int) 0 t) = T := ⟨_, rfl⟩
    rw [hT] at HLEN ⊢
    have hl2 : (T.size : Int) ≤ 4000000000 := by have := HLEN.out; have := HSL.out; have := HSZ.out; omega
    clear hT
    by_cases hl1 : (200 : Int) < (T.size : Int)
    all_goals
      go_wp2_with fail
      go_ret
      exact ⟨rfl, HX4.out.trans (HX5.out.trans HX7.out)⟩
end Go.Proofs.YtbnebiobahajjaaGreatDoor.showBack
