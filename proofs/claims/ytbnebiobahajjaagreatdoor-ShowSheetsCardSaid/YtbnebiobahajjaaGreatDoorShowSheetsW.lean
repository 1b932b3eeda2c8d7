/-
  ShowSheets: walk. Conditions: the arguments' own.
-/
import Derived.Test.YtbnebiobahajjaaGreatDoorShK
namespace Go.Proofs.YtbnebiobahajjaaGreatDoor.showSheets
open Go.RowKit
set_option linter.unusedVariables false
set_option linter.unusedSimpArgs false

theorem ref_shorter {r : Rf} (p : Int) (h : insV r.s r.c r.r = true) : (refL r p).length ≤ (refL r (-1)).length := by
  have hs := (ins_nat h).2.1
  have h1 : (refL r (-1)) = fullL r.s.toNat r.x r.y r.c.toNat r.r.toNat := by
    unfold refL
    rw [if_neg (by omega)]
  rw [h1]
  unfold refL
  split
  · simp only [fullL, List.length_cons]; omega
  · exact Nat.le_refl _
theorem brk_len' (b : Bool) (l : List Pc) : (src (brk b l)).length = (src l).length + (if b = true then 2 else 0) := by
  cases b <;> simp [brk, src, signP]
theorem tail_shorter (p : Int) : ∀ ts : List Tr, (∀ t ∈ ts, ∀ v, (src (pcs p v t)).length ≤ (src (pcs (-1) v t)).length) → (src ((ts.map (pcs p 0)).flatMap fun y => signP [44] :: y)).length ≤ (src ((ts.map (pcs (-1) 0)).flatMap fun y => signP [44] :: y)).length
  | [], _ => Nat.le_refl _
  | t :: r, h => by
    have h1 := h t (by simp) 0
    have h2 := tail_shorter p r (fun x hx => h x (List.mem_cons_of_mem _ hx))
    simp only [List.map_cons, List.flatMap_cons, src_len_app, src_len_cons]
    omega
theorem join_shorter (p : Int) : ∀ ts : List Tr, (∀ t ∈ ts, ∀ v, (src (pcs p v t)).length ≤ (src (pcs (-1) v t)).length) → (src (joinP (ts.map (pcs p 0)))).length ≤ (src (joinP (ts.map (pcs (-1) 0)))).length
  | [], _ => Nat.le_refl _
  | t :: r, h => by
    have h1 := h t (by simp) 0
    have h2 := tail_shorter p r (fun x hx => h x (List.mem_cons_of_mem _ hx))
    simp only [List.map_cons]
    rw [joinP, joinP, src_len_app, src_len_app]
    omega
theorem shorter (p : Int) {t : Tr} (h : GT t) : ∀ v, (src (pcs p v t)).length ≤ (src (pcs (-1) v t)).length := by
  induction h with
  | lit k n s h h0 hn hs => intro v; rw [pcs_lit, pcs_lit]; exact Nat.le_refl _
  | one r h => intro v; rw [pcs_one, pcs_one, src_one, src_one]; exact ref_shorter p h
  | area a b h h' hs =>
    intro v
    rw [pcs_area, pcs_area]
    simp only [src_len_cons]
    have : (wordP (refL a p)).2.2.length ≤ (wordP (refL a (-1))).2.2.length := ref_shorter p h
    omega
  | word l h => intro v; rw [pcs_word, pcs_word]; exact Nat.le_refl _
  | neg t h ih =>
    intro v
    rw [pcs_neg, pcs_neg, brk_len', brk_len', src_len_cons, src_len_cons]
    have := ih 4
    omega
  | pct t h ih =>
    intro v
    rw [pcs_pct, pcs_pct, src_len_app, src_len_app]
    have := ih 5
    omega
  | bin op t u h ht hu iht ihu =>
    intro v
    rw [pcs_bin, pcs_bin, brk_len', brk_len', src_len_app, src_len_app, src_len_cons, src_len_cons]
    have := iht (lvlOf op)
    have := ihu (lvlOf op + 1)
    omega
  | call f ts h ht ih =>
    intro v
    rw [pcs_call, pcs_call, src_len_cons, src_len_cons, src_len_cons, src_len_cons, src_len_app, src_len_app]
    have := join_shorter p ts ih
    omega
set_option maxRecDepth 100000 in
set_option maxHeartbeats 8000000 in
theorem walk (a : Option Addr) (len cap : Nat) (sheet : Int) (W : World) (hS : SeedIn W a len cap) (wn : (Lit.int .i64 sheet).wf = true) (hE : EnvX W) :
    Calls Tryz.prog 5 #[.slice a len cap, .int .i64 sheet] W fun e w' => e = .returned (.bool true) ∧ Below W.heap.size W w' := by
  obtain ⟨W1, hW1, hE1, hG1, hL1, hS1⟩ := new_blk W #[.slice a len cap] 23
  have HW1 := Lib.hid hW1
  have HE1 := Lib.hid hE1
  have HG1 := Lib.hid hG1
  have HS := Lib.hid hS
  have HQ1 := Lib.hid (hE.ext hE1)
  have HLow := Lib.hid hE.low
  clear hW1 hE1 hG1 hL1 hS1 hS hE
  go_enter Tryz.func5, Tryz.ntmps5
  go_upto_region 1 with (fail)
  rw [HW1.out]
  clear HW1
  go_wp2_with fail
  refine (fit7 W1 HQ1.out).mono ?_
  rintro e w2 ⟨rfl, hE2⟩
  have HE2 := Lib.hid hE2
  have HG2 := Lib.hid (hE2.blk HG1.out)
  have c2 : w2.cell? ⟨W.heap.size, 0, none⟩ = some (.slice a len cap) := by rw [cell_of_row w2 W.heap.size 0 _ _ _ HG2.out]; rfl
  clear hE2
  by_cases hz : 100 < len
  · have hz' : (100 : Int) < (len : Int) := by omega
    go_wp2_with fail
    go_ret
    exact ⟨rfl, HE1.out.trans HE2.out⟩
  have hz' : (len : Int) ≤ 100 := by omega
  have HSA : Hid (SeedAt W.heap.size w2) := Lib.hid (HS.out.at_ (HE1.out.trans HE2.out) (Nat.le_refl _) (by omega) HG2.out)
  clear hz
  obtain ⟨k, hk, hk3⟩ := cyc 3 sheet (by omega) (by omega)
  simp only [Int.cast_ofNat_Int] at hk
  go_wp2_with fail
  refine (show Calls Tryz.prog _ #[.pointer (some ⟨W.heap.size, 0, none⟩), .int .i64 4] w2 _ from formula 4 (by decide) W.heap.size w2 HSA.out (HQ1.out.ext HE2.out).1 HLow.out.1 (blk_lt HG2.out)).mono ?_
  rintro e w3 ⟨⟨f, t, rfl, hR3, hF3⟩, hX3, hS3⟩
  obtain ⟨W4, hW4, hE4, hG4, hL4, hS4⟩ := new_blk w3 f.cells 33
  have HW4 := Lib.hid hW4
  have HG4 := Lib.hid hG4
  have HX4 : Hid (Ext W W4) := Lib.hid ((hX3.ext (HE1.out.trans HE2.out) (Nat.le_refl _)).trans hE4)
  have HQ4 : Hid (EnvX W4) := Lib.hid (((HQ1.out.ext HE2.out).extX HLow.out hX3).ext hE4)
  have HGT := Lib.hid (ft_gt hF3)
  have HSZ : Hid (sizeT t ≤ 100000) := Lib.hid (ft_size hF3)
  have HR4 : Hid (Rep W4 (fun _ => True) t f) := Lib.hid ((hR3.ext hE4).imp' fun _ _ _ => trivial)
  obtain ⟨A, hA⟩ : ∃ A, mk (shT (k : Int) 0 t) = A := ⟨_, rfl⟩
  obtain ⟨B, hB⟩ : ∃ B, mk (shT (-1) 0 t) = B := ⟨_, rfl⟩
  have HB := Lib.hid hB
  have hAB : (A.size : Int) ≤ (B.size : Int) := by
    rw [← hA, ← hB, mk_size, mk_size]
    have := shorter (k : Int) HGT.out 0
    unfold shT
    omega
  have hBs : (B.size : Int) ≤ 4000000000 := by
    rw [← hB, mk_size]
    have := sh_len (-1) HGT.out 0
    have := HSZ.out
    omega
  have e1 : CallE Tryz.prog W4 9 #[.agg f.cells, .int .i64 (k : Int)] (.string A) := fun w hEw => by rw [← hA]; exact formula_text (k : Int) HGT.out (by have := HSZ.out; omega) f _ w (HR4.out.ext hEw) (HQ4.out.ext hEw).1
  have e2 : CallE Tryz.prog W4 9 #[.agg f.cells, .int .i64 (-1)] (.string B) := fun w hEw => by rw [← hB]; exact formula_text (-1) HGT.out (by have := HSZ.out; omega) f _ w (HR4.out.ext hEw) (HQ4.out.ext hEw).1
  have HK3 := Lib.hid hk3
  have HK := Lib.hid hk
  clear hX3 hS3 c2 hW4 hE4 hL4 hS4 hF3 hR3 hk3 hk hA hB
  unfold Fl.val
  go_upto_region 7 with (first | ((with_reducible refine wpl_guard (isStore 33) ?_ ?_); (· rfl); refine wpl_store (t := ?_) (old := ?_) (w' := ?_) rfl 33 _ _ rfl rfl rfl ?_ ?_ ?_ ?_ ?_ ?_; rotate_left 2; (· (first | (with_reducible assumption) | (simp (disch := (first | omega | (simp only [World.size_alloc, World.size_setCell, World.size_drew, size_setRow]; done) | (simp only [World.size_alloc, World.size_setCell, World.size_drew, size_setRow]; omega))) only [hq_at, hq_past, hq_drew, hq_drewN, hq_cell, hq_row, hq_same, rowOf_cells, Option.map_some, *]; rfl) | (simp (disch := (first | omega | (simp only [World.size_alloc, World.size_setCell, World.size_drew, size_setRow]; done) | (simp only [World.size_alloc, World.size_setCell, World.size_drew, size_setRow]; omega))) only [hq_at, hq_past, hq_drew, hq_drewN, hq_cell, hq_row, hq_same, rowOf_cells, Option.map_some, *]))); (· kernel_rfl); (· rfl); (· rfl); rotate_left 1; (· (first | (simp (disch := (first | omega | (simp only [World.size_alloc, World.size_setCell, World.size_drew, size_setRow]; done) | (simp only [World.size_alloc, World.size_setCell, World.size_drew, size_setRow]; omega))) only [setRow_at, setRow_past, setRow_drew]; rfl) | rfl))))
  rw [HW4.out]
  try rw [HK.out]
  clear HW4
  (try simp only [Act.put, List.setIfInBounds_toArray, List.set_cons_zero, List.set_cons_succ])
  refine region_any (by kernel_rfl) (by kernel_rfl) rfl (fun K hK => ?_)
  refine seqr_pure (v := .agg f.cells) (by rfl) (fun ρ => by rfl) (fun ρ w hE hF => ?_) ?_
  · (try simp only [fill, Act.put, List.setIfInBounds_toArray, List.set_cons_zero, List.set_cons_succ])
    exact exec_load_row 33 _ rfl rfl (hE.blk HG4.out) Tryz.underlying33 rfl (by kernel_rfl)
  (try simp only [Act.put, List.setIfInBounds_toArray, List.set_cons_zero, List.set_cons_succ])
  repeat (first | (refine seqr_skip (by rfl) (fun ρ => by rfl) ?_; (try simp only [Act.put, List.setIfInBounds_toArray, List.set_cons_zero, List.set_cons_succ])) | (refine seqr_pure (v := ?_) (by rfl) (fun ρ => by rfl) (fun ρ w hE hF => ?_) ?_; rotate_left 1; (· ((try simp only [fill, Act.put, List.setIfInBounds_toArray, List.set_cons_zero, List.set_cons_succ]); go_simp; try with_reducible rfl)); (try simp only [Act.put, List.setIfInBounds_toArray, List.set_cons_zero, List.set_cons_succ])) | (refine seqr_call0 (v := ?_) (f := ?_) (args := ?_) (by rfl) (fun ρ => by rfl) (fun ρ w => ?_) (fun w hE => ?_) ?_; rotate_left 3; (· ((try simp only [fill, Act.put, List.setIfInBounds_toArray, List.set_cons_zero, List.set_cons_succ]); go_simp; constructor <;> with_reducible rfl)); (· (with_reducible exact CallE.call (by assumption) hE)); (try simp only [Act.put, List.setIfInBounds_toArray, List.set_cons_zero, List.set_cons_succ])))
  refine seqr_pure (v := .agg f.cells) (by rfl) (fun ρ => by rfl) (fun ρ w hE hF => ?_) ?_
  · (try simp only [fill, Act.put, List.setIfInBounds_toArray, List.set_cons_zero, List.set_cons_succ])
    exact exec_load_row 33 _ rfl rfl (hE.blk HG4.out) Tryz.underlying33 rfl (by kernel_rfl)
  (try simp only [Act.put, List.setIfInBounds_toArray, List.set_cons_zero, List.set_cons_succ])
  repeat (first | (refine seqr_skip (by rfl) (fun ρ => by rfl) ?_; (try simp only [Act.put, List.setIfInBounds_toArray, List.set_cons_zero, List.set_cons_succ])) | (refine seqr_pure (v := ?_) (by rfl) (fun ρ => by rfl) (fun ρ w hE hF => ?_) ?_; rotate_left 1; (· ((try simp only [fill, Act.put, List.setIfInBounds_toArray, List.set_cons_zero, List.set_cons_succ]); go_simp; try with_reducible rfl)); (try simp only [Act.put, List.setIfInBounds_toArray, List.set_cons_zero, List.set_cons_succ])) | (refine seqr_call0 (v := ?_) (f := ?_) (args := ?_) (by rfl) (fun ρ => by rfl) (fun ρ w => ?_) (fun w hE => ?_) ?_; rotate_left 3; (· ((try simp only [fill, Act.put, List.setIfInBounds_toArray, List.set_cons_zero, List.set_cons_succ]); go_simp; constructor <;> with_reducible rfl)); (· (with_reducible exact CallE.call (by assumption) hE)); (try simp only [Act.put, List.setIfInBounds_toArray, List.set_cons_zero, List.set_cons_succ])))
  refine seqr_done (fun ρ wN hEN hFN => ?_); (try simp only [fill, Act.put, List.setIfInBounds_toArray, List.set_cons_zero, List.set_cons_succ]); refine (show K _ _ from hK.out _ _ ?_); clear hK K
  generalize hw5 : wN = w5
  rw [hw5] at hEN
  have HX5 := Lib.hid hEN
  have HG5 := Lib.hid (hEN.blk HG4.out)
  have HQ5 := Lib.hid (HQ4.out.ext hEN)
  have HR5 := Lib.hid (HR4.out.ext hEN)
  clear hEN hFN hG4 e1 e2 hw5
  go_upto_region 8 with (fail)
  rcases read_back HK3.out (p := -1) (.inr (by decide)) HGT.out with hR | ⟨hl, hR⟩ | ⟨-, q, hR⟩
  · have HP := Lib.hid (by have h := pars_any _ k _ w5 hR HK3.out HQ5.out; rw [HB.out] at h; exact h)
    clear hR
    go_wp2_with fail
    refine HP.out.mono ?_
    rintro e w6 ⟨hX6, ⟨t', f', hR', rfl, hRep⟩ | ⟨c, p, hR', -⟩⟩
    case inr => cases hR'
    injection hR' with hR'
    subst hR'
    obtain ⟨W7, hW7, hE7, hG7, hL7, hS7⟩ := new_blk w6 f'.cells 33
    have HW7 := Lib.hid hW7
    have HX7 := Lib.hid (hX6.trans hE7)
    have HG7 := Lib.hid hG7
    have hg4 := (hX6.trans hE7).blk HG5.out
    have hsame := same_any (sizeT t) t t f' f (fun _ => True) W7 (Nat.le_refl _) ((hRep.ext hE7).imp' fun _ _ _ => trivial) (HR5.out.ext HX7.out)
    rw [sameT_self] at hsame
    have HSM := Lib.hid hsame
    clear hX6 hRep hW7 hE7 hL7 hS7 hsame HP
    unfold Fl.val at HSM ⊢
    go_upto_region 9 with (first | ((with_reducible refine wpl_guard (isStore 33) ?_ ?_); (· rfl); refine wpl_store (t := ?_) (old := ?_) (w' := ?_) rfl 33 _ _ rfl rfl rfl ?_ ?_ ?_ ?_ ?_ ?_; rotate_left 2; (· (first | (with_reducible assumption) | (simp (disch := (first | omega | (simp only [World.size_alloc, World.size_setCell, World.size_drew, size_setRow]; done) | (simp only [World.size_alloc, World.size_setCell, World.size_drew, size_setRow]; omega))) only [hq_at, hq_past, hq_drew, hq_drewN, hq_cell, hq_row, hq_same, rowOf_cells, Option.map_some, *]; rfl) | (simp (disch := (first | omega | (simp only [World.size_alloc, World.size_setCell, World.size_drew, size_setRow]; done) | (simp only [World.size_alloc, World.size_setCell, World.size_drew, size_setRow]; omega))) only [hq_at, hq_past, hq_drew, hq_drewN, hq_cell, hq_row, hq_same, rowOf_cells, Option.map_some, *]))); (· kernel_rfl); (· rfl); (· rfl); rotate_left 1; (· (first | (simp (disch := (first | omega | (simp only [World.size_alloc, World.size_setCell, World.size_drew, size_setRow]; done) | (simp only [World.size_alloc, World.size_setCell, World.size_drew, size_setRow]; omega))) only [setRow_at, setRow_past, setRow_drew]; rfl) | rfl))))
    rw [HW7.out]
    clear HW7
    go_wp2_with (first | ((with_reducible refine wpl_guard (isLoad 33) ?_ ?_); (· rfl); refine wpl_load_want (t := ?_) (cs := ?_) (fr := ?_) (by rfl) 33 _ rfl rfl ?_ Tryz.underlying33 rfl ?_ ?_; rotate_left 3; (· (first | (with_reducible assumption) | (simp (disch := (first | omega | (simp only [World.size_alloc, World.size_setCell, World.size_drew, size_setRow]; done) | (simp only [World.size_alloc, World.size_setCell, World.size_drew, size_setRow]; omega))) only [hq_at, hq_past, hq_drew, hq_drewN, hq_cell, hq_row, hq_same, rowOf_cells, Option.map_some, *]; rfl) | (simp (disch := (first | omega | (simp only [World.size_alloc, World.size_setCell, World.size_drew, size_setRow]; done) | (simp only [World.size_alloc, World.size_setCell, World.size_drew, size_setRow]; omega))) only [hq_at, hq_past, hq_drew, hq_drewN, hq_cell, hq_row, hq_same, rowOf_cells, Option.map_some, *]))); (· kernel_rfl); (try dsimp only [Act.put, List.setIfInBounds_toArray, List.set_cons_zero, List.set_cons_succ])))
    refine HSM.out.mono ?_
    rintro e w8 ⟨rfl, hX8⟩
    have HX8 := Lib.hid hX8
    clear hX8 HSM hG7 hg4
    go_wp2_with fail
    go_ret
    exact ⟨rfl, HX4.out.trans (HX5.out.trans (HX7.out.trans HX8.out))⟩
  all_goals
    have HP := Lib.hid (by have h := pars_any _ k _ w5 hR HK3.out HQ5.out; rw [HB.out] at h; exact h)
    clear hR
    go_wp2_with fail
    refine HP.out.mono ?_
    rintro e w6 ⟨hX6, ⟨t', f', hR', -⟩ | ⟨c, p, hR', rfl⟩⟩
    case inl => cases hR'
    injection hR' with hR'
    injection hR' with hR1 hR2
    subst hR1 hR2
    obtain ⟨W7, hW7, hE7, hG7, hL7, hS7⟩ := new_blk w6 zF.cells 33
    have HW7 := Lib.hid hW7
    have HX7 := Lib.hid (hX6.trans hE7)
    clear hX6 hW7 hE7 hG7 hL7 hS7 HP
    unfold Fl.val
    go_upto_region 9 with (first | ((with_reducible refine wpl_guard (isStore 33) ?_ ?_); (· rfl); refine wpl_store (t := ?_) (old := ?_) (w' := ?_) rfl 33 _ _ rfl rfl rfl ?_ ?_ ?_ ?_ ?_ ?_; rotate_left 2; (· (first | (with_reducible assumption) | (simp (disch := (first | omega | (simp only [World.size_alloc, World.size_setCell, World.size_drew, size_setRow]; done) | (simp only [World.size_alloc, World.size_setCell, World.size_drew, size_setRow]; omega))) only [hq_at, hq_past, hq_drew, hq_drewN, hq_cell, hq_row, hq_same, rowOf_cells, Option.map_some, *]; rfl) | (simp (disch := (first | omega | (simp only [World.size_alloc, World.size_setCell, World.size_drew, size_setRow]; done) | (simp only [World.size_alloc, World.size_setCell, World.size_drew, size_setRow]; omega))) only [hq_at, hq_past, hq_drew, hq_drewN, hq_cell, hq_row, hq_same, rowOf_cells, Option.map_some, *]))); (· kernel_rfl); (· rfl); (· rfl); rotate_left 1; (· (first | (simp (disch := (first | omega | (simp only [World.size_alloc, World.size_setCell, World.size_drew, size_setRow]; done) | (simp only [World.size_alloc, World.size_setCell, World.size_drew, size_setRow]; omega))) only [setRow_at, setRow_past, setRow_drew]; rfl) | rfl))))
    rw [HW7.out]
    clear HW7
    go_wp2_with fail
    go_ret
    exact ⟨rfl, HX4.out.trans (HX5.out.trans HX7.out)⟩
end Go.Proofs.YtbnebiobahajjaaGreatDoor.showSheets
