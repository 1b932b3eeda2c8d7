/-
  ShiftCopies: walk. Conditions: the arguments' own.
-/
import Derived.Test.YtdfgobnmcngkmaaDoorShiftN
import Derived.Test.YtdfgobnmcngkmaaDoorShiftH
namespace Go.Proofs.YtdfgobnmcngkmaaDoor.shiftCopies
open Go.RowKit
set_option linter.unusedVariables false
set_option linter.unusedSimpArgs false


set_option maxRecDepth 100000 in
set_option maxHeartbeats 8000000 in
theorem walk0 (a : Option Addr) (len cap : Nat) (col : Int) (row : Int) (W : World) (hS : SeedIn W a len cap) (hcol : -9223372036854775808 ≤ col ∧ col ≤ 9223372036854775807) (hrow : -9223372036854775808 ≤ row ∧ row ≤ 9223372036854775807) (hE : EnvQ W) :
    Calls Tryd.prog 5 #[.slice a len cap, .int .i64 col, .int .i64 row] W fun e w' => e = .returned (.bool true) ∧ Ext W w' := by
  obtain ⟨W1, hW1, hE1, hG1, hL1, hS1⟩ := new_blk W #[.slice a len cap] 23
  have HW1 := Lib.hid hW1
  have HE1 := Lib.hid hE1
  have HG1 := Lib.hid hG1
  have HS := Lib.hid hS
  have HQ1 := Lib.hid (hE.ext hE1)
  have HLow := Lib.hid hE.low
  clear hW1 hE1 hG1 hL1 hS1 hS hE
  have HC1 : Hid (bits .and .i64 col 7 = col % 8) := Lib.hid (and_i64_3 col)
  have HC2 : Hid (bits .and .i64 row 31 = row % 32) := Lib.hid (and_i64_5 row)
  obtain ⟨dc, hdc⟩ : ∃ x, col % 8 = x := ⟨_, rfl⟩
  obtain ⟨dr, hdr⟩ : ∃ x, row % 32 = x := ⟨_, rfl⟩
  have HDC : Hid (0 ≤ dc ∧ dc ≤ 7) := Lib.hid (by omega)
  have HDR : Hid (0 ≤ dr ∧ dr ≤ 31) := Lib.hid (by omega)
  have HWC : Hid (IntKind.i64.wrap (5 + dc) = 5 + dc) := Lib.hid (IntWalk.i64_in _ ⟨by omega, by omega⟩)
  have HWR : Hid (IntKind.i64.wrap (5 + dr) = 5 + dr) := Lib.hid (IntWalk.i64_in _ ⟨by omega, by omega⟩)
  obtain ⟨tc, htc⟩ : ∃ x, 5 + dc = x := ⟨_, rfl⟩
  obtain ⟨tr, htr⟩ : ∃ x, 5 + dr = x := ⟨_, rfl⟩
  rw [htc] at HWC
  rw [htr] at HWR
  rw [hdc] at HC1
  rw [hdr] at HC2
  have HTC := Lib.hid htc
  have HTR := Lib.hid htr
  clear hdc hdr hcol hrow htc htr
  go_enter Tryd.func5, Tryd.ntmps5
  go_upto_region 1 with (fail)
  rw [HW1.out]
  clear HW1
  go_wp2_with fail
  refine (fit_any W1).mono ?_
  rintro e w2 ⟨rfl, hE2⟩
  have HE2 := Lib.hid hE2
  have HG2 := Lib.hid (hE2.blk HG1.out)
  have c2 : w2.cell? ⟨W.heap.size, 0, none⟩ = some (.slice a len cap) := by rw [cell_of_row w2 W.heap.size 0 _ _ _ HG2.out]; rfl
  clear hE2
  by_cases hz : 200 < len
  · have hz' : (200 : Int) < (len : Int) := by omega
    go_wp2_with fail
    go_ret
    exact ⟨rfl, HE1.out.trans HE2.out⟩
  have hz' : (len : Int) ≤ 200 := by omega
  have HSA : Hid (SeedAt W.heap.size w2) := Lib.hid (HS.out.at_ (HE1.out.trans HE2.out) (Nat.le_refl _) (by omega) HG2.out)
  clear hz
  go_wp2_with fail
  refine (show Calls Tryd.prog _ #[.pointer (some ⟨W.heap.size, 0, none⟩), .int .i64 6] w2 _ from formula 6 (by decide) W.heap.size w2 HSA.out (HQ1.out.ext HE2.out) HLow.out (blk_lt HG2.out)).mono ?_
  rintro e w3 ⟨⟨f, t, rfl, hR3, hF3⟩, hX3, hS3⟩
  have HF3 := Lib.hid hF3
  have HX3 : Hid (Ext W w3) := Lib.hid (hX3.ext (HE1.out.trans HE2.out) (Nat.le_refl _))
  have HQ3 : Hid (EnvQ w3) := Lib.hid ((HQ1.out.ext HE2.out).extX HLow.out hX3)
  have HL3 := Lib.hid hF3.leaves
  have HR3 := Lib.hid (ft_right hF3 200 (by decide))
  have HZ3 := Lib.hid (ft_size hF3)
  obtain ⟨W5, hW5, hE5, hG5, hL5, hS5⟩ := new_blk w3 f.cells 33
  have HW5 := Lib.hid hW5
  have HE5 := Lib.hid hE5
  have HGN := Lib.hid hG5
  have HT := Lib.hid (show Rep W5 (fun _ => True) t f from (hR3.imp' (fun _ _ _ => trivial)).ext hE5)
  have HQ5 := Lib.hid (HQ3.out.ext hE5)
  clear hX3 hS3 c2 hR3 hF3 hW5 hE5 hG5 hL5 hS5
  unfold Fl.val
  go_upto_region 6 with (first | ((with_reducible refine wpl_guard (isStore 33) ?_ ?_); (· rfl); refine wpl_store (t := ?_) (old := ?_) (w' := ?_) rfl 33 _ _ rfl rfl rfl ?_ ?_ ?_ ?_ ?_ ?_; rotate_left 2; (· (first | (with_reducible assumption) | (simp (disch := (first | omega | (simp only [World.size_alloc, World.size_setCell, World.size_drew, size_setRow]; done) | (simp only [World.size_alloc, World.size_setCell, World.size_drew, size_setRow]; omega))) only [hq_at, hq_past, hq_drew, hq_drewN, hq_cell, hq_row, hq_same, rowOf_cells, Option.map_some, *]; rfl) | (simp (disch := (first | omega | (simp only [World.size_alloc, World.size_setCell, World.size_drew, size_setRow]; done) | (simp only [World.size_alloc, World.size_setCell, World.size_drew, size_setRow]; omega))) only [hq_at, hq_past, hq_drew, hq_drewN, hq_cell, hq_row, hq_same, rowOf_cells, Option.map_some, *]))); (· kernel_rfl); (· rfl); (· rfl); rotate_left 1; (· (first | (simp (disch := (first | omega | (simp only [World.size_alloc, World.size_setCell, World.size_drew, size_setRow]; done) | (simp only [World.size_alloc, World.size_setCell, World.size_drew, size_setRow]; omega))) only [setRow_at, setRow_past, setRow_drew]; rfl) | rfl))))
  rw [HW5.out]
  clear HW5
  have hc1 := HC1.out
  have hc2 := HC2.out
  have hc3 := HTC.out
  have hc4 := HTR.out
  have hc5 := HWC.out
  have hc6 := HWR.out
  obtain ⟨W6, hW6, hE6, hG6, hL6, hS6⟩ := new_blk W5 #[.int .i64 0, .int .i64 5, .int .i64 5] 28
  obtain ⟨W7, hW7, hE7, hG7, hL7, hS7⟩ := new_blk W6 #[.int .i64 0, .int .i64 tc, .int .i64 tr] 28
  rw [hS6] at hG7
  have HW6 := Lib.hid hW6
  have HW7 := Lib.hid hW7
  have HE7 := Lib.hid (hE6.trans hE7)
  have HGF := Lib.hid (hE7.blk hG6)
  have HGT := Lib.hid hG7
  have HGN7 := Lib.hid ((hE6.trans hE7).blk HGN.out)
  have HT7 := Lib.hid (HT.out.ext (hE6.trans hE7))
  have HQ7 := Lib.hid (HQ5.out.ext (hE6.trans hE7))
  have c6 : ∀ i, W7.cell? ⟨W5.heap.size, i, none⟩ = (#[.int .i64 0, .int .i64 5, .int .i64 5] : Array Value)[i]? := fun i => cell_of_row W7 W5.heap.size i _ _ _ HGF.out
  have c7 : ∀ i, W7.cell? ⟨W5.heap.size + 1, i, none⟩ = (#[.int .i64 0, .int .i64 tc, .int .i64 tr] : Array Value)[i]? := fun i => cell_of_row W7 (W5.heap.size + 1) i _ _ _ HGT.out
  have hgn7 := HGN7.out
  have HGC := Lib.hid (HL3.out.weak (fun _ h => seed_gc h))
  have HD : Hid ((-1000 ≤ dc ∧ dc ≤ 1000) ∧ -1000 ≤ dr ∧ dr ≤ 1000) := Lib.hid (by have h1 := HDC.out; have h2 := HDR.out; omega)
  have CP := Lib.hid (copy8_any 0 tc tr 0 5 5 dc dr (by have := HTC.out; omega) (by have := HTR.out; omega) HD.out t f W7 HT7.out HGC.out)
  clear hW6 hE6 hG6 hL6 hS6 hW7 hE7 hG7 hL7 hS7
  go_upto_region 7 with fail
  rw [HW6.out, HW7.out]
  clear HW6 HW7 hc1 hc2 hc3 hc4 hc5 hc6
  go_wp2_with (first | ((with_reducible refine wpl_guard (isLoad 33) ?_ ?_); (· rfl); refine wpl_load (t := ?_) (cs := ?_) (fr := ?_) rfl 33 _ rfl rfl ?_ Tryd.underlying33 rfl ?_ ?_; rotate_left 3; (· (first | (with_reducible assumption) | (simp (disch := (first | omega | (simp only [World.size_alloc, World.size_setCell, World.size_drew, size_setRow]; done) | (simp only [World.size_alloc, World.size_setCell, World.size_drew, size_setRow]; omega))) only [hq_at, hq_past, hq_drew, hq_drewN, hq_cell, hq_row, hq_same, rowOf_cells, Option.map_some, *]; rfl) | (simp (disch := (first | omega | (simp only [World.size_alloc, World.size_setCell, World.size_drew, size_setRow]; done) | (simp only [World.size_alloc, World.size_setCell, World.size_drew, size_setRow]; omega))) only [hq_at, hq_past, hq_drew, hq_drewN, hq_cell, hq_row, hq_same, rowOf_cells, Option.map_some, *]))); (· kernel_rfl); (try dsimp only [Act.put, List.setIfInBounds_toArray, List.set_cons_zero, List.set_cons_succ])))
  refine CP.out.mono ?_
  rintro e w9 ⟨⟨g, rfl, hR9⟩, hE9⟩
  obtain ⟨W10, hW10, hE10, hG10, hL10, hS10⟩ := new_blk w9 g.cells 33
  have HW10 := Lib.hid hW10
  have HE10 := Lib.hid (hE9.trans hE10)
  have HGG := Lib.hid hG10
  have HGN10 := Lib.hid ((hE9.trans hE10).blk HGN7.out)
  have HGF10 := Lib.hid ((hE9.trans hE10).blk HGF.out)
  have HGT10 := Lib.hid ((hE9.trans hE10).blk HGT.out)
  have HT10 := Lib.hid (HT7.out.ext (hE9.trans hE10))
  have HTG := Lib.hid (hR9.ext hE10)
  have HQ10 := Lib.hid (HQ7.out.ext (hE9.trans hE10))
  have HMR := Lib.hid (map_right (G := GSeed) (tn := fun x => .mk (copyS dc dr x) []) (fun s hs => ⟨_, rfl, copied_right hs⟩) HL3.out 200 HR3.out)
  have HGC' := Lib.hid (HL3.out.map (tn := fun x => .mk (copyS dc dr x) []) (G' := Gc) (fun s hs => .mk _ _ (fun _ _ => copied_gc hs HDC.out HDR.out) (fun t ht => by cases ht)))
  have HMB := Lib.hid (map_back (G := GSeed) (tn1 := fun x => .mk (copyS dc dr x) []) (tn2 := fun x => .mk (copyS (-dc) (-dr) x) []) (fun s hs => by rw [mapT_leaf (copied_back hs HDC.out HDR.out).2, (copied_back hs HDC.out HDR.out).1]) HL3.out)
  have HMS := Lib.hid (map_map_eq (G := GSeed) (tn1 := fun x => .mk (copyS dc dr x) []) (tn2 := fun x => .mk (seenS 0 tc tr x) []) (tn3 := fun x => .mk (seenS 0 5 5 x) []) (fun s hs => by rw [mapT_leaf (copied_back hs HDC.out HDR.out).2, ← HTC.out, ← HTR.out, copied_seen hs HDC.out HDR.out]) HL3.out)
  have HTB : Hid ((-1000 ≤ (0 : Int) ∧ (0 : Int) ≤ 1000) ∧ (-1000 ≤ tc ∧ tc ≤ 1000) ∧ -1000 ≤ tr ∧ tr ≤ 1000) := Lib.hid (by have h1 := HDC.out; have h2 := HDR.out; have h3 := HTC.out; have h4 := HTR.out; omega)
  have HD' : Hid ((-1000 ≤ -dc ∧ -dc ≤ 1000) ∧ -1000 ≤ -dr ∧ -dr ≤ 1000) := Lib.hid (by have h1 := HDC.out; have h2 := HDR.out; omega)
  have HN1 : Hid (5 - tc = -dc) := Lib.hid (by have h3 := HTC.out; omega)
  have HN2 : Hid (5 - tr = -dr) := Lib.hid (by have h3 := HTR.out; omega)
  clear hE9 hR9 hW10 hE10 hG10 hL10 hS10 c6 c7 hgn7 CP
  unfold Fl.val
  go_upto_region 8 with (first | ((with_reducible refine wpl_guard (isStore 33) ?_ ?_); (· rfl); refine wpl_store (t := ?_) (old := ?_) (w' := ?_) rfl 33 _ _ rfl rfl rfl ?_ ?_ ?_ ?_ ?_ ?_; rotate_left 2; (· (first | (with_reducible assumption) | (simp (disch := (first | omega | (simp only [World.size_alloc, World.size_setCell, World.size_drew, size_setRow]; done) | (simp only [World.size_alloc, World.size_setCell, World.size_drew, size_setRow]; omega))) only [hq_at, hq_past, hq_drew, hq_drewN, hq_cell, hq_row, hq_same, rowOf_cells, Option.map_some, *]; rfl) | (simp (disch := (first | omega | (simp only [World.size_alloc, World.size_setCell, World.size_drew, size_setRow]; done) | (simp only [World.size_alloc, World.size_setCell, World.size_drew, size_setRow]; omega))) only [hq_at, hq_past, hq_drew, hq_drewN, hq_cell, hq_row, hq_same, rowOf_cells, Option.map_some, *]))); (· kernel_rfl); (· rfl); (· rfl); rotate_left 1; (· (first | (simp (disch := (first | omega | (simp only [World.size_alloc, World.size_setCell, World.size_drew, size_setRow]; done) | (simp only [World.size_alloc, World.size_setCell, World.size_drew, size_setRow]; omega))) only [setRow_at, setRow_past, setRow_drew]; rfl) | rfl))))
  rw [HW10.out]
  clear HW10
  (try simp only [Act.put, List.setIfInBounds_toArray, List.set_cons_zero, List.set_cons_succ])
  have eR : CallE Tryd.prog W10 12 #[.agg g.cells] (.bool true) := fun w hE => by
    have h := right_v (w := w) (t := mapT (fun x => .mk (copyS dc dr x) []) t) ⟨g, rfl, HTG.out.ext hE⟩ (HQ10.out.ext hE)
    rwa [HMR.out] at h
  refine region_any (by kernel_rfl) (by kernel_rfl) rfl (fun K hK => ?_)
  refine seqr_pure (v := .agg g.cells) (by rfl) (fun ρ => by rfl) (fun ρ w hE hF => ?_) ?_
  · (try simp only [fill, Act.put, List.setIfInBounds_toArray, List.set_cons_zero, List.set_cons_succ])
    exact exec_load_row 33 _ rfl rfl (hE.blk HGG.out) Tryd.underlying33 rfl (by kernel_rfl)
  (try simp only [Act.put, List.setIfInBounds_toArray, List.set_cons_zero, List.set_cons_succ])
  (refine seqr_call0 (v := ?_) (f := ?_) (args := ?_) (by rfl) (fun ρ => by rfl) (fun ρ w => ?_) (fun w hE => ?_) ?_; rotate_left 3; (· ((try simp only [fill, Act.put, List.setIfInBounds_toArray, List.set_cons_zero, List.set_cons_succ]); go_simp; constructor <;> with_reducible rfl)); (· (with_reducible exact CallE.call (by assumption) hE)); (try simp only [Act.put, List.setIfInBounds_toArray, List.set_cons_zero, List.set_cons_succ]))
  (refine seqr_pure (v := ?_) (by rfl) (fun ρ => by rfl) (fun ρ w hE hF => ?_) ?_; rotate_left 1; (· ((try simp only [fill, Act.put, List.setIfInBounds_toArray, List.set_cons_zero, List.set_cons_succ]); go_simp; try with_reducible rfl)); (try simp only [Act.put, List.setIfInBounds_toArray, List.set_cons_zero, List.set_cons_succ]))
  refine seqr_pure (v := .agg g.cells) (by rfl) (fun ρ => by rfl) (fun ρ w hE hF => ?_) ?_
  · (try simp only [fill, Act.put, List.setIfInBounds_toArray, List.set_cons_zero, List.set_cons_succ])
    exact exec_load_row 33 _ rfl rfl (hE.blk HGG.out) Tryd.underlying33 rfl (by kernel_rfl)
  (try simp only [Act.put, List.setIfInBounds_toArray, List.set_cons_zero, List.set_cons_succ])
  refine seqr_pure (v := .agg #[.int .i64 0, .int .i64 tc, .int .i64 tr]) (by rfl) (fun ρ => by rfl) (fun ρ w hE hF => ?_) ?_
  · (try simp only [fill, Act.put, List.setIfInBounds_toArray, List.set_cons_zero, List.set_cons_succ])
    exact exec_load_row 28 _ rfl rfl (hE.blk HGT10.out) Tryd.underlying28 rfl (by kernel_rfl)
  (try simp only [Act.put, List.setIfInBounds_toArray, List.set_cons_zero, List.set_cons_succ])
  refine seqr_rel (TreeV (mapT (fun x => .mk (seenS 0 5 5 x) []) t)) (TreeV.lasts _) rfl (by rfl) (fun ρ => by rfl) (fun ρ w hE hF => ?_) ?_
  · refine outcome_call (f := 16) (args := #[.agg g.cells, ceV 0 tc tr]) ?_ (by have h := seen8_v 0 tc tr HTB.out (w := w) (t := mapT (fun x => .mk (copyS dc dr x) []) t) ⟨g, rfl, HTG.out.ext hE⟩ HGC'.out; rwa [HMS.out] at h)
    (try simp only [fill, Act.put, List.setIfInBounds_toArray, List.set_cons_zero, List.set_cons_succ])
    go_simp
  (try simp only [Act.put, List.setIfInBounds_toArray, List.set_cons_zero, List.set_cons_succ])
  refine seqr_pure (v := .agg f.cells) (by rfl) (fun ρ => by rfl) (fun ρ w hE hF => ?_) ?_
  · (try simp only [fill, Act.put, List.setIfInBounds_toArray, List.set_cons_zero, List.set_cons_succ])
    exact exec_load_row 33 _ rfl rfl (hE.blk HGN10.out) Tryd.underlying33 rfl (by kernel_rfl)
  (try simp only [Act.put, List.setIfInBounds_toArray, List.set_cons_zero, List.set_cons_succ])
  refine seqr_pure (v := .agg #[.int .i64 0, .int .i64 5, .int .i64 5]) (by rfl) (fun ρ => by rfl) (fun ρ w hE hF => ?_) ?_
  · (try simp only [fill, Act.put, List.setIfInBounds_toArray, List.set_cons_zero, List.set_cons_succ])
    exact exec_load_row 28 _ rfl rfl (hE.blk HGF10.out) Tryd.underlying28 rfl (by kernel_rfl)
  (try simp only [Act.put, List.setIfInBounds_toArray, List.set_cons_zero, List.set_cons_succ])
  refine seqr_rel (TreeV (mapT (fun x => .mk (seenS 0 5 5 x) []) t)) (TreeV.lasts _) rfl (by rfl) (fun ρ => by rfl) (fun ρ w hE hF => ?_) ?_
  · refine outcome_call (f := 16) (args := #[.agg f.cells, ceV 0 5 5]) ?_ (seen8_v 0 5 5 ⟨⟨by omega, by omega⟩, ⟨by omega, by omega⟩, by omega, by omega⟩ (w := w) (t := t) ⟨f, rfl, HT10.out.ext hE⟩ HGC.out)
    (try simp only [fill, Act.put, List.setIfInBounds_toArray, List.set_cons_zero, List.set_cons_succ])
    go_simp
  (try simp only [Act.put, List.setIfInBounds_toArray, List.set_cons_zero, List.set_cons_succ])
  (refine seqr_call (v := .bool true) (args := fun ρ => #[ρ 34, ρ 37]) (by rfl) (fun ρ => by rfl) (fun ρ w => ?_) (fun ρ w hE hF => by have h := same_v (w := w) (hF.get (.tail _ (.head _)) (by rfl)) (hF.get (.head _) (by rfl)); rwa [sameT_self] at h) ?_; (· ((try simp only [fill, Act.put, List.setIfInBounds_toArray, List.set_cons_zero, List.set_cons_succ]); go_simp)); (try simp only [Act.put, List.setIfInBounds_toArray, List.set_cons_zero, List.set_cons_succ]))
  (refine seqr_pure (v := ?_) (by rfl) (fun ρ => by rfl) (fun ρ w hE hF => ?_) ?_; rotate_left 1; (· ((try simp only [fill, Act.put, List.setIfInBounds_toArray, List.set_cons_zero, List.set_cons_succ]); go_simp; try with_reducible rfl)); (try simp only [Act.put, List.setIfInBounds_toArray, List.set_cons_zero, List.set_cons_succ]))
  (refine seqr_pure (v := ?_) (by rfl) (fun ρ => by rfl) (fun ρ w hE hF => ?_) ?_; rotate_left 1; (· ((try simp only [fill, Act.put, List.setIfInBounds_toArray, List.set_cons_zero, List.set_cons_succ]); go_simp; try with_reducible rfl)); (try simp only [Act.put, List.setIfInBounds_toArray, List.set_cons_zero, List.set_cons_succ]))
  refine seqr_pure (v := .agg g.cells) (by rfl) (fun ρ => by rfl) (fun ρ w hE hF => ?_) ?_
  · (try simp only [fill, Act.put, List.setIfInBounds_toArray, List.set_cons_zero, List.set_cons_succ])
    exact exec_load_row 33 _ rfl rfl (hE.blk HGG.out) Tryd.underlying33 rfl (by kernel_rfl)
  (try simp only [Act.put, List.setIfInBounds_toArray, List.set_cons_zero, List.set_cons_succ])
  refine seqr_pure (v := .agg #[.int .i64 0, .int .i64 tc, .int .i64 tr]) (by rfl) (fun ρ => by rfl) (fun ρ w hE hF => ?_) ?_
  · (try simp only [fill, Act.put, List.setIfInBounds_toArray, List.set_cons_zero, List.set_cons_succ])
    exact exec_load_row 28 _ rfl rfl (hE.blk HGT10.out) Tryd.underlying28 rfl (by kernel_rfl)
  (try simp only [Act.put, List.setIfInBounds_toArray, List.set_cons_zero, List.set_cons_succ])
  refine seqr_pure (v := .agg #[.int .i64 0, .int .i64 5, .int .i64 5]) (by rfl) (fun ρ => by rfl) (fun ρ w hE hF => ?_) ?_
  · (try simp only [fill, Act.put, List.setIfInBounds_toArray, List.set_cons_zero, List.set_cons_succ])
    exact exec_load_row 28 _ rfl rfl (hE.blk HGF10.out) Tryd.underlying28 rfl (by kernel_rfl)
  (try simp only [Act.put, List.setIfInBounds_toArray, List.set_cons_zero, List.set_cons_succ])
  refine seqr_rel (TreeV t) (TreeV.lasts _) rfl (by rfl) (fun ρ => by rfl) (fun ρ w hE hF => ?_) ?_
  · refine outcome_call (f := 15) (args := #[.agg g.cells, ceV 0 tc tr, ceV 0 5 5]) ?_ (by have h := copy8_v 0 5 5 0 tc tr (-dc) (-dr) HN1.out HN2.out HD'.out (w := w) (t := mapT (fun x => .mk (copyS dc dr x) []) t) ⟨g, rfl, HTG.out.ext hE⟩ HGC'.out; rwa [HMB.out] at h)
    (try simp only [fill, Act.put, List.setIfInBounds_toArray, List.set_cons_zero, List.set_cons_succ])
    go_simp
  (try simp only [Act.put, List.setIfInBounds_toArray, List.set_cons_zero, List.set_cons_succ])
  refine seqr_pure (v := .agg f.cells) (by rfl) (fun ρ => by rfl) (fun ρ w hE hF => ?_) ?_
  · (try simp only [fill, Act.put, List.setIfInBounds_toArray, List.set_cons_zero, List.set_cons_succ])
    exact exec_load_row 33 _ rfl rfl (hE.blk HGN10.out) Tryd.underlying33 rfl (by kernel_rfl)
  (try simp only [Act.put, List.setIfInBounds_toArray, List.set_cons_zero, List.set_cons_succ])
  (refine seqr_call (v := .bool true) (args := fun ρ => #[ρ 44, .agg f.cells]) (by rfl) (fun ρ => by rfl) (fun ρ w => ?_) (fun ρ w hE hF => by have h := same_v (w := w) (hF.get (.head _) (by rfl)) (t' := t) ⟨f, rfl, HT10.out.ext hE⟩; rwa [sameT_self] at h) ?_; (· ((try simp only [fill, Act.put, List.setIfInBounds_toArray, List.set_cons_zero, List.set_cons_succ]); go_simp)); (try simp only [Act.put, List.setIfInBounds_toArray, List.set_cons_zero, List.set_cons_succ]))
  (refine seqr_pure (v := ?_) (by rfl) (fun ρ => by rfl) (fun ρ w hE hF => ?_) ?_; rotate_left 1; (· ((try simp only [fill, Act.put, List.setIfInBounds_toArray, List.set_cons_zero, List.set_cons_succ]); go_simp; try with_reducible rfl)); (try simp only [Act.put, List.setIfInBounds_toArray, List.set_cons_zero, List.set_cons_succ]))
  (refine seqr_pure (v := ?_) (by rfl) (fun ρ => by rfl) (fun ρ w hE hF => ?_) ?_; rotate_left 1; (· ((try simp only [fill, Act.put, List.setIfInBounds_toArray, List.set_cons_zero, List.set_cons_succ]); go_simp; try with_reducible rfl)); (try simp only [Act.put, List.setIfInBounds_toArray, List.set_cons_zero, List.set_cons_succ]))
  refine seqr_done (fun ρ wN hEN hFN => ?_); (try simp only [fill, Act.put, List.setIfInBounds_toArray, List.set_cons_zero, List.set_cons_succ]); refine (show K _ _ from hK.out _ _ ?_); clear hK K
  go_wp2_with fail
  go_ret
  exact ⟨rfl, (((HX3.out.trans HE5.out).trans HE7.out).trans HE10.out).trans hEN⟩
theorem walk (a : Option Addr) (len cap : Nat) (col : Int) (row : Int) (W : World) (hS : SeedIn W a len cap) (hcol : (Lit.int .i64 col).wf = true) (hrow : (Lit.int .i64 row).wf = true) (hE : EnvQ W) :
    Calls Tryd.prog 5 #[.slice a len cap, .int .i64 col, .int .i64 row] W fun e w' => e = .returned (.bool true) ∧ Below W.heap.size W w' := walk0 a len cap col row W hS (bounds_i64 hcol) (bounds_i64 hrow) hE
end Go.Proofs.YtdfgobnmcngkmaaDoor.shiftCopies
