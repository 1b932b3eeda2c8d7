/-
  ShiftFormulas: walk. Conditions: the arguments' own.
-/
import Derived.Test.YtdfgobnmcngkmaaDoorShiftN
import Derived.Test.YtdfgobnmcngkmaaDoorShiftH
namespace Go.Proofs.YtdfgobnmcngkmaaDoor.shiftFormulas
open Go.RowKit
set_option linter.unusedVariables false
set_option linter.unusedSimpArgs false

set_option maxHeartbeats 1000000 in
theorem eright_any (s a : Int) (c d : Bool) (w : World) (hs : 0 ≤ s ∧ s ≤ 1) (ha : 0 ≤ a ∧ a ≤ 7) : Calls Tryd.prog 14 #[edV s c d a] w fun e w' => e = .returned (.bool true) ∧ Ext w w' := by
  obtain ⟨s1, s2⟩ := hs
  obtain ⟨a1, a2⟩ := ha
  cases c
  all_goals
    go_enter Tryd.func14, Tryd.ntmps14
    go_wp2_with fail
    all_goals first | (go_ret; exact ⟨by simp; omega, below_alloc1 _ _⟩) | (exfalso; omega)
set_option maxRecDepth 100000 in
set_option maxHeartbeats 8000000 in
theorem walk0 (a : Option Addr) (len cap : Nat) (n : Int) (W : World) (hS : SeedIn W a len cap) (hn : -9223372036854775808 ≤ n ∧ n ≤ 9223372036854775807) (hE : EnvQ W) :
    Calls Tryd.prog 4 #[.slice a len cap, .int .i64 n] W fun e w' => e = .returned (.bool true) ∧ Ext W w' := by
  obtain ⟨W1, hW1, hE1, hG1, hL1, hS1⟩ := new_blk W #[.slice a len cap] 23
  have HW1 := Lib.hid hW1
  have HE1 := Lib.hid hE1
  have HG1 := Lib.hid hG1
  have HS := Lib.hid hS
  have HQ1 := Lib.hid (hE.ext hE1)
  have HLow := Lib.hid hE.low
  clear hW1 hE1 hG1 hL1 hS1 hS hE
  have hbd := ed_bd n
  have HED := Lib.hid (fun w => edit_any n w)
  obtain ⟨es, hes⟩ : ∃ x, edS n = x := ⟨_, rfl⟩
  obtain ⟨ec, hec⟩ : ∃ x, edC n = x := ⟨_, rfl⟩
  obtain ⟨ed, hed⟩ : ∃ x, edD n = x := ⟨_, rfl⟩
  obtain ⟨ea, hea⟩ : ∃ x, edA n = x := ⟨_, rfl⟩
  rw [hes, hec, hed, hea] at HED
  rw [hes, hea] at hbd
  have HBD := Lib.hid hbd
  clear hbd hes hec hed hea hn
  go_enter Tryd.func4, Tryd.ntmps4
  go_upto_region 1 with (fail)
  rw [HW1.out]
  clear HW1
  go_wp2_with fail
  refine (fit_any W1).mono ?_
  rintro e w2 ⟨rfl, hE2⟩
  have HE2 := Lib.hid hE2
  have HG2 := Lib.hid (hE2.blk HG1.out)
  have c2 : w2.cell? ⟨W.heap.size, 0, none⟩ = some (.slice a len cap) := by rw [cell_of_row w2 W.heap.size 0 _ _ _ HG2.out]; rfl
  clear hE2
  by_cases hz : 200 < len
  · have hz' : (200 : Int) < (len : Int) := by omega
    go_wp2_with fail
    go_ret
    exact ⟨rfl, HE1.out.trans HE2.out⟩
  have hz' : (len : Int) ≤ 200 := by omega
  have HSA : Hid (SeedAt W.heap.size w2) := Lib.hid (HS.out.at_ (HE1.out.trans HE2.out) (Nat.le_refl _) (by omega) HG2.out)
  clear hz
  go_wp2_with fail
  refine (show Calls Tryd.prog _ #[.pointer (some ⟨W.heap.size, 0, none⟩), .int .i64 6] w2 _ from formula 6 (by decide) W.heap.size w2 HSA.out (HQ1.out.ext HE2.out) HLow.out (blk_lt HG2.out)).mono ?_
  rintro e w3 ⟨⟨f, t, rfl, hR3, hF3⟩, hX3, hS3⟩
  have HF3 := Lib.hid hF3
  have HX3 : Hid (Ext W w3) := Lib.hid (hX3.ext (HE1.out.trans HE2.out) (Nat.le_refl _))
  have HQ3 : Hid (EnvQ w3) := Lib.hid ((HQ1.out.ext HE2.out).extX HLow.out hX3)
  have HL3 := Lib.hid hF3.leaves
  have HR3 := Lib.hid (ft_right hF3 200 (by decide))
  have HZ3 := Lib.hid (ft_size hF3)
  obtain ⟨W5, hW5, hE5, hG5, hL5, hS5⟩ := new_blk w3 f.cells 33
  have HW5 := Lib.hid hW5
  have HE5 := Lib.hid hE5
  have HGN := Lib.hid hG5
  have HT := Lib.hid (show Rep W5 (fun _ => True) t f from (hR3.imp' (fun _ _ _ => trivial)).ext hE5)
  have HQ5 := Lib.hid (HQ3.out.ext hE5)
  clear hX3 hS3 c2 hR3 hF3 hW5 hE5 hG5 hL5 hS5
  unfold Fl.val
  go_upto_region 6 with (first | ((with_reducible refine wpl_guard (isStore 33) ?_ ?_); (· rfl); refine wpl_store (t := ?_) (old := ?_) (w' := ?_) rfl 33 _ _ rfl rfl rfl ?_ ?_ ?_ ?_ ?_ ?_; rotate_left 2; (· (first | (with_reducible assumption) | (simp (disch := (first | omega | (simp only [World.size_alloc, World.size_setCell, World.size_drew, size_setRow]; done) | (simp only [World.size_alloc, World.size_setCell, World.size_drew, size_setRow]; omega))) only [hq_at, hq_past, hq_drew, hq_drewN, hq_cell, hq_row, hq_same, rowOf_cells, Option.map_some, *]; rfl) | (simp (disch := (first | omega | (simp only [World.size_alloc, World.size_setCell, World.size_drew, size_setRow]; done) | (simp only [World.size_alloc, World.size_setCell, World.size_drew, size_setRow]; omega))) only [hq_at, hq_past, hq_drew, hq_drewN, hq_cell, hq_row, hq_same, rowOf_cells, Option.map_some, *]))); (· kernel_rfl); (· rfl); (· rfl); rotate_left 1; (· (first | (simp (disch := (first | omega | (simp only [World.size_alloc, World.size_setCell, World.size_drew, size_setRow]; done) | (simp only [World.size_alloc, World.size_setCell, World.size_drew, size_setRow]; omega))) only [setRow_at, setRow_past, setRow_drew]; rfl) | rfl))))
  rw [HW5.out]
  clear HW5
  go_wp2_with fail
  refine (HED.out W5).mono ?_
  rintro e w6 ⟨rfl, hE6⟩
  obtain ⟨W7, hW7, hE7, hG7, hL7, hS7⟩ := new_blk w6 #[.int .i64 es, .bool ec, .bool false, .int .i64 ea] 36
  obtain ⟨W8, hW8, hE8, hG8, hL8, hS8⟩ := new_blk W7 #[.int .i64 es, .bool ec, .bool true, .int .i64 ea] 36
  have HW7 := Lib.hid hW7
  have HW8 := Lib.hid hW8
  have HE8 := Lib.hid ((hE6.trans hE7).trans hE8)
  have HGE := Lib.hid (hE8.blk hG7)
  have HGD := Lib.hid hG8
  have c7 : ∀ i, W7.cell? ⟨w6.heap.size, i, none⟩ = (#[.int .i64 es, .bool ec, .bool false, .int .i64 ea] : Array Value)[i]? := fun i => cell_of_row W7 w6.heap.size i _ _ _ hG7
  have l7 : w6.heap.size < W7.heap.size := blk_lt hG7
  have HGN8 := Lib.hid (((hE6.trans hE7).trans hE8).blk HGN.out)
  have HT8 := Lib.hid (HT.out.ext ((hE6.trans hE7).trans hE8))
  have HQ8 := Lib.hid (HQ5.out.ext ((hE6.trans hE7).trans hE8))
  have HGL := Lib.hid (HL3.out.weak (fun _ h => seed_gl h))
  have HGL' := Lib.hid (HL3.out.map (tn := fun x => .mk (leafS es ec false ea x) []) (G' := Gl) (fun s hs => .mk _ _ (fun _ _ => edit_gl hs es ea ec) (fun t ht => by cases ht)))
  have HMB := Lib.hid (map_back (G := GSeed) (tn1 := fun x => .mk (leafS es ec false ea x) []) (tn2 := fun x => .mk (leafS es ec true ea x) []) (fun s hs => by rw [mapT_leaf (edit_back hs es ea ec).2, (edit_back hs es ea ec).1]) HL3.out)
  have HMR := Lib.hid (map_right (G := GSeed) (tn := fun x => .mk (leafS es ec true ea x) []) (fun s hs => ⟨_, rfl, edit_right hs es HBD.out.2.1 ec⟩) HL3.out 200 HR3.out)
  have HMZ := Lib.hid (map_sizes (G := GSeed) (tn := fun x => .mk (leafS es ec true ea x) []) (fun s hs => by simp [sizeT, sizeL]) HL3.out)
  have FD := Lib.hid (formula8_any es ea ec true t f W8 HT8.out HGL.out)
  have c8 : ∀ i, W8.cell? ⟨W7.heap.size, i, none⟩ = (#[.int .i64 es, .bool ec, .bool true, .int .i64 ea] : Array Value)[i]? := fun i => cell_of_row W8 W7.heap.size i _ _ _ hG8
  have hgn8 := HGN8.out
  clear hE6 hW7 hE7 hG7 hL7 hS7 hW8 hE8 hG8 hL8 hS8
  go_upto_region 8 with fail
  rw [HW7.out]
  go_upto_region 10 with fail
  rw [HW8.out]
  clear HW7 HW8 c7 l7
  go_wp2_with (first | ((with_reducible refine wpl_guard (isLoad 33) ?_ ?_); (· rfl); refine wpl_load (t := ?_) (cs := ?_) (fr := ?_) rfl 33 _ rfl rfl ?_ Tryd.underlying33 rfl ?_ ?_; rotate_left 3; (· (first | (with_reducible assumption) | (simp (disch := (first | omega | (simp only [World.size_alloc, World.size_setCell, World.size_drew, size_setRow]; done) | (simp only [World.size_alloc, World.size_setCell, World.size_drew, size_setRow]; omega))) only [hq_at, hq_past, hq_drew, hq_drewN, hq_cell, hq_row, hq_same, rowOf_cells, Option.map_some, *]; rfl) | (simp (disch := (first | omega | (simp only [World.size_alloc, World.size_setCell, World.size_drew, size_setRow]; done) | (simp only [World.size_alloc, World.size_setCell, World.size_drew, size_setRow]; omega))) only [hq_at, hq_past, hq_drew, hq_drewN, hq_cell, hq_row, hq_same, rowOf_cells, Option.map_some, *]))); (· kernel_rfl); (try dsimp only [Act.put, List.setIfInBounds_toArray, List.set_cons_zero, List.set_cons_succ])))
  refine FD.out.mono ?_
  rintro e w9 ⟨⟨g, rfl, hR9⟩, hE9⟩
  obtain ⟨W10, hW10, hE10, hG10, hL10, hS10⟩ := new_blk w9 g.cells 33
  have HW10 := Lib.hid hW10
  have HE10 := Lib.hid (hE9.trans hE10)
  have HGG := Lib.hid hG10
  have HGN10 := Lib.hid ((hE9.trans hE10).blk HGN8.out)
  have HGE10 := Lib.hid ((hE9.trans hE10).blk HGE.out)
  have HGD10 := Lib.hid ((hE9.trans hE10).blk HGD.out)
  have HT10 := Lib.hid (HT8.out.ext (hE9.trans hE10))
  have HTG := Lib.hid (hR9.ext hE10)
  have HQ10 := Lib.hid (HQ8.out.ext (hE9.trans hE10))
  clear hE9 hR9 hW10 hE10 hG10 hL10 hS10 c8 hgn8 FD
  unfold Fl.val
  go_upto_region 11 with (first | ((with_reducible refine wpl_guard (isStore 33) ?_ ?_); (· rfl); refine wpl_store (t := ?_) (old := ?_) (w' := ?_) rfl 33 _ _ rfl rfl rfl ?_ ?_ ?_ ?_ ?_ ?_; rotate_left 2; (· (first | (with_reducible assumption) | (simp (disch := (first | omega | (simp only [World.size_alloc, World.size_setCell, World.size_drew, size_setRow]; done) | (simp only [World.size_alloc, World.size_setCell, World.size_drew, size_setRow]; omega))) only [hq_at, hq_past, hq_drew, hq_drewN, hq_cell, hq_row, hq_same, rowOf_cells, Option.map_some, *]; rfl) | (simp (disch := (first | omega | (simp only [World.size_alloc, World.size_setCell, World.size_drew, size_setRow]; done) | (simp only [World.size_alloc, World.size_setCell, World.size_drew, size_setRow]; omega))) only [hq_at, hq_past, hq_drew, hq_drewN, hq_cell, hq_row, hq_same, rowOf_cells, Option.map_some, *]))); (· kernel_rfl); (· rfl); (· rfl); rotate_left 1; (· (first | (simp (disch := (first | omega | (simp only [World.size_alloc, World.size_setCell, World.size_drew, size_setRow]; done) | (simp only [World.size_alloc, World.size_setCell, World.size_drew, size_setRow]; omega))) only [setRow_at, setRow_past, setRow_drew]; rfl) | rfl))))
  rw [HW10.out]
  clear HW10
  (try simp only [Act.put, List.setIfInBounds_toArray, List.set_cons_zero, List.set_cons_succ])
  have eR : CallE Tryd.prog W10 12 #[.agg g.cells] (.bool true) := fun w hE => by
    have h := right_v (w := w) (t := mapT (fun x => .mk (leafS es ec true ea x) []) t) ⟨g, rfl, HTG.out.ext hE⟩ (HQ10.out.ext hE)
    rwa [HMR.out] at h
  obtain ⟨z, hz⟩ : ∃ z, sizeT t = z := ⟨_, rfl⟩
  have HZ' := HZ3.out
  rw [hz] at HZ'
  have eS : CallE Tryd.prog W10 13 #[.agg g.cells] (.int .i64 (z : Int)) := fun w hE => by
    have h := size_v (w := w) (t := mapT (fun x => .mk (leafS es ec true ea x) []) t) ⟨g, rfl, HTG.out.ext hE⟩ (by rw [HMZ.out, hz]; omega)
    rwa [HMZ.out, hz] at h
  have eF : CallE Tryd.prog W10 13 #[.agg f.cells] (.int .i64 (z : Int)) := fun w hE => by
    have h := size_v (w := w) (t := t) ⟨f, rfl, HT10.out.ext hE⟩ (by rw [hz]; omega)
    rwa [hz] at h
  have eE : CallE Tryd.prog W10 14 #[.agg #[.int .i64 es, .bool ec, .bool false, .int .i64 ea]] (.bool true) := fun w hE => eright_any es ea ec false w HBD.out.1 HBD.out.2
  clear HZ'
  refine region_any (by kernel_rfl) (by kernel_rfl) rfl (fun K hK => ?_)
  refine seqr_pure (v := .agg g.cells) (by rfl) (fun ρ => by rfl) (fun ρ w hE hF => ?_) ?_
  · (try simp only [fill, Act.put, List.setIfInBounds_toArray, List.set_cons_zero, List.set_cons_succ])
    exact exec_load_row 33 _ rfl rfl (hE.blk HGG.out) Tryd.underlying33 rfl (by kernel_rfl)
  (try simp only [Act.put, List.setIfInBounds_toArray, List.set_cons_zero, List.set_cons_succ])
  (refine seqr_call0 (v := ?_) (f := ?_) (args := ?_) (by rfl) (fun ρ => by rfl) (fun ρ w => ?_) (fun w hE => ?_) ?_; rotate_left 3; (· ((try simp only [fill, Act.put, List.setIfInBounds_toArray, List.set_cons_zero, List.set_cons_succ]); go_simp; constructor <;> with_reducible rfl)); (· (with_reducible exact CallE.call (by assumption) hE)); (try simp only [Act.put, List.setIfInBounds_toArray, List.set_cons_zero, List.set_cons_succ]))
  (refine seqr_pure (v := ?_) (by rfl) (fun ρ => by rfl) (fun ρ w hE hF => ?_) ?_; rotate_left 1; (· ((try simp only [fill, Act.put, List.setIfInBounds_toArray, List.set_cons_zero, List.set_cons_succ]); go_simp; try with_reducible rfl)); (try simp only [Act.put, List.setIfInBounds_toArray, List.set_cons_zero, List.set_cons_succ]))
  refine seqr_pure (v := .agg g.cells) (by rfl) (fun ρ => by rfl) (fun ρ w hE hF => ?_) ?_
  · (try simp only [fill, Act.put, List.setIfInBounds_toArray, List.set_cons_zero, List.set_cons_succ])
    exact exec_load_row 33 _ rfl rfl (hE.blk HGG.out) Tryd.underlying33 rfl (by kernel_rfl)
  (try simp only [Act.put, List.setIfInBounds_toArray, List.set_cons_zero, List.set_cons_succ])
  (refine seqr_call0 (v := ?_) (f := ?_) (args := ?_) (by rfl) (fun ρ => by rfl) (fun ρ w => ?_) (fun w hE => ?_) ?_; rotate_left 3; (· ((try simp only [fill, Act.put, List.setIfInBounds_toArray, List.set_cons_zero, List.set_cons_succ]); go_simp; constructor <;> with_reducible rfl)); (· (with_reducible exact CallE.call (by assumption) hE)); (try simp only [Act.put, List.setIfInBounds_toArray, List.set_cons_zero, List.set_cons_succ]))
  refine seqr_pure (v := .agg f.cells) (by rfl) (fun ρ => by rfl) (fun ρ w hE hF => ?_) ?_
  · (try simp only [fill, Act.put, List.setIfInBounds_toArray, List.set_cons_zero, List.set_cons_succ])
    exact exec_load_row 33 _ rfl rfl (hE.blk HGN10.out) Tryd.underlying33 rfl (by kernel_rfl)
  (try simp only [Act.put, List.setIfInBounds_toArray, List.set_cons_zero, List.set_cons_succ])
  (refine seqr_call0 (v := ?_) (f := ?_) (args := ?_) (by rfl) (fun ρ => by rfl) (fun ρ w => ?_) (fun w hE => ?_) ?_; rotate_left 3; (· ((try simp only [fill, Act.put, List.setIfInBounds_toArray, List.set_cons_zero, List.set_cons_succ]); go_simp; constructor <;> with_reducible rfl)); (· (with_reducible exact CallE.call (by assumption) hE)); (try simp only [Act.put, List.setIfInBounds_toArray, List.set_cons_zero, List.set_cons_succ]))
  (refine seqr_pure (v := ?_) (by rfl) (fun ρ => by rfl) (fun ρ w hE hF => ?_) ?_; rotate_left 1; (· ((try simp only [fill, Act.put, List.setIfInBounds_toArray, List.set_cons_zero, List.set_cons_succ]); go_simp; try with_reducible rfl)); (try simp only [Act.put, List.setIfInBounds_toArray, List.set_cons_zero, List.set_cons_succ]))
  (refine seqr_pure (v := ?_) (by rfl) (fun ρ => by rfl) (fun ρ w hE hF => ?_) ?_; rotate_left 1; (· ((try simp only [fill, Act.put, List.setIfInBounds_toArray, List.set_cons_zero, List.set_cons_succ]); go_simp; try with_reducible rfl)); (try simp only [Act.put, List.setIfInBounds_toArray, List.set_cons_zero, List.set_cons_succ]))
  (refine seqr_pure (v := ?_) (by rfl) (fun ρ => by rfl) (fun ρ w hE hF => ?_) ?_; rotate_left 1; (· ((try simp only [fill, Act.put, List.setIfInBounds_toArray, List.set_cons_zero, List.set_cons_succ]); go_simp; try with_reducible rfl)); (try simp only [Act.put, List.setIfInBounds_toArray, List.set_cons_zero, List.set_cons_succ]))
  refine seqr_pure (v := .agg #[.int .i64 es, .bool ec, .bool true, .int .i64 ea]) (by rfl) (fun ρ => by rfl) (fun ρ w hE hF => ?_) ?_
  · (try simp only [fill, Act.put, List.setIfInBounds_toArray, List.set_cons_zero, List.set_cons_succ])
    exact exec_load_row 36 _ rfl rfl (hE.blk HGD10.out) Tryd.underlying36 rfl (by kernel_rfl)
  (try simp only [Act.put, List.setIfInBounds_toArray, List.set_cons_zero, List.set_cons_succ])
  refine seqr_pure (v := .agg #[.int .i64 es, .bool ec, .bool false, .int .i64 ea]) (by rfl) (fun ρ => by rfl) (fun ρ w hE hF => ?_) ?_
  · (try simp only [fill, Act.put, List.setIfInBounds_toArray, List.set_cons_zero, List.set_cons_succ])
    exact exec_load_row 36 _ rfl rfl (hE.blk HGE10.out) Tryd.underlying36 rfl (by kernel_rfl)
  (try simp only [Act.put, List.setIfInBounds_toArray, List.set_cons_zero, List.set_cons_succ])
  refine seqr_pure (v := .agg f.cells) (by rfl) (fun ρ => by rfl) (fun ρ w hE hF => ?_) ?_
  · (try simp only [fill, Act.put, List.setIfInBounds_toArray, List.set_cons_zero, List.set_cons_succ])
    exact exec_load_row 33 _ rfl rfl (hE.blk HGN10.out) Tryd.underlying33 rfl (by kernel_rfl)
  (try simp only [Act.put, List.setIfInBounds_toArray, List.set_cons_zero, List.set_cons_succ])
  refine seqr_rel (TreeV (mapT (fun x => .mk (leafS es ec false ea x) []) t)) (TreeV.lasts _) rfl (by rfl) (fun ρ => by rfl) (fun ρ w hE hF => ?_) ?_
  · refine outcome_call (f := 11) (args := #[edV es ec false ea, .agg f.cells]) ?_ (formula8_v es ea ec false (w := w) (t := t) ⟨f, rfl, HT10.out.ext hE⟩ HGL.out)
    (try simp only [fill, Act.put, List.setIfInBounds_toArray, List.set_cons_zero, List.set_cons_succ])
    go_simp
  (try simp only [Act.put, List.setIfInBounds_toArray, List.set_cons_zero, List.set_cons_succ])
  refine seqr_rel (TreeV t) (TreeV.lasts _) rfl (by rfl) (fun ρ => by rfl) (fun ρ w hE hF => ?_) ?_
  · refine outcome_call (f := 11) (args := #[edV es ec true ea, ρ 36]) ?_ (by have h := formula8_v es ea ec true (w := w) (hF.get (.head _) (by rfl)) HGL'.out; rwa [HMB.out] at h)
    (try simp only [fill, Act.put, List.setIfInBounds_toArray, List.set_cons_zero, List.set_cons_succ])
    go_simp
  (try simp only [Act.put, List.setIfInBounds_toArray, List.set_cons_zero, List.set_cons_succ])
  refine seqr_pure (v := .agg f.cells) (by rfl) (fun ρ => by rfl) (fun ρ w hE hF => ?_) ?_
  · (try simp only [fill, Act.put, List.setIfInBounds_toArray, List.set_cons_zero, List.set_cons_succ])
    exact exec_load_row 33 _ rfl rfl (hE.blk HGN10.out) Tryd.underlying33 rfl (by kernel_rfl)
  (try simp only [Act.put, List.setIfInBounds_toArray, List.set_cons_zero, List.set_cons_succ])
  (refine seqr_call (v := .bool true) (args := fun ρ => #[ρ 37, .agg f.cells]) (by rfl) (fun ρ => by rfl) (fun ρ w => ?_) (fun ρ w hE hF => by have h := same_v (w := w) (hF.get (.head _) (by rfl)) (t' := t) ⟨f, rfl, HT10.out.ext hE⟩; rwa [sameT_self] at h) ?_; (· ((try simp only [fill, Act.put, List.setIfInBounds_toArray, List.set_cons_zero, List.set_cons_succ]); go_simp)); (try simp only [Act.put, List.setIfInBounds_toArray, List.set_cons_zero, List.set_cons_succ]))
  (refine seqr_pure (v := ?_) (by rfl) (fun ρ => by rfl) (fun ρ w hE hF => ?_) ?_; rotate_left 1; (· ((try simp only [fill, Act.put, List.setIfInBounds_toArray, List.set_cons_zero, List.set_cons_succ]); go_simp; try with_reducible rfl)); (try simp only [Act.put, List.setIfInBounds_toArray, List.set_cons_zero, List.set_cons_succ]))
  (refine seqr_pure (v := ?_) (by rfl) (fun ρ => by rfl) (fun ρ w hE hF => ?_) ?_; rotate_left 1; (· ((try simp only [fill, Act.put, List.setIfInBounds_toArray, List.set_cons_zero, List.set_cons_succ]); go_simp; try with_reducible rfl)); (try simp only [Act.put, List.setIfInBounds_toArray, List.set_cons_zero, List.set_cons_succ]))
  refine seqr_pure (v := .agg #[.int .i64 es, .bool ec, .bool false, .int .i64 ea]) (by rfl) (fun ρ => by rfl) (fun ρ w hE hF => ?_) ?_
  · (try simp only [fill, Act.put, List.setIfInBounds_toArray, List.set_cons_zero, List.set_cons_succ])
    exact exec_load_row 36 _ rfl rfl (hE.blk HGE10.out) Tryd.underlying36 rfl (by kernel_rfl)
  (try simp only [Act.put, List.setIfInBounds_toArray, List.set_cons_zero, List.set_cons_succ])
  (refine seqr_call0 (v := ?_) (f := ?_) (args := ?_) (by rfl) (fun ρ => by rfl) (fun ρ w => ?_) (fun w hE => ?_) ?_; rotate_left 3; (· ((try simp only [fill, Act.put, List.setIfInBounds_toArray, List.set_cons_zero, List.set_cons_succ]); go_simp; constructor <;> with_reducible rfl)); (· (with_reducible exact CallE.call (by assumption) hE)); (try simp only [Act.put, List.setIfInBounds_toArray, List.set_cons_zero, List.set_cons_succ]))
  (refine seqr_pure (v := ?_) (by rfl) (fun ρ => by rfl) (fun ρ w hE hF => ?_) ?_; rotate_left 1; (· ((try simp only [fill, Act.put, List.setIfInBounds_toArray, List.set_cons_zero, List.set_cons_succ]); go_simp; try with_reducible rfl)); (try simp only [Act.put, List.setIfInBounds_toArray, List.set_cons_zero, List.set_cons_succ]))
  (refine seqr_pure (v := ?_) (by rfl) (fun ρ => by rfl) (fun ρ w hE hF => ?_) ?_; rotate_left 1; (· ((try simp only [fill, Act.put, List.setIfInBounds_toArray, List.set_cons_zero, List.set_cons_succ]); go_simp; try with_reducible rfl)); (try simp only [Act.put, List.setIfInBounds_toArray, List.set_cons_zero, List.set_cons_succ]))
  refine seqr_done (fun ρ wN hEN hFN => ?_); (try simp only [fill, Act.put, List.setIfInBounds_toArray, List.set_cons_zero, List.set_cons_succ]); refine (show K _ _ from hK.out _ _ ?_); clear hK K
  go_wp2_with fail
  go_ret
  exact ⟨rfl, (((HX3.out.trans HE5.out).trans HE8.out).trans HE10.out).trans hEN⟩
theorem walk (a : Option Addr) (len cap : Nat) (n : Int) (W : World) (hS : SeedIn W a len cap) (hn : (Lit.int .i64 n).wf = true) (hE : EnvQ W) :
    Calls Tryd.prog 4 #[.slice a len cap, .int .i64 n] W fun e w' => e = .returned (.bool true) ∧ Below W.heap.size W w' := walk0 a len cap n W hS (bounds_i64 hn) hE
end Go.Proofs.YtdfgobnmcngkmaaDoor.shiftFormulas
