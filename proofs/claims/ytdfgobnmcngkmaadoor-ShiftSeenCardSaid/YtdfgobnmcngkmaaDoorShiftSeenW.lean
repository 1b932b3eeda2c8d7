/-
  ShiftSeen: walk. Conditions: the arguments' own.
-/
import Derived.Test.YtdfgobnmcngkmaaDoorShiftN
import Derived.Test.YtdfgobnmcngkmaaDoorShiftH
namespace Go.Proofs.YtdfgobnmcngkmaaDoor.shiftSeen
open Go.RowKit
set_option linter.unusedVariables false
set_option linter.unusedSimpArgs false

theorem exec_build {P : Program} {o : Oper} {a : Act} {w : World} (t : TypeId) (parts : Array (Nat × Operand)) (ho : o.op = .build t parts) {l : List (Nat × Value)} (hl : parts.toList.map (fun x => (x.1, a.eval x.2)) = l)
    {cs : Array Value} (hb : P.built t l = some cs) : (execOp a.eval o).run P w = .ok (.value (.agg cs)) w := by
  have hv : (parts.map fun (i, x) => (i, a.eval x)) = l.toArray := by
    rw [← hl]
    apply Array.ext'
    simp
  have hr := run_build (P := P) w t l.toArray cs (by simpa using hb)
  unfold execOp
  simp only [ho, hv, Sem.run_bind, hr, Result.andThen_ok, Sem.run_pure]
set_option maxRecDepth 100000 in
set_option maxHeartbeats 8000000 in
theorem walk0 (a : Option Addr) (len cap : Nat) (W : World) (hS : SeedIn W a len cap) (hE : EnvQ W) :
    Calls Tryd.prog 6 #[.slice a len cap] W fun e w' => e = .returned (.bool true) ∧ Ext W w' := by
  obtain ⟨W1, hW1, hE1, hG1, hL1, hS1⟩ := new_blk W #[.slice a len cap] 23
  have HW1 := Lib.hid hW1
  have HE1 := Lib.hid hE1
  have HG1 := Lib.hid hG1
  have HS := Lib.hid hS
  have HQ1 := Lib.hid (hE.ext hE1)
  have HLow := Lib.hid hE.low
  clear hW1 hE1 hG1 hL1 hS1 hS hE
  go_enter Tryd.func6, Tryd.ntmps6
  go_upto_region 1 with (fail)
  rw [HW1.out]
  clear HW1
  go_wp2_with fail
  refine (fit_any W1).mono ?_
  rintro e w2 ⟨rfl, hE2⟩
  have HE2 := Lib.hid hE2
  have HG2 := Lib.hid (hE2.blk HG1.out)
  have c2 : w2.cell? ⟨W.heap.size, 0, none⟩ = some (.slice a len cap) := by rw [cell_of_row w2 W.heap.size 0 _ _ _ HG2.out]; rfl
  clear hE2
  by_cases hz : 200 < len
  · have hz' : (200 : Int) < (len : Int) := by omega
    go_wp2_with fail
    go_ret
    exact ⟨rfl, HE1.out.trans HE2.out⟩
  have hz' : (len : Int) ≤ 200 := by omega
  have HSA : Hid (SeedAt W.heap.size w2) := Lib.hid (HS.out.at_ (HE1.out.trans HE2.out) (Nat.le_refl _) (by omega) HG2.out)
  clear hz
  go_wp2_with fail
  refine (show Calls Tryd.prog _ #[.pointer (some ⟨W.heap.size, 0, none⟩), .int .i64 5] w2 _ from formula 5 (by decide) W.heap.size w2 HSA.out (HQ1.out.ext HE2.out) HLow.out (blk_lt HG2.out)).mono ?_
  rintro e w3 ⟨⟨f, t, rfl, hR3, hF3⟩, hX3, hS3⟩
  have HF3 := Lib.hid hF3
  have HX3 : Hid (Ext W w3) := Lib.hid (hX3.ext (HE1.out.trans HE2.out) (Nat.le_refl _))
  have HQ3 : Hid (EnvQ w3) := Lib.hid ((HQ1.out.ext HE2.out).extX HLow.out hX3)
  have HL3 := Lib.hid hF3.leaves
  have HR3 := Lib.hid (ft_right hF3 200 (by decide))
  have HZ3 := Lib.hid (ft_size hF3)
  obtain ⟨W5, hW5, hE5, hG5, hL5, hS5⟩ := new_blk w3 f.cells 33
  have HW5 := Lib.hid hW5
  have HE5 := Lib.hid hE5
  have HGN := Lib.hid hG5
  have HT := Lib.hid (show Rep W5 (fun _ => True) t f from (hR3.imp' (fun _ _ _ => trivial)).ext hE5)
  have HQ5 := Lib.hid (HQ3.out.ext hE5)
  clear hX3 hS3 c2 hR3 hF3 hW5 hE5 hG5 hL5 hS5
  unfold Fl.val
  go_upto_region 6 with (first | ((with_reducible refine wpl_guard (isStore 33) ?_ ?_); (· rfl); refine wpl_store (t := ?_) (old := ?_) (w' := ?_) rfl 33 _ _ rfl rfl rfl ?_ ?_ ?_ ?_ ?_ ?_; rotate_left 2; (· (first | (with_reducible assumption) | (simp (disch := (first | omega | (simp only [World.size_alloc, World.size_setCell, World.size_drew, size_setRow]; done) | (simp only [World.size_alloc, World.size_setCell, World.size_drew, size_setRow]; omega))) only [hq_at, hq_past, hq_drew, hq_drewN, hq_cell, hq_row, hq_same, rowOf_cells, Option.map_some, *]; rfl) | (simp (disch := (first | omega | (simp only [World.size_alloc, World.size_setCell, World.size_drew, size_setRow]; done) | (simp only [World.size_alloc, World.size_setCell, World.size_drew, size_setRow]; omega))) only [hq_at, hq_past, hq_drew, hq_drewN, hq_cell, hq_row, hq_same, rowOf_cells, Option.map_some, *]))); (· kernel_rfl); (· rfl); (· rfl); rotate_left 1; (· (first | (simp (disch := (first | omega | (simp only [World.size_alloc, World.size_setCell, World.size_drew, size_setRow]; done) | (simp only [World.size_alloc, World.size_setCell, World.size_drew, size_setRow]; omega))) only [setRow_at, setRow_past, setRow_drew]; rfl) | rfl))))
  rw [HW5.out]
  clear HW5
  have HGC := Lib.hid (HL3.out.weak (fun _ h => seed_gc h))
  have HMS := Lib.hid (map_self (G := GSeed) (tn := fun x => .mk (copyS 0 0 x) []) (fun s hs => by rw [copy_zero hs]) HL3.out)
  have HMV := Lib.hid (map_self (G := GSeed) (tn := fun x => .mk (seenS 0 0 0 x) []) (fun s hs => by rw [seen_zero hs]) HL3.out)
  have HMR := Lib.hid (map_right (G := GSeed) (tn := fun x => .mk (copyS 25 98 x) []) (fun s hs => ⟨_, rfl, copied_right hs⟩) HL3.out 200 HR3.out)
  have HMZ := Lib.hid (map_sizes (G := GSeed) (tn := fun x => .mk (copyS 25 98 x) []) (fun s hs => by simp [sizeT, sizeL]) HL3.out)
  have C1 := copy8_any 0 3 3 0 3 3 0 0 (by omega) (by omega) ⟨⟨by omega, by omega⟩, by omega, by omega⟩ t f W5 HT.out HGC.out
  rw [HMS.out] at C1
  have C1 := Lib.hid C1
  have hgn := HGN.out
  go_wp2_with (first | ((with_reducible refine wpl_guard (isLoad 33) ?_ ?_); (· rfl); refine wpl_load (t := ?_) (cs := ?_) (fr := ?_) rfl 33 _ rfl rfl ?_ Tryd.underlying33 rfl ?_ ?_; rotate_left 3; (· (first | (with_reducible assumption) | (simp (disch := (first | omega | (simp only [World.size_alloc, World.size_setCell, World.size_drew, size_setRow]; done) | (simp only [World.size_alloc, World.size_setCell, World.size_drew, size_setRow]; omega))) only [hq_at, hq_past, hq_drew, hq_drewN, hq_cell, hq_row, hq_same, rowOf_cells, Option.map_some, *]; rfl) | (simp (disch := (first | omega | (simp only [World.size_alloc, World.size_setCell, World.size_drew, size_setRow]; done) | (simp only [World.size_alloc, World.size_setCell, World.size_drew, size_setRow]; omega))) only [hq_at, hq_past, hq_drew, hq_drewN, hq_cell, hq_row, hq_same, rowOf_cells, Option.map_some, *]))); (· kernel_rfl); (try dsimp only [Act.put, List.setIfInBounds_toArray, List.set_cons_zero, List.set_cons_succ])))
  refine C1.out.mono ?_
  rintro e w6 ⟨⟨g, rfl, hR6⟩, hE6⟩
  obtain ⟨W7, hW7, hE7, hG7, hL7, hS7⟩ := new_blk w6 g.cells 33
  have HW7 := Lib.hid hW7
  have HE7 := Lib.hid (hE6.trans hE7)
  have HGG := Lib.hid hG7
  have HTG := Lib.hid (hR6.ext hE7)
  have HGN7 := Lib.hid ((hE6.trans hE7).blk HGN.out)
  have HT7 := Lib.hid (HT.out.ext (hE6.trans hE7))
  have hgn7 := HGN7.out
  have C2 := Lib.hid (copy8_any 0 25 98 0 0 0 25 98 (by omega) (by omega) ⟨⟨by omega, by omega⟩, by omega, by omega⟩ t f W7 HT7.out HGC.out)
  clear hE6 hR6 hW7 hE7 hG7 hL7 hS7 C1 hgn
  unfold Fl.val
  go_upto_region 7 with (first | ((with_reducible refine wpl_guard (isStore 33) ?_ ?_); (· rfl); refine wpl_store (t := ?_) (old := ?_) (w' := ?_) rfl 33 _ _ rfl rfl rfl ?_ ?_ ?_ ?_ ?_ ?_; rotate_left 2; (· (first | (with_reducible assumption) | (simp (disch := (first | omega | (simp only [World.size_alloc, World.size_setCell, World.size_drew, size_setRow]; done) | (simp only [World.size_alloc, World.size_setCell, World.size_drew, size_setRow]; omega))) only [hq_at, hq_past, hq_drew, hq_drewN, hq_cell, hq_row, hq_same, rowOf_cells, Option.map_some, *]; rfl) | (simp (disch := (first | omega | (simp only [World.size_alloc, World.size_setCell, World.size_drew, size_setRow]; done) | (simp only [World.size_alloc, World.size_setCell, World.size_drew, size_setRow]; omega))) only [hq_at, hq_past, hq_drew, hq_drewN, hq_cell, hq_row, hq_same, rowOf_cells, Option.map_some, *]))); (· kernel_rfl); (· rfl); (· rfl); rotate_left 1; (· (first | (simp (disch := (first | omega | (simp only [World.size_alloc, World.size_setCell, World.size_drew, size_setRow]; done) | (simp only [World.size_alloc, World.size_setCell, World.size_drew, size_setRow]; omega))) only [setRow_at, setRow_past, setRow_drew]; rfl) | rfl))))
  rw [HW7.out]
  clear HW7
  go_wp2_with (first | ((with_reducible refine wpl_guard (isLoad 33) ?_ ?_); (· rfl); refine wpl_load (t := ?_) (cs := ?_) (fr := ?_) rfl 33 _ rfl rfl ?_ Tryd.underlying33 rfl ?_ ?_; rotate_left 3; (· (first | (with_reducible assumption) | (simp (disch := (first | omega | (simp only [World.size_alloc, World.size_setCell, World.size_drew, size_setRow]; done) | (simp only [World.size_alloc, World.size_setCell, World.size_drew, size_setRow]; omega))) only [hq_at, hq_past, hq_drew, hq_drewN, hq_cell, hq_row, hq_same, rowOf_cells, Option.map_some, *]; rfl) | (simp (disch := (first | omega | (simp only [World.size_alloc, World.size_setCell, World.size_drew, size_setRow]; done) | (simp only [World.size_alloc, World.size_setCell, World.size_drew, size_setRow]; omega))) only [hq_at, hq_past, hq_drew, hq_drewN, hq_cell, hq_row, hq_same, rowOf_cells, Option.map_some, *]))); (· kernel_rfl); (try dsimp only [Act.put, List.setIfInBounds_toArray, List.set_cons_zero, List.set_cons_succ])))
  refine C2.out.mono ?_
  rintro e w9 ⟨⟨k, rfl, hR9⟩, hE9⟩
  obtain ⟨W10, hW10, hE10, hG10, hL10, hS10⟩ := new_blk w9 k.cells 33
  have HW10 := Lib.hid hW10
  have HE10 := Lib.hid (hE9.trans hE10)
  have HGK := Lib.hid hG10
  have HTK := Lib.hid (hR9.ext hE10)
  have HGN10 := Lib.hid ((hE9.trans hE10).blk HGN7.out)
  have HGG10 := Lib.hid ((hE9.trans hE10).blk HGG.out)
  have HT10 := Lib.hid (HT7.out.ext (hE9.trans hE10))
  have HTG10 := Lib.hid (HTG.out.ext (hE9.trans hE10))
  have HQ10 := Lib.hid ((HQ5.out.ext HE7.out).ext (hE9.trans hE10))
  clear hE9 hR9 hW10 hE10 hG10 hL10 hS10 C2 hgn7
  unfold Fl.val
  go_upto_region 8 with (first | ((with_reducible refine wpl_guard (isStore 33) ?_ ?_); (· rfl); refine wpl_store (t := ?_) (old := ?_) (w' := ?_) rfl 33 _ _ rfl rfl rfl ?_ ?_ ?_ ?_ ?_ ?_; rotate_left 2; (· (first | (with_reducible assumption) | (simp (disch := (first | omega | (simp only [World.size_alloc, World.size_setCell, World.size_drew, size_setRow]; done) | (simp only [World.size_alloc, World.size_setCell, World.size_drew, size_setRow]; omega))) only [hq_at, hq_past, hq_drew, hq_drewN, hq_cell, hq_row, hq_same, rowOf_cells, Option.map_some, *]; rfl) | (simp (disch := (first | omega | (simp only [World.size_alloc, World.size_setCell, World.size_drew, size_setRow]; done) | (simp only [World.size_alloc, World.size_setCell, World.size_drew, size_setRow]; omega))) only [hq_at, hq_past, hq_drew, hq_drewN, hq_cell, hq_row, hq_same, rowOf_cells, Option.map_some, *]))); (· kernel_rfl); (· rfl); (· rfl); rotate_left 1; (· (first | (simp (disch := (first | omega | (simp only [World.size_alloc, World.size_setCell, World.size_drew, size_setRow]; done) | (simp only [World.size_alloc, World.size_setCell, World.size_drew, size_setRow]; omega))) only [setRow_at, setRow_past, setRow_drew]; rfl) | rfl))))
  rw [HW10.out]
  clear HW10
  (try simp only [Act.put, List.setIfInBounds_toArray, List.set_cons_zero, List.set_cons_succ])
  have eR : CallE Tryd.prog W10 12 #[.agg k.cells] (.bool true) := fun w hE => by
    have h := right_v (w := w) (t := mapT (fun x => .mk (copyS 25 98 x) []) t) ⟨k, rfl, HTK.out.ext hE⟩ (HQ10.out.ext hE)
    rwa [HMR.out] at h
  obtain ⟨z, hz⟩ : ∃ z, sizeT t = z := ⟨_, rfl⟩
  have HZ' := HZ3.out
  rw [hz] at HZ'
  have eS : CallE Tryd.prog W10 13 #[.agg k.cells] (.int .i64 (z : Int)) := fun w hE => by
    have h := size_v (w := w) (t := mapT (fun x => .mk (copyS 25 98 x) []) t) ⟨k, rfl, HTK.out.ext hE⟩ (by rw [HMZ.out, hz]; omega)
    rwa [HMZ.out, hz] at h
  have eF : CallE Tryd.prog W10 13 #[.agg f.cells] (.int .i64 (z : Int)) := fun w hE => by
    have h := size_v (w := w) (t := t) ⟨f, rfl, HT10.out.ext hE⟩ (by rw [hz]; omega)
    rwa [hz] at h
  have eM : CallE Tryd.prog W10 10 #[.agg g.cells, .agg f.cells] (.bool true) := fun w hE => by
    have h := same_v (w := w) (t := t) (t' := t) ⟨g, rfl, HTG10.out.ext hE⟩ ⟨f, rfl, HT10.out.ext hE⟩
    rwa [sameT_self] at h
  clear HZ'
  refine region_any (by kernel_rfl) (by kernel_rfl) rfl (fun K hK => ?_)
  refine seqr_pure (v := .agg f.cells) (by rfl) (fun ρ => by rfl) (fun ρ w hE hF => ?_) ?_
  · (try simp only [fill, Act.put, List.setIfInBounds_toArray, List.set_cons_zero, List.set_cons_succ])
    exact exec_load_row 33 _ rfl rfl (hE.blk HGN10.out) Tryd.underlying33 rfl (by kernel_rfl)
  (try simp only [Act.put, List.setIfInBounds_toArray, List.set_cons_zero, List.set_cons_succ])
  refine seqr_pure (v := .agg #[.int .i64 0, .int .i64 0, .int .i64 0]) (by rfl) (fun ρ => by rfl) (fun ρ w hE hF => ?_) ?_
  · (try simp only [fill, Act.put, List.setIfInBounds_toArray, List.set_cons_zero, List.set_cons_succ])
    exact exec_build 28 _ rfl rfl (by kernel_rfl)
  (try simp only [Act.put, List.setIfInBounds_toArray, List.set_cons_zero, List.set_cons_succ])
  refine seqr_rel (TreeV t) (TreeV.lasts _) rfl (by rfl) (fun ρ => by rfl) (fun ρ w hE hF => ?_) ?_
  · refine outcome_call (f := 16) (args := #[.agg f.cells, ceV 0 0 0]) ?_ (by have h := seen8_v 0 0 0 ⟨⟨by omega, by omega⟩, ⟨by omega, by omega⟩, by omega, by omega⟩ (w := w) (t := t) ⟨f, rfl, HT10.out.ext hE⟩ HGC.out; rwa [HMV.out] at h)
    (try simp only [fill, Act.put, List.setIfInBounds_toArray, List.set_cons_zero, List.set_cons_succ])
    go_simp
  (try simp only [Act.put, List.setIfInBounds_toArray, List.set_cons_zero, List.set_cons_succ])
  refine seqr_pure (v := .agg f.cells) (by rfl) (fun ρ => by rfl) (fun ρ w hE hF => ?_) ?_
  · (try simp only [fill, Act.put, List.setIfInBounds_toArray, List.set_cons_zero, List.set_cons_succ])
    exact exec_load_row 33 _ rfl rfl (hE.blk HGN10.out) Tryd.underlying33 rfl (by kernel_rfl)
  (try simp only [Act.put, List.setIfInBounds_toArray, List.set_cons_zero, List.set_cons_succ])
  (refine seqr_call (v := .bool true) (args := fun ρ => #[ρ 22, .agg f.cells]) (by rfl) (fun ρ => by rfl) (fun ρ w => ?_) (fun ρ w hE hF => by have h := same_v (w := w) (hF.get (.head _) (by rfl)) (t' := t) ⟨f, rfl, HT10.out.ext hE⟩; rwa [sameT_self] at h) ?_; (· ((try simp only [fill, Act.put, List.setIfInBounds_toArray, List.set_cons_zero, List.set_cons_succ]); go_simp)); (try simp only [Act.put, List.setIfInBounds_toArray, List.set_cons_zero, List.set_cons_succ]))
  (refine seqr_pure (v := ?_) (by rfl) (fun ρ => by rfl) (fun ρ w hE hF => ?_) ?_; rotate_left 1; (· ((try simp only [fill, Act.put, List.setIfInBounds_toArray, List.set_cons_zero, List.set_cons_succ]); go_simp; try with_reducible rfl)); (try simp only [Act.put, List.setIfInBounds_toArray, List.set_cons_zero, List.set_cons_succ]))
  refine seqr_pure (v := .agg g.cells) (by rfl) (fun ρ => by rfl) (fun ρ w hE hF => ?_) ?_
  · (try simp only [fill, Act.put, List.setIfInBounds_toArray, List.set_cons_zero, List.set_cons_succ])
    exact exec_load_row 33 _ rfl rfl (hE.blk HGG10.out) Tryd.underlying33 rfl (by kernel_rfl)
  (try simp only [Act.put, List.setIfInBounds_toArray, List.set_cons_zero, List.set_cons_succ])
  refine seqr_pure (v := .agg f.cells) (by rfl) (fun ρ => by rfl) (fun ρ w hE hF => ?_) ?_
  · (try simp only [fill, Act.put, List.setIfInBounds_toArray, List.set_cons_zero, List.set_cons_succ])
    exact exec_load_row 33 _ rfl rfl (hE.blk HGN10.out) Tryd.underlying33 rfl (by kernel_rfl)
  (try simp only [Act.put, List.setIfInBounds_toArray, List.set_cons_zero, List.set_cons_succ])
  (refine seqr_call0 (v := ?_) (f := ?_) (args := ?_) (by rfl) (fun ρ => by rfl) (fun ρ w => ?_) (fun w hE => ?_) ?_; rotate_left 3; (· ((try simp only [fill, Act.put, List.setIfInBounds_toArray, List.set_cons_zero, List.set_cons_succ]); go_simp; constructor <;> with_reducible rfl)); (· (with_reducible exact CallE.call (by assumption) hE)); (try simp only [Act.put, List.setIfInBounds_toArray, List.set_cons_zero, List.set_cons_succ]))
  (refine seqr_pure (v := ?_) (by rfl) (fun ρ => by rfl) (fun ρ w hE hF => ?_) ?_; rotate_left 1; (· ((try simp only [fill, Act.put, List.setIfInBounds_toArray, List.set_cons_zero, List.set_cons_succ]); go_simp; try with_reducible rfl)); (try simp only [Act.put, List.setIfInBounds_toArray, List.set_cons_zero, List.set_cons_succ]))
  (refine seqr_pure (v := ?_) (by rfl) (fun ρ => by rfl) (fun ρ w hE hF => ?_) ?_; rotate_left 1; (· ((try simp only [fill, Act.put, List.setIfInBounds_toArray, List.set_cons_zero, List.set_cons_succ]); go_simp; try with_reducible rfl)); (try simp only [Act.put, List.setIfInBounds_toArray, List.set_cons_zero, List.set_cons_succ]))
  refine seqr_pure (v := .agg k.cells) (by rfl) (fun ρ => by rfl) (fun ρ w hE hF => ?_) ?_
  · (try simp only [fill, Act.put, List.setIfInBounds_toArray, List.set_cons_zero, List.set_cons_succ])
    exact exec_load_row 33 _ rfl rfl (hE.blk HGK.out) Tryd.underlying33 rfl (by kernel_rfl)
  (try simp only [Act.put, List.setIfInBounds_toArray, List.set_cons_zero, List.set_cons_succ])
  (refine seqr_call0 (v := ?_) (f := ?_) (args := ?_) (by rfl) (fun ρ => by rfl) (fun ρ w => ?_) (fun w hE => ?_) ?_; rotate_left 3; (· ((try simp only [fill, Act.put, List.setIfInBounds_toArray, List.set_cons_zero, List.set_cons_succ]); go_simp; constructor <;> with_reducible rfl)); (· (with_reducible exact CallE.call (by assumption) hE)); (try simp only [Act.put, List.setIfInBounds_toArray, List.set_cons_zero, List.set_cons_succ]))
  (refine seqr_pure (v := ?_) (by rfl) (fun ρ => by rfl) (fun ρ w hE hF => ?_) ?_; rotate_left 1; (· ((try simp only [fill, Act.put, List.setIfInBounds_toArray, List.set_cons_zero, List.set_cons_succ]); go_simp; try with_reducible rfl)); (try simp only [Act.put, List.setIfInBounds_toArray, List.set_cons_zero, List.set_cons_succ]))
  (refine seqr_pure (v := ?_) (by rfl) (fun ρ => by rfl) (fun ρ w hE hF => ?_) ?_; rotate_left 1; (· ((try simp only [fill, Act.put, List.setIfInBounds_toArray, List.set_cons_zero, List.set_cons_succ]); go_simp; try with_reducible rfl)); (try simp only [Act.put, List.setIfInBounds_toArray, List.set_cons_zero, List.set_cons_succ]))
  refine seqr_pure (v := .agg k.cells) (by rfl) (fun ρ => by rfl) (fun ρ w hE hF => ?_) ?_
  · (try simp only [fill, Act.put, List.setIfInBounds_toArray, List.set_cons_zero, List.set_cons_succ])
    exact exec_load_row 33 _ rfl rfl (hE.blk HGK.out) Tryd.underlying33 rfl (by kernel_rfl)
  (try simp only [Act.put, List.setIfInBounds_toArray, List.set_cons_zero, List.set_cons_succ])
  (refine seqr_call0 (v := ?_) (f := ?_) (args := ?_) (by rfl) (fun ρ => by rfl) (fun ρ w => ?_) (fun w hE => ?_) ?_; rotate_left 3; (· ((try simp only [fill, Act.put, List.setIfInBounds_toArray, List.set_cons_zero, List.set_cons_succ]); go_simp; constructor <;> with_reducible rfl)); (· (with_reducible exact CallE.call (by assumption) hE)); (try simp only [Act.put, List.setIfInBounds_toArray, List.set_cons_zero, List.set_cons_succ]))
  refine seqr_pure (v := .agg f.cells) (by rfl) (fun ρ => by rfl) (fun ρ w hE hF => ?_) ?_
  · (try simp only [fill, Act.put, List.setIfInBounds_toArray, List.set_cons_zero, List.set_cons_succ])
    exact exec_load_row 33 _ rfl rfl (hE.blk HGN10.out) Tryd.underlying33 rfl (by kernel_rfl)
  (try simp only [Act.put, List.setIfInBounds_toArray, List.set_cons_zero, List.set_cons_succ])
  (refine seqr_call0 (v := ?_) (f := ?_) (args := ?_) (by rfl) (fun ρ => by rfl) (fun ρ w => ?_) (fun w hE => ?_) ?_; rotate_left 3; (· ((try simp only [fill, Act.put, List.setIfInBounds_toArray, List.set_cons_zero, List.set_cons_succ]); go_simp; constructor <;> with_reducible rfl)); (· (with_reducible exact CallE.call (by assumption) hE)); (try simp only [Act.put, List.setIfInBounds_toArray, List.set_cons_zero, List.set_cons_succ]))
  (refine seqr_pure (v := ?_) (by rfl) (fun ρ => by rfl) (fun ρ w hE hF => ?_) ?_; rotate_left 1; (· ((try simp only [fill, Act.put, List.setIfInBounds_toArray, List.set_cons_zero, List.set_cons_succ]); go_simp; try with_reducible rfl)); (try simp only [Act.put, List.setIfInBounds_toArray, List.set_cons_zero, List.set_cons_succ]))
  (refine seqr_pure (v := ?_) (by rfl) (fun ρ => by rfl) (fun ρ w hE hF => ?_) ?_; rotate_left 1; (· ((try simp only [fill, Act.put, List.setIfInBounds_toArray, List.set_cons_zero, List.set_cons_succ]); go_simp; try with_reducible rfl)); (try simp only [Act.put, List.setIfInBounds_toArray, List.set_cons_zero, List.set_cons_succ]))
  (refine seqr_pure (v := ?_) (by rfl) (fun ρ => by rfl) (fun ρ w hE hF => ?_) ?_; rotate_left 1; (· ((try simp only [fill, Act.put, List.setIfInBounds_toArray, List.set_cons_zero, List.set_cons_succ]); go_simp; try with_reducible rfl)); (try simp only [Act.put, List.setIfInBounds_toArray, List.set_cons_zero, List.set_cons_succ]))
  refine seqr_done (fun ρ wN hEN hFN => ?_); (try simp only [fill, Act.put, List.setIfInBounds_toArray, List.set_cons_zero, List.set_cons_succ]); refine (show K _ _ from hK.out _ _ ?_); clear hK K
  go_wp2_with fail
  go_ret
  exact ⟨rfl, (((HX3.out.trans HE5.out).trans HE7.out).trans HE10.out).trans hEN⟩
theorem walk (a : Option Addr) (len cap : Nat) (W : World) (hS : SeedIn W a len cap) (hE : EnvQ W) :
    Calls Tryd.prog 6 #[.slice a len cap] W fun e w' => e = .returned (.bool true) ∧ Below W.heap.size W w' := walk0 a len cap W hS hE
end Go.Proofs.YtdfgobnmcngkmaaDoor.shiftSeen
