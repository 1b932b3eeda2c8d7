/-
  TreeSames: walk. Conditions: the arguments' own.
-/
import Derived.Test.YtmbjomeiiihofaaDoorTreeV
namespace Go.Proofs.YtmbjomeiiihofaaDoor.treeSames
open Go.RowKit
set_option linter.unusedVariables false
set_option linter.unusedSimpArgs false

theorem apt_ne {D : List Tmp} {W w : World} {a : Act} (h : Apt D W a w) {d d' : Tmp} {g g' : Nat} (hd : d ∈ D) (hd' : d' ∈ D) (hne : d ≠ d') (hl : W.heap.size ≤ g) (h1 : rd a d = .pointer (some ⟨g, 0, none⟩)) (h2 : rd a d' = .pointer (some ⟨g', 0, none⟩)) : g ≠ g' := by
  rintro rfl; exact h.2 d hd d' hd' hne g hl h1 h2
def bin (op : Int) (t t' : Tr) : Tr := .mk (parS 7 op) [t, t']
theorem same_xy (t t' : Tr) : sameT (bin 1 t t') (bin 1 t t) = sameT t t' := by
  rw [Bool.eq_iff_iff, sameT_iff, sameT_iff]
  unfold bin
  simp only [Tr.mk.injEq, List.cons.injEq, and_true, true_and]
  exact eq_comm
theorem same_sub (t t' : Tr) : sameT (bin 1 t t') (bin 2 t t') = false := by
  rw [Bool.eq_false_iff]
  intro h
  have := (sameT_iff _ _).1 h
  simp [bin, parS] at this
theorem size_bin (t t' : Tr) : sizeT (bin 1 t t') = 1 + sizeT t + sizeT t' := by simp only [bin, sizeT, sizeL]; omega
theorem low_succ {b : Nat} (h : LowB b) : LowB (b + 1) := by obtain ⟨h1, h2, h3, h4, h5⟩ := h; exact ⟨by omega, by omega, by omega, by omega, by omega⟩
set_option maxRecDepth 100000 in
set_option maxHeartbeats 8000000 in
theorem walk0 (a : Option Addr) (len cap : Nat) (a' : Option Addr) (len' cap' : Nat) (W : World) (hS : SeedIn W a len cap) (hlen : len ≤ 140737488351232) (hS' : SeedIn W a' len' cap') (hlen' : len' ≤ 140737488351232) (hE : EnvQ W) :
    Calls Tryd.prog 5 #[.slice a len cap, .slice a' len' cap'] W fun e w' => e = .returned (.bool true) ∧ Ext W w' := by
  obtain ⟨W0, hW0, hE0, hG0, hL0, hS0⟩ := new_blk W #[.slice a len cap] 29
  obtain ⟨W1, hW1, hE1, hG1, hL1, hS1⟩ := new_blk W0 #[.slice a' len' cap'] 29
  rw [hS0] at hG1
  have HW0 := Lib.hid hW0
  have HW1 := Lib.hid hW1
  have HE1 := Lib.hid (hE0.trans hE1)
  have HG1 := Lib.hid (hE1.blk hG0)
  have HGS := Lib.hid hG1
  have HS := Lib.hid hS
  have HS' := Lib.hid hS'
  have HQ1 := Lib.hid (hE.ext (hE0.trans hE1))
  have HLow := Lib.hid hE.low
  clear hW0 hE0 hG0 hL0 hS0 hW1 hE1 hG1 hL1 hS1 hS hS' hE
  go_enter Tryd.func5, Tryd.ntmps5
  go_upto_region 1 with (fail)
  rw [HW0.out, HW1.out]
  clear HW0 HW1
  go_wp2_with fail
  refine (fit5 W1 HQ1.out).mono ?_
  rintro e w2 ⟨rfl, hE2⟩
  have HE2 := Lib.hid hE2
  have HG2 := Lib.hid (hE2.blk HG1.out)
  have HGS2 := Lib.hid (hE2.blk HGS.out)
  have c2 : w2.cell? ⟨W.heap.size, 0, none⟩ = some (.slice a len cap) := by rw [cell_of_row w2 W.heap.size 0 _ _ _ HG2.out]; rfl
  have c2' : w2.cell? ⟨W.heap.size + 1, 0, none⟩ = some (.slice a' len' cap') := by rw [cell_of_row w2 (W.heap.size + 1) 0 _ _ _ HGS2.out]; rfl
  clear hE2
  have hl1 : (len : Int) ≤ 140737488351232 := by omega
  have hl2 : (len' : Int) ≤ 140737488351232 := by omega
  have hl3 : (0 : Int) ≤ (len : Int) := by omega
  have hl4 : (0 : Int) ≤ (len' : Int) := by omega
  by_cases hz : 200 < len + len'
  · have hz' : (200 : Int) < (len : Int) + (len' : Int) := by omega
    go_wp2_with fail
    go_ret
    exact ⟨rfl, HE1.out.trans HE2.out⟩
  have hz' : (len : Int) + (len' : Int) ≤ 200 := by omega
  have HSA : Hid (SeedAt W.heap.size w2) := Lib.hid (HS.out.at_ (HE1.out.trans HE2.out) (Nat.le_refl _) (by omega) HG2.out)
  have HLen' : Hid (len' ≤ 1000) := Lib.hid (by omega)
  clear hz
  go_wp2_with fail
  refine (show Calls Tryd.prog _ #[.pointer (some ⟨W.heap.size, 0, none⟩), .int .i64 4] w2 _ from formula 4 (by decide) W.heap.size w2 HSA.out (HQ1.out.ext HE2.out) HLow.out (blk_lt HG2.out)).mono ?_
  rintro e w3 ⟨⟨f1, t1, rfl, hR1, hF1⟩, hX3, hS3⟩
  have HF1 := Lib.hid hF1
  have HR1 := Lib.hid hR1
  have HX3 : Hid (Ext W w3) := Lib.hid (hX3.ext (HE1.out.trans HE2.out) (Nat.le_refl _))
  have HQ3 : Hid (EnvQ w3) := Lib.hid ((HQ1.out.ext HE2.out).extX HLow.out hX3)
  have HGS3 := Lib.hid (hX3.blk HGS2.out (by omega))
  have HL23 := Lib.hid hX3.size
  clear hF1 hR1 hX3 hS3 c2 c2'
  unfold Fl.val
  go_wp2_with fail
  refine (show Calls Tryd.prog _ #[.pointer (some ⟨W.heap.size + 1, 0, none⟩), .int .i64 4] w3 _ from formula 4 (by decide) (W.heap.size + 1) w3 (HS'.out.at_ HX3.out (Nat.le_succ _) HLen'.out HGS3.out) HQ3.out (low_succ HLow.out) (blk_lt HGS3.out)).mono ?_
  rintro e w4 ⟨⟨f2, t2, rfl, hR2, hF2⟩, hX4, hS4⟩
  have HF2 := Lib.hid hF2
  have hlt2 : W.heap.size + 1 < w2.heap.size := blk_lt HGS2.out
  have HQ4 : Hid (EnvQ w4) := Lib.hid (HQ3.out.extX (low_succ HLow.out) hX4)
  have HX4 : Hid (Ext W w4) := Lib.hid (hX4.ext HX3.out (Nat.le_succ _))
  have HT1 : Hid (Rep w4 (fun _ => True) t1 f1) := Lib.hid ((HR1.out.keeps (hX4.keeps (by omega))).imp' (fun _ _ _ => trivial))
  have HT2 : Hid (Rep w4 (fun _ => True) t2 f2) := Lib.hid (hR2.imp' (fun _ _ _ => trivial))
  obtain ⟨W5, hW5, hE5, hG5, hL5, hS5⟩ := new_blk w4 f1.cells 38
  obtain ⟨W6, hW6, hE6, hG6, hL6, hS6⟩ := new_blk W5 f2.cells 38
  rw [hS5] at hG6
  have HW5 := Lib.hid hW5
  have HW6 := Lib.hid hW6
  have HE6 := Lib.hid (hE5.trans hE6)
  have HGA := Lib.hid (hE6.blk hG5)
  have HGB := Lib.hid hG6
  clear hF2 hR2 hX4 hS4 hlt2 hW5 hE5 hG5 hL5 hS5 hW6 hE6 hG6 hL6 hS6
  unfold Fl.val
  go_upto_region 6 with (first | ((with_reducible refine wpl_guard (isStore 38) ?_ ?_); (· rfl); refine wpl_store (t := ?_) (old := ?_) (w' := ?_) rfl 38 _ _ rfl rfl rfl ?_ ?_ ?_ ?_ ?_ ?_; rotate_left 2; (· (first | (with_reducible assumption) | (simp (disch := (first | omega | (simp only [World.size_alloc, World.size_setCell, World.size_drew, size_setRow]; done) | (simp only [World.size_alloc, World.size_setCell, World.size_drew, size_setRow]; omega))) only [hq_at, hq_past, hq_drew, hq_drewN, hq_cell, hq_row, hq_same, rowOf_cells, Option.map_some, *]; rfl) | (simp (disch := (first | omega | (simp only [World.size_alloc, World.size_setCell, World.size_drew, size_setRow]; done) | (simp only [World.size_alloc, World.size_setCell, World.size_drew, size_setRow]; omega))) only [hq_at, hq_past, hq_drew, hq_drewN, hq_cell, hq_row, hq_same, rowOf_cells, Option.map_some, *]))); (· kernel_rfl); (· rfl); (· rfl); rotate_left 1; (· (first | (simp (disch := (first | omega | (simp only [World.size_alloc, World.size_setCell, World.size_drew, size_setRow]; done) | (simp only [World.size_alloc, World.size_setCell, World.size_drew, size_setRow]; omega))) only [setRow_at, setRow_past, setRow_drew]; rfl) | rfl))))
  rw [HW5.out, HW6.out]
  clear HW5 HW6
  (try simp only [Act.put, List.setIfInBounds_toArray, List.set_cons_zero, List.set_cons_succ])
  have HB1 := Lib.hid (fun w => binary_row 1 f1 f2 w)
  have HB2 := Lib.hid (fun w => binary_row 1 f1 f1 w)
  refine region_own [7, 8] (by intro d hd; simp only [List.mem_cons, List.not_mem_nil, or_false] at hd; rcases hd with rfl | rfl <;> rfl) (by kernel_rfl) (by kernel_rfl) rfl (fun K hK => ?_)

  refine seqr_pure (v := .agg f1.cells) (by rfl) (fun ρ => by rfl) (fun ρ w hE hF => ?_) ?_
  · (try simp only [fill, Act.put, List.setIfInBounds_toArray, List.set_cons_zero, List.set_cons_succ])
    exact exec_load_row 38 _ rfl rfl (hE.blk HGA.out) Tryd.underlying38 rfl (by kernel_rfl)
  (try simp only [Act.put, List.setIfInBounds_toArray, List.set_cons_zero, List.set_cons_succ])
  refine seqr_pure (v := .agg f2.cells) (by rfl) (fun ρ => by rfl) (fun ρ w hE hF => ?_) ?_
  · (try simp only [fill, Act.put, List.setIfInBounds_toArray, List.set_cons_zero, List.set_cons_succ])
    exact exec_load_row 38 _ rfl rfl (hE.blk HGB.out) Tryd.underlying38 rfl (by kernel_rfl)
  (try simp only [Act.put, List.setIfInBounds_toArray, List.set_cons_zero, List.set_cons_succ])
  refine seqr_rel (BinV 1 f1 f2) (BinV.lasts _ _ _) rfl (by rfl) (fun ρ => by rfl) (fun ρ w hE hF => ?_) ?_
  · refine outcome_call (f := 19) (args := #[.int .i64 1, .agg f1.cells, .agg f2.cells]) ?_ (HB1.out w)
    (try simp only [fill, Act.put, List.setIfInBounds_toArray, List.set_cons_zero, List.set_cons_succ])
    go_simp
  (try simp only [Act.put, List.setIfInBounds_toArray, List.set_cons_zero, List.set_cons_succ])
  refine seqr_pure (v := .agg f1.cells) (by rfl) (fun ρ => by rfl) (fun ρ w hE hF => ?_) ?_
  · (try simp only [fill, Act.put, List.setIfInBounds_toArray, List.set_cons_zero, List.set_cons_succ])
    exact exec_load_row 38 _ rfl rfl (hE.blk HGA.out) Tryd.underlying38 rfl (by kernel_rfl)
  (try simp only [Act.put, List.setIfInBounds_toArray, List.set_cons_zero, List.set_cons_succ])
  refine seqr_pure (v := .agg f1.cells) (by rfl) (fun ρ => by rfl) (fun ρ w hE hF => ?_) ?_
  · (try simp only [fill, Act.put, List.setIfInBounds_toArray, List.set_cons_zero, List.set_cons_succ])
    exact exec_load_row 38 _ rfl rfl (hE.blk HGA.out) Tryd.underlying38 rfl (by kernel_rfl)
  (try simp only [Act.put, List.setIfInBounds_toArray, List.set_cons_zero, List.set_cons_succ])
  refine seqr_rel (BinV 1 f1 f1) (BinV.lasts _ _ _) rfl (by rfl) (fun ρ => by rfl) (fun ρ w hE hF => ?_) ?_
  · refine outcome_call (f := 19) (args := #[.int .i64 1, .agg f1.cells, .agg f1.cells]) ?_ (HB2.out w)
    (try simp only [fill, Act.put, List.setIfInBounds_toArray, List.set_cons_zero, List.set_cons_succ])
    go_simp
  (try simp only [Act.put, List.setIfInBounds_toArray, List.set_cons_zero, List.set_cons_succ])
  (refine seqr_own 38 (#[.int .i64 0, .int .i64 0, .int .i64 0, .int .i64 0, .string ⟨#[]⟩, .int .i64 0, .int .i64 0, .int .i64 0, .bool false, .bool false, .int .i64 0, .int .i64 0, .int .i64 0, .bool false, .bool false, .string ⟨#[]⟩, .slice none 0 0]) rfl (by decide) (by rfl) (fun ρ => by rfl) (fun ρ w hE hF => ?_) ?_; (· ((try simp only [fill, Act.put, List.setIfInBounds_toArray, List.set_cons_zero, List.set_cons_succ]); go_simp; try rfl)); (try simp only [Act.put, List.setIfInBounds_toArray, List.set_cons_zero, List.set_cons_succ]))
  (refine seqr_own 38 (#[.int .i64 0, .int .i64 0, .int .i64 0, .int .i64 0, .string ⟨#[]⟩, .int .i64 0, .int .i64 0, .int .i64 0, .bool false, .bool false, .int .i64 0, .int .i64 0, .int .i64 0, .bool false, .bool false, .string ⟨#[]⟩, .slice none 0 0]) rfl (by decide) (by rfl) (fun ρ => by rfl) (fun ρ w hE hF => ?_) ?_; (· ((try simp only [fill, Act.put, List.setIfInBounds_toArray, List.set_cons_zero, List.set_cons_succ]); go_simp; try rfl)); (try simp only [Act.put, List.setIfInBounds_toArray, List.set_cons_zero, List.set_cons_succ]))
  refine seqr_tails (by kernel_rfl) (fun ρ wN hEN hFN hAN => ?_); (try simp only [fill, Act.put, List.setIfInBounds_toArray, List.set_cons_zero, List.set_cons_succ])
  obtain ⟨gx, capx, hx1, hx2⟩ := hFN _ (.tail _ (.tail _ (.tail _ (.head _))))
  obtain ⟨gy, capy, hy1, hy2⟩ := hFN _ (.tail _ (.tail _ (.head _)))
  obtain ⟨g7, hp7, hl7, hb7⟩ := hFN _ (.tail _ (.head _))
  obtain ⟨g8, hp8, hl8, hb8⟩ := hFN _ (.head _)
  simp only at hp7 hp8 hx1 hy1
  have hne : g7 ≠ g8 := apt_ne hAN (d := 7) (d' := 8) (by simp) (by simp) (by decide) hl7 hp7 hp8
  have hne' := hne.symm
  have nx7 := row_ne hx2 hb7 rfl
  have nx8 := row_ne hx2 hb8 rfl
  have ny7 := row_ne hy2 hb7 rfl
  have ny8 := row_ne hy2 hb8 rfl
  rw [hp7, hp8, hx1, hy1]
  clear hp7 hp8 hx1 hy1 hFN hAN
  obtain ⟨fx, hfx⟩ : ∃ f, (parS 7 1).fl (some ⟨gx, 0, none⟩) 2 capx = f := ⟨_, rfl⟩
  obtain ⟨fy, hfy⟩ : ∃ f, (parS 7 1).fl (some ⟨gy, 0, none⟩) 2 capy = f := ⟨_, rfl⟩
  rw [hfx, hfy]
  go_wp2_with ((with_reducible refine wpl_guard (isStore 38) ?_ ?_); (· rfl); refine wpl_store (t := ?_) (old := ?_) (w' := ?_) rfl 38 _ _ rfl rfl rfl ?_ ?_ ?_ ?_ ?_ ?_; rotate_left 2; (· (first | (with_reducible assumption) | (simp (disch := (first | omega | (simp only [World.size_alloc, World.size_setCell, World.size_drew, size_setRow]; done) | (simp only [World.size_alloc, World.size_setCell, World.size_drew, size_setRow]; omega))) only [hq_at, hq_past, hq_drew, hq_drewN, hq_cell, hq_row, hq_same, rowOf_cells, Option.map_some, *]; rfl) | (simp (disch := (first | omega | (simp only [World.size_alloc, World.size_setCell, World.size_drew, size_setRow]; done) | (simp only [World.size_alloc, World.size_setCell, World.size_drew, size_setRow]; omega))) only [hq_at, hq_past, hq_drew, hq_drewN, hq_cell, hq_row, hq_same, rowOf_cells, Option.map_some, *]))); (· kernel_rfl); (· rfl); (· rfl); rotate_left 1; (· (first | (simp (disch := (first | omega | (simp only [World.size_alloc, World.size_setCell, World.size_drew, size_setRow]; done) | (simp only [World.size_alloc, World.size_setCell, World.size_drew, size_setRow]; omega))) only [setRow_at, setRow_past, setRow_drew]; rfl) | rfl)))
  refine (show K _ _ from hK.out _ _ ?_); clear hK K
  obtain ⟨V1, hV1, hE1, hG7⟩ := put_blk hEN hl7 hb7 fx.cells
  have h8 := put_off (cs := fx.cells) hne' hb8
  have hx3 := put_off (cs := fx.cells) nx7 hx2
  have hy3 := put_off (cs := fx.cells) ny7 hy2
  rw [hV1] at h8 hx3 hy3 ⊢
  obtain ⟨V2, hV2, hE2', hG8⟩ := put_blk hE1 hl8 h8 fy.cells
  have hG7' := put_off (cs := fy.cells) hne hG7
  have hx4 := put_off (cs := fy.cells) nx8 hx3
  have hy4 := put_off (cs := fy.cells) ny8 hy3
  rw [hV2] at hG7' hx4 hy4 ⊢
  have HE8 := Lib.hid hE2'
  have HT1' := Lib.hid (HT1.out.ext (HE6.out.trans hE2'))
  have HT2' := Lib.hid (HT2.out.ext (HE6.out.trans hE2'))
  have HTX : Hid (Rep V2 (fun _ => True) (bin 1 t1 t2) fx) := Lib.hid (by rw [← hfx]; exact rep2 (parS_ok _ _) trivial hx4 HT1'.out HT2'.out)
  have HTY : Hid (Rep V2 (fun _ => True) (bin 1 t1 t1) fy) := Lib.hid (by rw [← hfy]; exact rep2 (parS_ok _ _) trivial hy4 HT1'.out HT1'.out)
  have HGA8 := Lib.hid (hE2'.blk HGA.out)
  have HGB8 := Lib.hid (hE2'.blk HGB.out)
  have HG7 := Lib.hid hG7'
  have HG8 := Lib.hid hG8
  have HB3 := Lib.hid (fun w => binary_row 2 f1 f2 w)
  obtain ⟨q, hq⟩ : ∃ q, sameT t1 t2 = q := ⟨_, rfl⟩
  have hs1 := ft_size HF1.out
  have hs2 := ft_size HF2.out
  have e1 : CallE Tryd.prog V2 18 #[.agg fx.cells, .agg fy.cells] (.bool q) := fun w hE => by
    have h := same_v (w := w) (t := bin 1 t1 t2) (t' := bin 1 t1 t1) ⟨fx, rfl, HTX.out.ext hE⟩ ⟨fy, rfl, HTY.out.ext hE⟩
    rwa [same_xy, hq] at h
  have e2 : CallE Tryd.prog V2 18 #[.agg f1.cells, .agg f2.cells] (.bool q) := fun w hE => by
    have h := same_v (w := w) (t := t1) (t' := t2) ⟨f1, rfl, HT1'.out.ext hE⟩ ⟨f2, rfl, HT2'.out.ext hE⟩
    rwa [hq] at h
  have e3 : CallE Tryd.prog V2 18 #[.agg f2.cells, .agg f1.cells] (.bool q) := fun w hE => by
    have h := same_v (w := w) (t := t2) (t' := t1) ⟨f2, rfl, HT2'.out.ext hE⟩ ⟨f1, rfl, HT1'.out.ext hE⟩
    rwa [sameT_comm, hq] at h
  obtain ⟨z1, hz1⟩ : ∃ z, sizeT t1 = z := ⟨_, rfl⟩
  obtain ⟨z2, hz2⟩ : ∃ z, sizeT t2 = z := ⟨_, rfl⟩
  have e5 : CallE Tryd.prog V2 21 #[.agg f1.cells] (.int .i64 (z1 : Int)) := fun w hE => by
    rw [← hz1]; exact size_v (w := w) ⟨f1, rfl, HT1'.out.ext hE⟩ (by omega)
  have e6 : CallE Tryd.prog V2 21 #[.agg f2.cells] (.int .i64 (z2 : Int)) := fun w hE => by
    rw [← hz2]; exact size_v (w := w) ⟨f2, rfl, HT2'.out.ext hE⟩ (by omega)
  have e4 : CallE Tryd.prog V2 21 #[.agg fx.cells] (.int .i64 (1 + (z1 : Int) + (z2 : Int))) := fun w hE => by
    have h := size_v (w := w) (t := bin 1 t1 t2) ⟨fx, rfl, HTX.out.ext hE⟩ (by rw [size_bin]; omega)
    rwa [size_bin, hz1, hz2, show ((1 + z1 + z2 : Nat) : Int) = 1 + (z1 : Int) + (z2 : Int) by omega] at h
  rw [hz1] at hs1
  rw [hz2] at hs2
  have s1 : (z1 : Int) ≤ 100000 := by omega
  have s2 : (z2 : Int) ≤ 100000 := by omega
  have s3 : (0 : Int) ≤ (z1 : Int) := by omega
  have s4 : (0 : Int) ≤ (z2 : Int) := by omega
  have hrr := Ext.refl V2
  have HFIN : Hid ((1 + (z1 : Int) + (z2 : Int) == IntKind.i64.wrap (IntKind.i64.wrap (1 + (z1 : Int)) + (z2 : Int))) = true) := Lib.hid (by rw [IntWalk.i64_in (1 + (z1 : Int)) ⟨by omega, by omega⟩, IntWalk.i64_in (1 + (z1 : Int) + (z2 : Int)) ⟨by omega, by omega⟩]; simp)
  clear hne hne' nx7 nx8 ny7 ny8 hfx hfy hV1 hE1 hG7 h8 hx3 hy3 hV2 hE2' hG8 hG7' hx4 hy4 hq hz1 hz2 hs1 hs2 hl7 hl8 hb7 hb8 hx2 hy2 hEN
  go_wp2_with fail
  cases q
  case false =>
    refine region_any (by kernel_rfl) (by kernel_rfl) rfl (fun K hK => ?_)
    refine seqr_pure (v := .agg fx.cells) (by rfl) (fun ρ => by rfl) (fun ρ w hE hF => ?_) ?_
    · (try simp only [fill, Act.put, List.setIfInBounds_toArray, List.set_cons_zero, List.set_cons_succ])
      exact exec_load_row 38 _ rfl rfl (hE.blk HG7.out) Tryd.underlying38 rfl (by kernel_rfl)
    (try simp only [Act.put, List.setIfInBounds_toArray, List.set_cons_zero, List.set_cons_succ])
    refine seqr_pure (v := .agg fy.cells) (by rfl) (fun ρ => by rfl) (fun ρ w hE hF => ?_) ?_
    · (try simp only [fill, Act.put, List.setIfInBounds_toArray, List.set_cons_zero, List.set_cons_succ])
      exact exec_load_row 38 _ rfl rfl (hE.blk HG8.out) Tryd.underlying38 rfl (by kernel_rfl)
    (try simp only [Act.put, List.setIfInBounds_toArray, List.set_cons_zero, List.set_cons_succ])
    (refine seqr_call0 (v := ?_) (f := ?_) (args := ?_) (by rfl) (fun ρ => by rfl) (fun ρ w => ?_) (fun w hE => ?_) ?_; rotate_left 3; (· ((try simp only [fill, Act.put, List.setIfInBounds_toArray, List.set_cons_zero, List.set_cons_succ]); go_simp; constructor <;> with_reducible rfl)); (· (with_reducible exact CallE.call (by assumption) hE)); (try simp only [Act.put, List.setIfInBounds_toArray, List.set_cons_zero, List.set_cons_succ]))
    refine seqr_pure (v := .agg f1.cells) (by rfl) (fun ρ => by rfl) (fun ρ w hE hF => ?_) ?_
    · (try simp only [fill, Act.put, List.setIfInBounds_toArray, List.set_cons_zero, List.set_cons_succ])
      exact exec_load_row 38 _ rfl rfl (hE.blk HGA8.out) Tryd.underlying38 rfl (by kernel_rfl)
    (try simp only [Act.put, List.setIfInBounds_toArray, List.set_cons_zero, List.set_cons_succ])
    refine seqr_pure (v := .agg f2.cells) (by rfl) (fun ρ => by rfl) (fun ρ w hE hF => ?_) ?_
    · (try simp only [fill, Act.put, List.setIfInBounds_toArray, List.set_cons_zero, List.set_cons_succ])
      exact exec_load_row 38 _ rfl rfl (hE.blk HGB8.out) Tryd.underlying38 rfl (by kernel_rfl)
    (try simp only [Act.put, List.setIfInBounds_toArray, List.set_cons_zero, List.set_cons_succ])
    (refine seqr_call0 (v := ?_) (f := ?_) (args := ?_) (by rfl) (fun ρ => by rfl) (fun ρ w => ?_) (fun w hE => ?_) ?_; rotate_left 3; (· ((try simp only [fill, Act.put, List.setIfInBounds_toArray, List.set_cons_zero, List.set_cons_succ]); go_simp; constructor <;> with_reducible rfl)); (· (with_reducible exact CallE.call (by assumption) hE)); (try simp only [Act.put, List.setIfInBounds_toArray, List.set_cons_zero, List.set_cons_succ]))
    (refine seqr_pure (v := ?_) (by rfl) (fun ρ => by rfl) (fun ρ w hE hF => ?_) ?_; rotate_left 1; (· ((try simp only [fill, Act.put, List.setIfInBounds_toArray, List.set_cons_zero, List.set_cons_succ]); go_simp; try with_reducible rfl)); (try simp only [Act.put, List.setIfInBounds_toArray, List.set_cons_zero, List.set_cons_succ]))
    (refine seqr_pure (v := ?_) (by rfl) (fun ρ => by rfl) (fun ρ w hE hF => ?_) ?_; rotate_left 1; (· ((try simp only [fill, Act.put, List.setIfInBounds_toArray, List.set_cons_zero, List.set_cons_succ]); go_simp; try with_reducible rfl)); (try simp only [Act.put, List.setIfInBounds_toArray, List.set_cons_zero, List.set_cons_succ]))
    refine seqr_pure (v := .agg f1.cells) (by rfl) (fun ρ => by rfl) (fun ρ w hE hF => ?_) ?_
    · (try simp only [fill, Act.put, List.setIfInBounds_toArray, List.set_cons_zero, List.set_cons_succ])
      exact exec_load_row 38 _ rfl rfl (hE.blk HGA8.out) Tryd.underlying38 rfl (by kernel_rfl)
    (try simp only [Act.put, List.setIfInBounds_toArray, List.set_cons_zero, List.set_cons_succ])
    refine seqr_pure (v := .agg f2.cells) (by rfl) (fun ρ => by rfl) (fun ρ w hE hF => ?_) ?_
    · (try simp only [fill, Act.put, List.setIfInBounds_toArray, List.set_cons_zero, List.set_cons_succ])
      exact exec_load_row 38 _ rfl rfl (hE.blk HGB8.out) Tryd.underlying38 rfl (by kernel_rfl)
    (try simp only [Act.put, List.setIfInBounds_toArray, List.set_cons_zero, List.set_cons_succ])
    (refine seqr_call0 (v := ?_) (f := ?_) (args := ?_) (by rfl) (fun ρ => by rfl) (fun ρ w => ?_) (fun w hE => ?_) ?_; rotate_left 3; (· ((try simp only [fill, Act.put, List.setIfInBounds_toArray, List.set_cons_zero, List.set_cons_succ]); go_simp; constructor <;> with_reducible rfl)); (· (with_reducible exact CallE.call (by assumption) hE)); (try simp only [Act.put, List.setIfInBounds_toArray, List.set_cons_zero, List.set_cons_succ]))
    refine seqr_pure (v := .agg f2.cells) (by rfl) (fun ρ => by rfl) (fun ρ w hE hF => ?_) ?_
    · (try simp only [fill, Act.put, List.setIfInBounds_toArray, List.set_cons_zero, List.set_cons_succ])
      exact exec_load_row 38 _ rfl rfl (hE.blk HGB8.out) Tryd.underlying38 rfl (by kernel_rfl)
    (try simp only [Act.put, List.setIfInBounds_toArray, List.set_cons_zero, List.set_cons_succ])
    refine seqr_pure (v := .agg f1.cells) (by rfl) (fun ρ => by rfl) (fun ρ w hE hF => ?_) ?_
    · (try simp only [fill, Act.put, List.setIfInBounds_toArray, List.set_cons_zero, List.set_cons_succ])
      exact exec_load_row 38 _ rfl rfl (hE.blk HGA8.out) Tryd.underlying38 rfl (by kernel_rfl)
    (try simp only [Act.put, List.setIfInBounds_toArray, List.set_cons_zero, List.set_cons_succ])
    (refine seqr_call0 (v := ?_) (f := ?_) (args := ?_) (by rfl) (fun ρ => by rfl) (fun ρ w => ?_) (fun w hE => ?_) ?_; rotate_left 3; (· ((try simp only [fill, Act.put, List.setIfInBounds_toArray, List.set_cons_zero, List.set_cons_succ]); go_simp; constructor <;> with_reducible rfl)); (· (with_reducible exact CallE.call (by assumption) hE)); (try simp only [Act.put, List.setIfInBounds_toArray, List.set_cons_zero, List.set_cons_succ]))
    (refine seqr_pure (v := ?_) (by rfl) (fun ρ => by rfl) (fun ρ w hE hF => ?_) ?_; rotate_left 1; (· ((try simp only [fill, Act.put, List.setIfInBounds_toArray, List.set_cons_zero, List.set_cons_succ]); go_simp; try with_reducible rfl)); (try simp only [Act.put, List.setIfInBounds_toArray, List.set_cons_zero, List.set_cons_succ]))
    (refine seqr_pure (v := ?_) (by rfl) (fun ρ => by rfl) (fun ρ w hE hF => ?_) ?_; rotate_left 1; (· ((try simp only [fill, Act.put, List.setIfInBounds_toArray, List.set_cons_zero, List.set_cons_succ]); go_simp; try with_reducible rfl)); (try simp only [Act.put, List.setIfInBounds_toArray, List.set_cons_zero, List.set_cons_succ]))
    (refine seqr_pure (v := ?_) (by rfl) (fun ρ => by rfl) (fun ρ w hE hF => ?_) ?_; rotate_left 1; (· ((try simp only [fill, Act.put, List.setIfInBounds_toArray, List.set_cons_zero, List.set_cons_succ]); go_simp; try with_reducible rfl)); (try simp only [Act.put, List.setIfInBounds_toArray, List.set_cons_zero, List.set_cons_succ]))
    refine seqr_pure (v := .agg fx.cells) (by rfl) (fun ρ => by rfl) (fun ρ w hE hF => ?_) ?_
    · (try simp only [fill, Act.put, List.setIfInBounds_toArray, List.set_cons_zero, List.set_cons_succ])
      exact exec_load_row 38 _ rfl rfl (hE.blk HG7.out) Tryd.underlying38 rfl (by kernel_rfl)
    (try simp only [Act.put, List.setIfInBounds_toArray, List.set_cons_zero, List.set_cons_succ])
    refine seqr_pure (v := .agg f1.cells) (by rfl) (fun ρ => by rfl) (fun ρ w hE hF => ?_) ?_
    · (try simp only [fill, Act.put, List.setIfInBounds_toArray, List.set_cons_zero, List.set_cons_succ])
      exact exec_load_row 38 _ rfl rfl (hE.blk HGA8.out) Tryd.underlying38 rfl (by kernel_rfl)
    (try simp only [Act.put, List.setIfInBounds_toArray, List.set_cons_zero, List.set_cons_succ])
    refine seqr_pure (v := .agg f2.cells) (by rfl) (fun ρ => by rfl) (fun ρ w hE hF => ?_) ?_
    · (try simp only [fill, Act.put, List.setIfInBounds_toArray, List.set_cons_zero, List.set_cons_succ])
      exact exec_load_row 38 _ rfl rfl (hE.blk HGB8.out) Tryd.underlying38 rfl (by kernel_rfl)
    (try simp only [Act.put, List.setIfInBounds_toArray, List.set_cons_zero, List.set_cons_succ])
    refine seqr_rel (BinV 2 f1 f2) (BinV.lasts _ _ _) rfl (by rfl) (fun ρ => by rfl) (fun ρ w hE hF => ?_) ?_
    · refine outcome_call (f := 19) (args := #[.int .i64 2, .agg f1.cells, .agg f2.cells]) ?_ (HB3.out w)
      (try simp only [fill, Act.put, List.setIfInBounds_toArray, List.set_cons_zero, List.set_cons_succ])
      go_simp
    (try simp only [Act.put, List.setIfInBounds_toArray, List.set_cons_zero, List.set_cons_succ])
    (refine seqr_call (v := .bool false) (args := fun ρ => #[.agg fx.cells, ρ 45]) (by rfl) (fun ρ => by rfl) (fun ρ w => ?_) (fun ρ w hE hF => by have h := same_v (w := w) (t := bin 1 t1 t2) (t' := bin 2 t1 t2) ⟨fx, rfl, HTX.out.ext hE⟩ ((hF.get (.head _) (by rfl)).tree (HT1'.out.ext hE) (HT2'.out.ext hE)); rwa [same_sub] at h) ?_; (· ((try simp only [fill, Act.put, List.setIfInBounds_toArray, List.set_cons_zero, List.set_cons_succ]); go_simp)); (try simp only [Act.put, List.setIfInBounds_toArray, List.set_cons_zero, List.set_cons_succ]))
    (refine seqr_pure (v := ?_) (by rfl) (fun ρ => by rfl) (fun ρ w hE hF => ?_) ?_; rotate_left 1; (· ((try simp only [fill, Act.put, List.setIfInBounds_toArray, List.set_cons_zero, List.set_cons_succ]); go_simp; try with_reducible rfl)); (try simp only [Act.put, List.setIfInBounds_toArray, List.set_cons_zero, List.set_cons_succ]))
    (refine seqr_pure (v := ?_) (by rfl) (fun ρ => by rfl) (fun ρ w hE hF => ?_) ?_; rotate_left 1; (· ((try simp only [fill, Act.put, List.setIfInBounds_toArray, List.set_cons_zero, List.set_cons_succ]); go_simp; try with_reducible rfl)); (try simp only [Act.put, List.setIfInBounds_toArray, List.set_cons_zero, List.set_cons_succ]))
    (refine seqr_pure (v := ?_) (by rfl) (fun ρ => by rfl) (fun ρ w hE hF => ?_) ?_; rotate_left 1; (· ((try simp only [fill, Act.put, List.setIfInBounds_toArray, List.set_cons_zero, List.set_cons_succ]); go_simp; try with_reducible rfl)); (try simp only [Act.put, List.setIfInBounds_toArray, List.set_cons_zero, List.set_cons_succ]))
    refine seqr_pure (v := .agg f1.cells) (by rfl) (fun ρ => by rfl) (fun ρ w hE hF => ?_) ?_
    · (try simp only [fill, Act.put, List.setIfInBounds_toArray, List.set_cons_zero, List.set_cons_succ])
      exact exec_load_row 38 _ rfl rfl (hE.blk HGA8.out) Tryd.underlying38 rfl (by kernel_rfl)
    (try simp only [Act.put, List.setIfInBounds_toArray, List.set_cons_zero, List.set_cons_succ])
    refine seqr_pure (v := .agg f2.cells) (by rfl) (fun ρ => by rfl) (fun ρ w hE hF => ?_) ?_
    · (try simp only [fill, Act.put, List.setIfInBounds_toArray, List.set_cons_zero, List.set_cons_succ])
      exact exec_load_row 38 _ rfl rfl (hE.blk HGB8.out) Tryd.underlying38 rfl (by kernel_rfl)
    (try simp only [Act.put, List.setIfInBounds_toArray, List.set_cons_zero, List.set_cons_succ])
    refine seqr_rel (PairV f1 f2) (PairV.lasts _ _) rfl (by rfl) (fun ρ => by rfl) (fun ρ w hE hF => ?_) ?_
    · refine outcome_value ?_ (below_alloc1 w _) (⟨w.heap.size, rfl, hq_at _ _ rfl⟩)
      (try simp only [fill, Act.put, List.setIfInBounds_toArray, List.set_cons_zero, List.set_cons_succ])
      exact exec_bs 36 2 _ rfl (l := [(0, .agg f1.cells), (1, .agg f2.cells)]) rfl (bs2 f1 f2 w)
    (try simp only [Act.put, List.setIfInBounds_toArray, List.set_cons_zero, List.set_cons_succ])
    refine seqr_rel (TreeV (.mk (parS 8 1) [t1, t2])) (TreeV.lasts _) rfl (by rfl) (fun ρ => by rfl) (fun ρ w hE hF => ?_) ?_
    · refine outcome_call (f := 20) (args := #[.int .i64 1, ρ 52]) ?_ (apply_pair 1 (hF.get (.head _) (by rfl)) (HT1'.out.ext hE) (HT2'.out.ext hE))
      (try simp only [fill, Act.put, List.setIfInBounds_toArray, List.set_cons_zero, List.set_cons_succ])
      go_simp
    (try simp only [Act.put, List.setIfInBounds_toArray, List.set_cons_zero, List.set_cons_succ])
    refine seqr_pure (v := .agg f1.cells) (by rfl) (fun ρ => by rfl) (fun ρ w hE hF => ?_) ?_
    · (try simp only [fill, Act.put, List.setIfInBounds_toArray, List.set_cons_zero, List.set_cons_succ])
      exact exec_load_row 38 _ rfl rfl (hE.blk HGA8.out) Tryd.underlying38 rfl (by kernel_rfl)
    (try simp only [Act.put, List.setIfInBounds_toArray, List.set_cons_zero, List.set_cons_succ])
    refine seqr_pure (v := .agg f2.cells) (by rfl) (fun ρ => by rfl) (fun ρ w hE hF => ?_) ?_
    · (try simp only [fill, Act.put, List.setIfInBounds_toArray, List.set_cons_zero, List.set_cons_succ])
      exact exec_load_row 38 _ rfl rfl (hE.blk HGB8.out) Tryd.underlying38 rfl (by kernel_rfl)
    (try simp only [Act.put, List.setIfInBounds_toArray, List.set_cons_zero, List.set_cons_succ])
    refine seqr_rel (PairV f1 f2) (PairV.lasts _ _) rfl (by rfl) (fun ρ => by rfl) (fun ρ w hE hF => ?_) ?_
    · refine outcome_value ?_ (below_alloc1 w _) (⟨w.heap.size, rfl, hq_at _ _ rfl⟩)
      (try simp only [fill, Act.put, List.setIfInBounds_toArray, List.set_cons_zero, List.set_cons_succ])
      exact exec_bs 36 2 _ rfl (l := [(0, .agg f1.cells), (1, .agg f2.cells)]) rfl (bs2 f1 f2 w)
    (try simp only [Act.put, List.setIfInBounds_toArray, List.set_cons_zero, List.set_cons_succ])
    refine seqr_rel (TreeV (.mk (parS 8 1) [t1, t2])) (TreeV.lasts _) rfl (by rfl) (fun ρ => by rfl) (fun ρ w hE hF => ?_) ?_
    · refine outcome_call (f := 20) (args := #[.int .i64 1, ρ 56]) ?_ (apply_pair 1 (hF.get (.head _) (by rfl)) (HT1'.out.ext hE) (HT2'.out.ext hE))
      (try simp only [fill, Act.put, List.setIfInBounds_toArray, List.set_cons_zero, List.set_cons_succ])
      go_simp
    (try simp only [Act.put, List.setIfInBounds_toArray, List.set_cons_zero, List.set_cons_succ])
    (refine seqr_call (v := .bool true) (args := fun ρ => #[ρ 53, ρ 57]) (by rfl) (fun ρ => by rfl) (fun ρ w => ?_) (fun ρ w hE hF => by have h := same_v (w := w) (hF.get (.tail _ (.tail _ (.head _))) (by rfl)) (hF.get (.head _) (by rfl)); rwa [sameT_self] at h) ?_; (· ((try simp only [fill, Act.put, List.setIfInBounds_toArray, List.set_cons_zero, List.set_cons_succ]); go_simp)); (try simp only [Act.put, List.setIfInBounds_toArray, List.set_cons_zero, List.set_cons_succ]))
    (refine seqr_pure (v := ?_) (by rfl) (fun ρ => by rfl) (fun ρ w hE hF => ?_) ?_; rotate_left 1; (· ((try simp only [fill, Act.put, List.setIfInBounds_toArray, List.set_cons_zero, List.set_cons_succ]); go_simp; try with_reducible rfl)); (try simp only [Act.put, List.setIfInBounds_toArray, List.set_cons_zero, List.set_cons_succ]))
    (refine seqr_pure (v := ?_) (by rfl) (fun ρ => by rfl) (fun ρ w hE hF => ?_) ?_; rotate_left 1; (· ((try simp only [fill, Act.put, List.setIfInBounds_toArray, List.set_cons_zero, List.set_cons_succ]); go_simp; try with_reducible rfl)); (try simp only [Act.put, List.setIfInBounds_toArray, List.set_cons_zero, List.set_cons_succ]))
    refine seqr_pure (v := .agg fx.cells) (by rfl) (fun ρ => by rfl) (fun ρ w hE hF => ?_) ?_
    · (try simp only [fill, Act.put, List.setIfInBounds_toArray, List.set_cons_zero, List.set_cons_succ])
      exact exec_load_row 38 _ rfl rfl (hE.blk HG7.out) Tryd.underlying38 rfl (by kernel_rfl)
    (try simp only [Act.put, List.setIfInBounds_toArray, List.set_cons_zero, List.set_cons_succ])
    (refine seqr_call0 (v := ?_) (f := ?_) (args := ?_) (by rfl) (fun ρ => by rfl) (fun ρ w => ?_) (fun w hE => ?_) ?_; rotate_left 3; (· ((try simp only [fill, Act.put, List.setIfInBounds_toArray, List.set_cons_zero, List.set_cons_succ]); go_simp; constructor <;> with_reducible rfl)); (· (with_reducible exact CallE.call (by assumption) hE)); (try simp only [Act.put, List.setIfInBounds_toArray, List.set_cons_zero, List.set_cons_succ]))
    refine seqr_pure (v := .agg f1.cells) (by rfl) (fun ρ => by rfl) (fun ρ w hE hF => ?_) ?_
    · (try simp only [fill, Act.put, List.setIfInBounds_toArray, List.set_cons_zero, List.set_cons_succ])
      exact exec_load_row 38 _ rfl rfl (hE.blk HGA8.out) Tryd.underlying38 rfl (by kernel_rfl)
    (try simp only [Act.put, List.setIfInBounds_toArray, List.set_cons_zero, List.set_cons_succ])
    (refine seqr_call0 (v := ?_) (f := ?_) (args := ?_) (by rfl) (fun ρ => by rfl) (fun ρ w => ?_) (fun w hE => ?_) ?_; rotate_left 3; (· ((try simp only [fill, Act.put, List.setIfInBounds_toArray, List.set_cons_zero, List.set_cons_succ]); go_simp; constructor <;> with_reducible rfl)); (· (with_reducible exact CallE.call (by assumption) hE)); (try simp only [Act.put, List.setIfInBounds_toArray, List.set_cons_zero, List.set_cons_succ]))
    (refine seqr_pure (v := ?_) (by rfl) (fun ρ => by rfl) (fun ρ w hE hF => ?_) ?_; rotate_left 1; (· ((try simp only [fill, Act.put, List.setIfInBounds_toArray, List.set_cons_zero, List.set_cons_succ]); go_simp; try with_reducible rfl)); (try simp only [Act.put, List.setIfInBounds_toArray, List.set_cons_zero, List.set_cons_succ]))
    refine seqr_pure (v := .agg f2.cells) (by rfl) (fun ρ => by rfl) (fun ρ w hE hF => ?_) ?_
    · (try simp only [fill, Act.put, List.setIfInBounds_toArray, List.set_cons_zero, List.set_cons_succ])
      exact exec_load_row 38 _ rfl rfl (hE.blk HGB8.out) Tryd.underlying38 rfl (by kernel_rfl)
    (try simp only [Act.put, List.setIfInBounds_toArray, List.set_cons_zero, List.set_cons_succ])
    (refine seqr_call0 (v := ?_) (f := ?_) (args := ?_) (by rfl) (fun ρ => by rfl) (fun ρ w => ?_) (fun w hE => ?_) ?_; rotate_left 3; (· ((try simp only [fill, Act.put, List.setIfInBounds_toArray, List.set_cons_zero, List.set_cons_succ]); go_simp; constructor <;> with_reducible rfl)); (· (with_reducible exact CallE.call (by assumption) hE)); (try simp only [Act.put, List.setIfInBounds_toArray, List.set_cons_zero, List.set_cons_succ]))
    (refine seqr_pure (v := ?_) (by rfl) (fun ρ => by rfl) (fun ρ w hE hF => ?_) ?_; rotate_left 1; (· ((try simp only [fill, Act.put, List.setIfInBounds_toArray, List.set_cons_zero, List.set_cons_succ]); go_simp; try with_reducible rfl)); (try simp only [Act.put, List.setIfInBounds_toArray, List.set_cons_zero, List.set_cons_succ]))
    (refine seqr_pure (v := ?_) (by rfl) (fun ρ => by rfl) (fun ρ w hE hF => ?_) ?_; rotate_left 1; (· ((try simp only [fill, Act.put, List.setIfInBounds_toArray, List.set_cons_zero, List.set_cons_succ]); go_simp; try with_reducible rfl)); (try simp only [Act.put, List.setIfInBounds_toArray, List.set_cons_zero, List.set_cons_succ]))
    (refine seqr_pure (v := ?_) (by rfl) (fun ρ => by rfl) (fun ρ w hE hF => ?_) ?_; rotate_left 1; (· ((try simp only [fill, Act.put, List.setIfInBounds_toArray, List.set_cons_zero, List.set_cons_succ]); go_simp; try with_reducible rfl)); (try simp only [Act.put, List.setIfInBounds_toArray, List.set_cons_zero, List.set_cons_succ]))
    (refine seqr_pure (v := ?_) (by rfl) (fun ρ => by rfl) (fun ρ w hE hF => ?_) ?_; rotate_left 1; (· ((try simp only [fill, Act.put, List.setIfInBounds_toArray, List.set_cons_zero, List.set_cons_succ]); go_simp; try with_reducible rfl)); (try simp only [Act.put, List.setIfInBounds_toArray, List.set_cons_zero, List.set_cons_succ]))
    refine seqr_done (fun ρ wN hEN hFN => ?_); (try simp only [fill, Act.put, List.setIfInBounds_toArray, List.set_cons_zero, List.set_cons_succ]); refine (show K _ _ from hK.out _ _ ?_); clear hK K
    go_wp2_with fail
    go_ret
    exact ⟨congrArg (fun b => Ending.returned (Value.bool b)) HFIN.out, (HX4.out.trans HE6.out).trans (HE8.out.trans hEN)⟩
  case true =>
    refine region_any (by kernel_rfl) (by kernel_rfl) rfl (fun K hK => ?_)
    refine seqr_pure (v := .agg fx.cells) (by rfl) (fun ρ => by rfl) (fun ρ w hE hF => ?_) ?_
    · (try simp only [fill, Act.put, List.setIfInBounds_toArray, List.set_cons_zero, List.set_cons_succ])
      exact exec_load_row 38 _ rfl rfl (hE.blk HG7.out) Tryd.underlying38 rfl (by kernel_rfl)
    (try simp only [Act.put, List.setIfInBounds_toArray, List.set_cons_zero, List.set_cons_succ])
    refine seqr_pure (v := .agg fy.cells) (by rfl) (fun ρ => by rfl) (fun ρ w hE hF => ?_) ?_
    · (try simp only [fill, Act.put, List.setIfInBounds_toArray, List.set_cons_zero, List.set_cons_succ])
      exact exec_load_row 38 _ rfl rfl (hE.blk HG8.out) Tryd.underlying38 rfl (by kernel_rfl)
    (try simp only [Act.put, List.setIfInBounds_toArray, List.set_cons_zero, List.set_cons_succ])
    (refine seqr_call0 (v := ?_) (f := ?_) (args := ?_) (by rfl) (fun ρ => by rfl) (fun ρ w => ?_) (fun w hE => ?_) ?_; rotate_left 3; (· ((try simp only [fill, Act.put, List.setIfInBounds_toArray, List.set_cons_zero, List.set_cons_succ]); go_simp; constructor <;> with_reducible rfl)); (· (with_reducible exact CallE.call (by assumption) hE)); (try simp only [Act.put, List.setIfInBounds_toArray, List.set_cons_zero, List.set_cons_succ]))
    refine seqr_pure (v := .agg f1.cells) (by rfl) (fun ρ => by rfl) (fun ρ w hE hF => ?_) ?_
    · (try simp only [fill, Act.put, List.setIfInBounds_toArray, List.set_cons_zero, List.set_cons_succ])
      exact exec_load_row 38 _ rfl rfl (hE.blk HGA8.out) Tryd.underlying38 rfl (by kernel_rfl)
    (try simp only [Act.put, List.setIfInBounds_toArray, List.set_cons_zero, List.set_cons_succ])
    refine seqr_pure (v := .agg f2.cells) (by rfl) (fun ρ => by rfl) (fun ρ w hE hF => ?_) ?_
    · (try simp only [fill, Act.put, List.setIfInBounds_toArray, List.set_cons_zero, List.set_cons_succ])
      exact exec_load_row 38 _ rfl rfl (hE.blk HGB8.out) Tryd.underlying38 rfl (by kernel_rfl)
    (try simp only [Act.put, List.setIfInBounds_toArray, List.set_cons_zero, List.set_cons_succ])
    (refine seqr_call0 (v := ?_) (f := ?_) (args := ?_) (by rfl) (fun ρ => by rfl) (fun ρ w => ?_) (fun w hE => ?_) ?_; rotate_left 3; (· ((try simp only [fill, Act.put, List.setIfInBounds_toArray, List.set_cons_zero, List.set_cons_succ]); go_simp; constructor <;> with_reducible rfl)); (· (with_reducible exact CallE.call (by assumption) hE)); (try simp only [Act.put, List.setIfInBounds_toArray, List.set_cons_zero, List.set_cons_succ]))
    (refine seqr_pure (v := ?_) (by rfl) (fun ρ => by rfl) (fun ρ w hE hF => ?_) ?_; rotate_left 1; (· ((try simp only [fill, Act.put, List.setIfInBounds_toArray, List.set_cons_zero, List.set_cons_succ]); go_simp; try with_reducible rfl)); (try simp only [Act.put, List.setIfInBounds_toArray, List.set_cons_zero, List.set_cons_succ]))
    (refine seqr_pure (v := ?_) (by rfl) (fun ρ => by rfl) (fun ρ w hE hF => ?_) ?_; rotate_left 1; (· ((try simp only [fill, Act.put, List.setIfInBounds_toArray, List.set_cons_zero, List.set_cons_succ]); go_simp; try with_reducible rfl)); (try simp only [Act.put, List.setIfInBounds_toArray, List.set_cons_zero, List.set_cons_succ]))
    refine seqr_pure (v := .agg f1.cells) (by rfl) (fun ρ => by rfl) (fun ρ w hE hF => ?_) ?_
    · (try simp only [fill, Act.put, List.setIfInBounds_toArray, List.set_cons_zero, List.set_cons_succ])
      exact exec_load_row 38 _ rfl rfl (hE.blk HGA8.out) Tryd.underlying38 rfl (by kernel_rfl)
    (try simp only [Act.put, List.setIfInBounds_toArray, List.set_cons_zero, List.set_cons_succ])
    refine seqr_pure (v := .agg f2.cells) (by rfl) (fun ρ => by rfl) (fun ρ w hE hF => ?_) ?_
    · (try simp only [fill, Act.put, List.setIfInBounds_toArray, List.set_cons_zero, List.set_cons_succ])
      exact exec_load_row 38 _ rfl rfl (hE.blk HGB8.out) Tryd.underlying38 rfl (by kernel_rfl)
    (try simp only [Act.put, List.setIfInBounds_toArray, List.set_cons_zero, List.set_cons_succ])
    (refine seqr_call0 (v := ?_) (f := ?_) (args := ?_) (by rfl) (fun ρ => by rfl) (fun ρ w => ?_) (fun w hE => ?_) ?_; rotate_left 3; (· ((try simp only [fill, Act.put, List.setIfInBounds_toArray, List.set_cons_zero, List.set_cons_succ]); go_simp; constructor <;> with_reducible rfl)); (· (with_reducible exact CallE.call (by assumption) hE)); (try simp only [Act.put, List.setIfInBounds_toArray, List.set_cons_zero, List.set_cons_succ]))
    refine seqr_pure (v := .agg f2.cells) (by rfl) (fun ρ => by rfl) (fun ρ w hE hF => ?_) ?_
    · (try simp only [fill, Act.put, List.setIfInBounds_toArray, List.set_cons_zero, List.set_cons_succ])
      exact exec_load_row 38 _ rfl rfl (hE.blk HGB8.out) Tryd.underlying38 rfl (by kernel_rfl)
    (try simp only [Act.put, List.setIfInBounds_toArray, List.set_cons_zero, List.set_cons_succ])
    refine seqr_pure (v := .agg f1.cells) (by rfl) (fun ρ => by rfl) (fun ρ w hE hF => ?_) ?_
    · (try simp only [fill, Act.put, List.setIfInBounds_toArray, List.set_cons_zero, List.set_cons_succ])
      exact exec_load_row 38 _ rfl rfl (hE.blk HGA8.out) Tryd.underlying38 rfl (by kernel_rfl)
    (try simp only [Act.put, List.setIfInBounds_toArray, List.set_cons_zero, List.set_cons_succ])
    (refine seqr_call0 (v := ?_) (f := ?_) (args := ?_) (by rfl) (fun ρ => by rfl) (fun ρ w => ?_) (fun w hE => ?_) ?_; rotate_left 3; (· ((try simp only [fill, Act.put, List.setIfInBounds_toArray, List.set_cons_zero, List.set_cons_succ]); go_simp; constructor <;> with_reducible rfl)); (· (with_reducible exact CallE.call (by assumption) hE)); (try simp only [Act.put, List.setIfInBounds_toArray, List.set_cons_zero, List.set_cons_succ]))
    (refine seqr_pure (v := ?_) (by rfl) (fun ρ => by rfl) (fun ρ w hE hF => ?_) ?_; rotate_left 1; (· ((try simp only [fill, Act.put, List.setIfInBounds_toArray, List.set_cons_zero, List.set_cons_succ]); go_simp; try with_reducible rfl)); (try simp only [Act.put, List.setIfInBounds_toArray, List.set_cons_zero, List.set_cons_succ]))
    (refine seqr_pure (v := ?_) (by rfl) (fun ρ => by rfl) (fun ρ w hE hF => ?_) ?_; rotate_left 1; (· ((try simp only [fill, Act.put, List.setIfInBounds_toArray, List.set_cons_zero, List.set_cons_succ]); go_simp; try with_reducible rfl)); (try simp only [Act.put, List.setIfInBounds_toArray, List.set_cons_zero, List.set_cons_succ]))
    (refine seqr_pure (v := ?_) (by rfl) (fun ρ => by rfl) (fun ρ w hE hF => ?_) ?_; rotate_left 1; (· ((try simp only [fill, Act.put, List.setIfInBounds_toArray, List.set_cons_zero, List.set_cons_succ]); go_simp; try with_reducible rfl)); (try simp only [Act.put, List.setIfInBounds_toArray, List.set_cons_zero, List.set_cons_succ]))
    refine seqr_pure (v := .agg fx.cells) (by rfl) (fun ρ => by rfl) (fun ρ w hE hF => ?_) ?_
    · (try simp only [fill, Act.put, List.setIfInBounds_toArray, List.set_cons_zero, List.set_cons_succ])
      exact exec_load_row 38 _ rfl rfl (hE.blk HG7.out) Tryd.underlying38 rfl (by kernel_rfl)
    (try simp only [Act.put, List.setIfInBounds_toArray, List.set_cons_zero, List.set_cons_succ])
    refine seqr_pure (v := .agg f1.cells) (by rfl) (fun ρ => by rfl) (fun ρ w hE hF => ?_) ?_
    · (try simp only [fill, Act.put, List.setIfInBounds_toArray, List.set_cons_zero, List.set_cons_succ])
      exact exec_load_row 38 _ rfl rfl (hE.blk HGA8.out) Tryd.underlying38 rfl (by kernel_rfl)
    (try simp only [Act.put, List.setIfInBounds_toArray, List.set_cons_zero, List.set_cons_succ])
    refine seqr_pure (v := .agg f2.cells) (by rfl) (fun ρ => by rfl) (fun ρ w hE hF => ?_) ?_
    · (try simp only [fill, Act.put, List.setIfInBounds_toArray, List.set_cons_zero, List.set_cons_succ])
      exact exec_load_row 38 _ rfl rfl (hE.blk HGB8.out) Tryd.underlying38 rfl (by kernel_rfl)
    (try simp only [Act.put, List.setIfInBounds_toArray, List.set_cons_zero, List.set_cons_succ])
    refine seqr_rel (BinV 2 f1 f2) (BinV.lasts _ _ _) rfl (by rfl) (fun ρ => by rfl) (fun ρ w hE hF => ?_) ?_
    · refine outcome_call (f := 19) (args := #[.int .i64 2, .agg f1.cells, .agg f2.cells]) ?_ (HB3.out w)
      (try simp only [fill, Act.put, List.setIfInBounds_toArray, List.set_cons_zero, List.set_cons_succ])
      go_simp
    (try simp only [Act.put, List.setIfInBounds_toArray, List.set_cons_zero, List.set_cons_succ])
    (refine seqr_call (v := .bool false) (args := fun ρ => #[.agg fx.cells, ρ 45]) (by rfl) (fun ρ => by rfl) (fun ρ w => ?_) (fun ρ w hE hF => by have h := same_v (w := w) (t := bin 1 t1 t2) (t' := bin 2 t1 t2) ⟨fx, rfl, HTX.out.ext hE⟩ ((hF.get (.head _) (by rfl)).tree (HT1'.out.ext hE) (HT2'.out.ext hE)); rwa [same_sub] at h) ?_; (· ((try simp only [fill, Act.put, List.setIfInBounds_toArray, List.set_cons_zero, List.set_cons_succ]); go_simp)); (try simp only [Act.put, List.setIfInBounds_toArray, List.set_cons_zero, List.set_cons_succ]))
    (refine seqr_pure (v := ?_) (by rfl) (fun ρ => by rfl) (fun ρ w hE hF => ?_) ?_; rotate_left 1; (· ((try simp only [fill, Act.put, List.setIfInBounds_toArray, List.set_cons_zero, List.set_cons_succ]); go_simp; try with_reducible rfl)); (try simp only [Act.put, List.setIfInBounds_toArray, List.set_cons_zero, List.set_cons_succ]))
    (refine seqr_pure (v := ?_) (by rfl) (fun ρ => by rfl) (fun ρ w hE hF => ?_) ?_; rotate_left 1; (· ((try simp only [fill, Act.put, List.setIfInBounds_toArray, List.set_cons_zero, List.set_cons_succ]); go_simp; try with_reducible rfl)); (try simp only [Act.put, List.setIfInBounds_toArray, List.set_cons_zero, List.set_cons_succ]))
    (refine seqr_pure (v := ?_) (by rfl) (fun ρ => by rfl) (fun ρ w hE hF => ?_) ?_; rotate_left 1; (· ((try simp only [fill, Act.put, List.setIfInBounds_toArray, List.set_cons_zero, List.set_cons_succ]); go_simp; try with_reducible rfl)); (try simp only [Act.put, List.setIfInBounds_toArray, List.set_cons_zero, List.set_cons_succ]))
    refine seqr_pure (v := .agg f1.cells) (by rfl) (fun ρ => by rfl) (fun ρ w hE hF => ?_) ?_
    · (try simp only [fill, Act.put, List.setIfInBounds_toArray, List.set_cons_zero, List.set_cons_succ])
      exact exec_load_row 38 _ rfl rfl (hE.blk HGA8.out) Tryd.underlying38 rfl (by kernel_rfl)
    (try simp only [Act.put, List.setIfInBounds_toArray, List.set_cons_zero, List.set_cons_succ])
    refine seqr_pure (v := .agg f2.cells) (by rfl) (fun ρ => by rfl) (fun ρ w hE hF => ?_) ?_
    · (try simp only [fill, Act.put, List.setIfInBounds_toArray, List.set_cons_zero, List.set_cons_succ])
      exact exec_load_row 38 _ rfl rfl (hE.blk HGB8.out) Tryd.underlying38 rfl (by kernel_rfl)
    (try simp only [Act.put, List.setIfInBounds_toArray, List.set_cons_zero, List.set_cons_succ])
    refine seqr_rel (PairV f1 f2) (PairV.lasts _ _) rfl (by rfl) (fun ρ => by rfl) (fun ρ w hE hF => ?_) ?_
    · refine outcome_value ?_ (below_alloc1 w _) (⟨w.heap.size, rfl, hq_at _ _ rfl⟩)
      (try simp only [fill, Act.put, List.setIfInBounds_toArray, List.set_cons_zero, List.set_cons_succ])
      exact exec_bs 36 2 _ rfl (l := [(0, .agg f1.cells), (1, .agg f2.cells)]) rfl (bs2 f1 f2 w)
    (try simp only [Act.put, List.setIfInBounds_toArray, List.set_cons_zero, List.set_cons_succ])
    refine seqr_rel (TreeV (.mk (parS 8 1) [t1, t2])) (TreeV.lasts _) rfl (by rfl) (fun ρ => by rfl) (fun ρ w hE hF => ?_) ?_
    · refine outcome_call (f := 20) (args := #[.int .i64 1, ρ 52]) ?_ (apply_pair 1 (hF.get (.head _) (by rfl)) (HT1'.out.ext hE) (HT2'.out.ext hE))
      (try simp only [fill, Act.put, List.setIfInBounds_toArray, List.set_cons_zero, List.set_cons_succ])
      go_simp
    (try simp only [Act.put, List.setIfInBounds_toArray, List.set_cons_zero, List.set_cons_succ])
    refine seqr_pure (v := .agg f1.cells) (by rfl) (fun ρ => by rfl) (fun ρ w hE hF => ?_) ?_
    · (try simp only [fill, Act.put, List.setIfInBounds_toArray, List.set_cons_zero, List.set_cons_succ])
      exact exec_load_row 38 _ rfl rfl (hE.blk HGA8.out) Tryd.underlying38 rfl (by kernel_rfl)
    (try simp only [Act.put, List.setIfInBounds_toArray, List.set_cons_zero, List.set_cons_succ])
    refine seqr_pure (v := .agg f2.cells) (by rfl) (fun ρ => by rfl) (fun ρ w hE hF => ?_) ?_
    · (try simp only [fill, Act.put, List.setIfInBounds_toArray, List.set_cons_zero, List.set_cons_succ])
      exact exec_load_row 38 _ rfl rfl (hE.blk HGB8.out) Tryd.underlying38 rfl (by kernel_rfl)
    (try simp only [Act.put, List.setIfInBounds_toArray, List.set_cons_zero, List.set_cons_succ])
    refine seqr_rel (PairV f1 f2) (PairV.lasts _ _) rfl (by rfl) (fun ρ => by rfl) (fun ρ w hE hF => ?_) ?_
    · refine outcome_value ?_ (below_alloc1 w _) (⟨w.heap.size, rfl, hq_at _ _ rfl⟩)
      (try simp only [fill, Act.put, List.setIfInBounds_toArray, List.set_cons_zero, List.set_cons_succ])
      exact exec_bs 36 2 _ rfl (l := [(0, .agg f1.cells), (1, .agg f2.cells)]) rfl (bs2 f1 f2 w)
    (try simp only [Act.put, List.setIfInBounds_toArray, List.set_cons_zero, List.set_cons_succ])
    refine seqr_rel (TreeV (.mk (parS 8 1) [t1, t2])) (TreeV.lasts _) rfl (by rfl) (fun ρ => by rfl) (fun ρ w hE hF => ?_) ?_
    · refine outcome_call (f := 20) (args := #[.int .i64 1, ρ 56]) ?_ (apply_pair 1 (hF.get (.head _) (by rfl)) (HT1'.out.ext hE) (HT2'.out.ext hE))
      (try simp only [fill, Act.put, List.setIfInBounds_toArray, List.set_cons_zero, List.set_cons_succ])
      go_simp
    (try simp only [Act.put, List.setIfInBounds_toArray, List.set_cons_zero, List.set_cons_succ])
    (refine seqr_call (v := .bool true) (args := fun ρ => #[ρ 53, ρ 57]) (by rfl) (fun ρ => by rfl) (fun ρ w => ?_) (fun ρ w hE hF => by have h := same_v (w := w) (hF.get (.tail _ (.tail _ (.head _))) (by rfl)) (hF.get (.head _) (by rfl)); rwa [sameT_self] at h) ?_; (· ((try simp only [fill, Act.put, List.setIfInBounds_toArray, List.set_cons_zero, List.set_cons_succ]); go_simp)); (try simp only [Act.put, List.setIfInBounds_toArray, List.set_cons_zero, List.set_cons_succ]))
    (refine seqr_pure (v := ?_) (by rfl) (fun ρ => by rfl) (fun ρ w hE hF => ?_) ?_; rotate_left 1; (· ((try simp only [fill, Act.put, List.setIfInBounds_toArray, List.set_cons_zero, List.set_cons_succ]); go_simp; try with_reducible rfl)); (try simp only [Act.put, List.setIfInBounds_toArray, List.set_cons_zero, List.set_cons_succ]))
    (refine seqr_pure (v := ?_) (by rfl) (fun ρ => by rfl) (fun ρ w hE hF => ?_) ?_; rotate_left 1; (· ((try simp only [fill, Act.put, List.setIfInBounds_toArray, List.set_cons_zero, List.set_cons_succ]); go_simp; try with_reducible rfl)); (try simp only [Act.put, List.setIfInBounds_toArray, List.set_cons_zero, List.set_cons_succ]))
    refine seqr_pure (v := .agg fx.cells) (by rfl) (fun ρ => by rfl) (fun ρ w hE hF => ?_) ?_
    · (try simp only [fill, Act.put, List.setIfInBounds_toArray, List.set_cons_zero, List.set_cons_succ])
      exact exec_load_row 38 _ rfl rfl (hE.blk HG7.out) Tryd.underlying38 rfl (by kernel_rfl)
    (try simp only [Act.put, List.setIfInBounds_toArray, List.set_cons_zero, List.set_cons_succ])
    (refine seqr_call0 (v := ?_) (f := ?_) (args := ?_) (by rfl) (fun ρ => by rfl) (fun ρ w => ?_) (fun w hE => ?_) ?_; rotate_left 3; (· ((try simp only [fill, Act.put, List.setIfInBounds_toArray, List.set_cons_zero, List.set_cons_succ]); go_simp; constructor <;> with_reducible rfl)); (· (with_reducible exact CallE.call (by assumption) hE)); (try simp only [Act.put, List.setIfInBounds_toArray, List.set_cons_zero, List.set_cons_succ]))
    refine seqr_pure (v := .agg f1.cells) (by rfl) (fun ρ => by rfl) (fun ρ w hE hF => ?_) ?_
    · (try simp only [fill, Act.put, List.setIfInBounds_toArray, List.set_cons_zero, List.set_cons_succ])
      exact exec_load_row 38 _ rfl rfl (hE.blk HGA8.out) Tryd.underlying38 rfl (by kernel_rfl)
    (try simp only [Act.put, List.setIfInBounds_toArray, List.set_cons_zero, List.set_cons_succ])
    (refine seqr_call0 (v := ?_) (f := ?_) (args := ?_) (by rfl) (fun ρ => by rfl) (fun ρ w => ?_) (fun w hE => ?_) ?_; rotate_left 3; (· ((try simp only [fill, Act.put, List.setIfInBounds_toArray, List.set_cons_zero, List.set_cons_succ]); go_simp; constructor <;> with_reducible rfl)); (· (with_reducible exact CallE.call (by assumption) hE)); (try simp only [Act.put, List.setIfInBounds_toArray, List.set_cons_zero, List.set_cons_succ]))
    (refine seqr_pure (v := ?_) (by rfl) (fun ρ => by rfl) (fun ρ w hE hF => ?_) ?_; rotate_left 1; (· ((try simp only [fill, Act.put, List.setIfInBounds_toArray, List.set_cons_zero, List.set_cons_succ]); go_simp; try with_reducible rfl)); (try simp only [Act.put, List.setIfInBounds_toArray, List.set_cons_zero, List.set_cons_succ]))
    refine seqr_pure (v := .agg f2.cells) (by rfl) (fun ρ => by rfl) (fun ρ w hE hF => ?_) ?_
    · (try simp only [fill, Act.put, List.setIfInBounds_toArray, List.set_cons_zero, List.set_cons_succ])
      exact exec_load_row 38 _ rfl rfl (hE.blk HGB8.out) Tryd.underlying38 rfl (by kernel_rfl)
    (try simp only [Act.put, List.setIfInBounds_toArray, List.set_cons_zero, List.set_cons_succ])
    (refine seqr_call0 (v := ?_) (f := ?_) (args := ?_) (by rfl) (fun ρ => by rfl) (fun ρ w => ?_) (fun w hE => ?_) ?_; rotate_left 3; (· ((try simp only [fill, Act.put, List.setIfInBounds_toArray, List.set_cons_zero, List.set_cons_succ]); go_simp; constructor <;> with_reducible rfl)); (· (with_reducible exact CallE.call (by assumption) hE)); (try simp only [Act.put, List.setIfInBounds_toArray, List.set_cons_zero, List.set_cons_succ]))
    (refine seqr_pure (v := ?_) (by rfl) (fun ρ => by rfl) (fun ρ w hE hF => ?_) ?_; rotate_left 1; (· ((try simp only [fill, Act.put, List.setIfInBounds_toArray, List.set_cons_zero, List.set_cons_succ]); go_simp; try with_reducible rfl)); (try simp only [Act.put, List.setIfInBounds_toArray, List.set_cons_zero, List.set_cons_succ]))
    (refine seqr_pure (v := ?_) (by rfl) (fun ρ => by rfl) (fun ρ w hE hF => ?_) ?_; rotate_left 1; (· ((try simp only [fill, Act.put, List.setIfInBounds_toArray, List.set_cons_zero, List.set_cons_succ]); go_simp; try with_reducible rfl)); (try simp only [Act.put, List.setIfInBounds_toArray, List.set_cons_zero, List.set_cons_succ]))
    (refine seqr_pure (v := ?_) (by rfl) (fun ρ => by rfl) (fun ρ w hE hF => ?_) ?_; rotate_left 1; (· ((try simp only [fill, Act.put, List.setIfInBounds_toArray, List.set_cons_zero, List.set_cons_succ]); go_simp; try with_reducible rfl)); (try simp only [Act.put, List.setIfInBounds_toArray, List.set_cons_zero, List.set_cons_succ]))
    (refine seqr_pure (v := ?_) (by rfl) (fun ρ => by rfl) (fun ρ w hE hF => ?_) ?_; rotate_left 1; (· ((try simp only [fill, Act.put, List.setIfInBounds_toArray, List.set_cons_zero, List.set_cons_succ]); go_simp; try with_reducible rfl)); (try simp only [Act.put, List.setIfInBounds_toArray, List.set_cons_zero, List.set_cons_succ]))
    refine seqr_done (fun ρ wN hEN hFN => ?_); (try simp only [fill, Act.put, List.setIfInBounds_toArray, List.set_cons_zero, List.set_cons_succ]); refine (show K _ _ from hK.out _ _ ?_); clear hK K
    go_wp2_with fail
    go_ret
    exact ⟨congrArg (fun b => Ending.returned (Value.bool b)) HFIN.out, (HX4.out.trans HE6.out).trans (HE8.out.trans hEN)⟩
theorem walk (a : Option Addr) (len cap : Nat) (a' : Option Addr) (len' cap' : Nat) (W : World) (hS : SeedIn W a len cap) (hlen : len ≤ 140737488351232) (hS' : SeedIn W a' len' cap') (hlen' : len' ≤ 140737488351232) (hE : EnvQ W) :
    Calls Tryd.prog 5 #[.slice a len cap, .slice a' len' cap'] W fun e w' => e = .returned (.bool true) ∧ Below W.heap.size W w' := walk0 a len cap a' len' cap' W hS hlen hS' hlen' hE
end Go.Proofs.YtmbjomeiiihofaaDoor.treeSames