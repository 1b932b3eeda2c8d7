/-
  ShiftApart: walk. Conditions: the arguments' own.
-/
import Derived.Test.YtdfgobnmcngkmaaDoorShiftN
import Derived.Test.YtdfgobnmcngkmaaDoorShiftH
import Derived.Test.YtdfgobnmcngkmaaDoorTreeMT
namespace Go.Proofs.YtdfgobnmcngkmaaDoor.shiftApart
open Go.RowKit
set_option linter.unusedVariables false
set_option linter.unusedSimpArgs false


set_option maxRecDepth 100000 in
set_option maxHeartbeats 8000000 in
theorem walk0 (a : Option Addr) (len cap : Nat) (n : Int) (W : World) (hS : SeedIn W a len cap) (hn : -9223372036854775808 ≤ n ∧ n ≤ 9223372036854775807) (hE : tabOnly.EnvT W) :
    Calls Tryd.prog 3 #[.slice a len cap, .int .i64 n] W fun e w' => e = .returned (.bool true) ∧ Ext W w' := by
  obtain ⟨W1, hW1, hE1, hG1, hL1, hS1⟩ := new_blk W #[.slice a len cap] 23
  have HW1 := Lib.hid hW1
  have HE1 := Lib.hid hE1
  have HG1 := Lib.hid hG1
  have HS := Lib.hid hS
  have HQ1 := Lib.hid (hE.ext hE1)
  have HLow := Lib.hid hE.low
  clear hW1 hE1 hG1 hL1 hS1 hS hE
  have hbd := ed_bd n
  have HED := Lib.hid (fun w => edit_any n w)
  obtain ⟨es, hes⟩ : ∃ x, edS n = x := ⟨_, rfl⟩
  obtain ⟨ec, hec⟩ : ∃ x, edC n = x := ⟨_, rfl⟩
  obtain ⟨ed, hed⟩ : ∃ x, edD n = x := ⟨_, rfl⟩
  obtain ⟨ea, hea⟩ : ∃ x, edA n = x := ⟨_, rfl⟩
  rw [hes, hec, hed, hea] at HED
  rw [hes, hea] at hbd
  have HBD := Lib.hid hbd
  clear hbd hes hec hed hea hn
  go_enter Tryd.func3, Tryd.ntmps3
  go_upto_region 1 with (fail)
  rw [HW1.out]
  clear HW1
  go_wp2_with fail
  refine (fit_any W1).mono ?_
  rintro e w2 ⟨rfl, hE2⟩
  have HE2 := Lib.hid hE2
  have HG2 := Lib.hid (hE2.blk HG1.out)
  have c2 : w2.cell? ⟨W.heap.size, 0, none⟩ = some (.slice a len cap) := by rw [cell_of_row w2 W.heap.size 0 _ _ _ HG2.out]; rfl
  clear hE2
  by_cases hz : 200 < len
  · have hz' : (200 : Int) < (len : Int) := by omega
    go_wp2_with fail
    go_ret
    exact ⟨rfl, HE1.out.trans HE2.out⟩
  have hz' : (len : Int) ≤ 200 := by omega
  have HSA : Hid (SeedAt W.heap.size w2) := Lib.hid (HS.out.at_ (HE1.out.trans HE2.out) (Nat.le_refl _) (by omega) HG2.out)
  clear hz
  go_wp2_with fail
  refine (show Calls Tryd.prog _ #[.pointer (some ⟨W.heap.size, 0, none⟩), .int .i64 5] w2 _ from tabOnly.formula 5 (by decide) W.heap.size w2 HSA.out (HQ1.out.ext HE2.out) HLow.out (blk_lt HG2.out)).mono ?_
  rintro e w3 ⟨⟨f, t, rfl, hR3, hF3⟩, hX3, hS3⟩
  have HF3 := Lib.hid hF3
  have HX3 : Hid (Ext W w3) := Lib.hid (hX3.ext (HE1.out.trans HE2.out) (Nat.le_refl _))
  have HQ3 : Hid (tabOnly.EnvT w3) := Lib.hid ((HQ1.out.ext HE2.out).extX HLow.out hX3)
  have HL3 := Lib.hid hF3.leaves
  have HZ3 := Lib.hid (ft_size hF3)
  obtain ⟨W5, hW5, hE5, hG5, hL5, hS5⟩ := new_blk w3 f.cells 33
  have HW5 := Lib.hid hW5
  have HE5 := Lib.hid hE5
  have HGN := Lib.hid hG5
  have HT := Lib.hid (show Rep W5 (fun _ => True) t f from (hR3.imp' (fun _ _ _ => trivial)).ext hE5)
  have HQ5 := Lib.hid (HQ3.out.ext hE5)
  clear hX3 hS3 c2 hR3 hF3 hW5 hE5 hG5 hL5 hS5
  unfold Fl.val
  go_upto_region 6 with (first | ((with_reducible refine wpl_guard (isStore 33) ?_ ?_); (· rfl); refine wpl_store (t := ?_) (old := ?_) (w' := ?_) rfl 33 _ _ rfl rfl rfl ?_ ?_ ?_ ?_ ?_ ?_; rotate_left 2; (· (first | (with_reducible assumption) | (simp (disch := (first | omega | (simp only [World.size_alloc, World.size_setCell, World.size_drew, size_setRow]; done) | (simp only [World.size_alloc, World.size_setCell, World.size_drew, size_setRow]; omega))) only [hq_at, hq_past, hq_drew, hq_drewN, hq_cell, hq_row, hq_same, rowOf_cells, Option.map_some, *]; rfl) | (simp (disch := (first | omega | (simp only [World.size_alloc, World.size_setCell, World.size_drew, size_setRow]; done) | (simp only [World.size_alloc, World.size_setCell, World.size_drew, size_setRow]; omega))) only [hq_at, hq_past, hq_drew, hq_drewN, hq_cell, hq_row, hq_same, rowOf_cells, Option.map_some, *]))); (· kernel_rfl); (· rfl); (· rfl); rotate_left 1; (· (first | (simp (disch := (first | omega | (simp only [World.size_alloc, World.size_setCell, World.size_drew, size_setRow]; done) | (simp only [World.size_alloc, World.size_setCell, World.size_drew, size_setRow]; omega))) only [setRow_at, setRow_past, setRow_drew]; rfl) | rfl))))
  rw [HW5.out]
  clear HW5
  go_wp2_with fail
  refine (HED.out W5).mono ?_
  rintro e w6 ⟨rfl, hE6⟩
  obtain ⟨W7, hW7, hE7, hG7, hL7, hS7⟩ := new_blk w6 #[.int .i64 2, .bool ec, .bool ed, .int .i64 ea] 36
  have HW7 := Lib.hid hW7
  have HE7 := Lib.hid (hE6.trans hE7)
  have HGE := Lib.hid hG7
  have HGN7 := Lib.hid ((hE6.trans hE7).blk HGN.out)
  have HT7 := Lib.hid (HT.out.ext (hE6.trans hE7))
  have HMS := Lib.hid (map_self (G := GSeed) (tn := fun x => .mk (leafS 2 ec ed ea x) []) (fun s hs => by rw [leaf_apart hs]) HL3.out)
  clear hE6 hW7 hE7 hG7 hL7 hS7
  go_upto_region 8 with fail
  rw [HW7.out]
  clear HW7
  (try simp only [Act.put, List.setIfInBounds_toArray, List.set_cons_zero, List.set_cons_succ])
  refine region_any (by kernel_rfl) (by kernel_rfl) rfl (fun K hK => ?_)
  refine seqr_pure (v := .agg #[.int .i64 2, .bool ec, .bool ed, .int .i64 ea]) (by rfl) (fun ρ => by rfl) (fun ρ w hE hF => ?_) ?_
  · (try simp only [fill, Act.put, List.setIfInBounds_toArray, List.set_cons_zero, List.set_cons_succ])
    exact exec_load_row 36 _ rfl rfl (hE.blk HGE.out) Tryd.underlying36 rfl (by kernel_rfl)
  (try simp only [Act.put, List.setIfInBounds_toArray, List.set_cons_zero, List.set_cons_succ])
  refine seqr_pure (v := .agg f.cells) (by rfl) (fun ρ => by rfl) (fun ρ w hE hF => ?_) ?_
  · (try simp only [fill, Act.put, List.setIfInBounds_toArray, List.set_cons_zero, List.set_cons_succ])
    exact exec_load_row 33 _ rfl rfl (hE.blk HGN7.out) Tryd.underlying33 rfl (by kernel_rfl)
  (try simp only [Act.put, List.setIfInBounds_toArray, List.set_cons_zero, List.set_cons_succ])
  refine seqr_rel (TreeV t) (TreeV.lasts _) rfl (by rfl) (fun ρ => by rfl) (fun ρ w hE hF => ?_) ?_
  · refine outcome_call (f := 11) (args := #[edV 2 ec ed ea, .agg f.cells]) ?_ (by have h := formula8_v 2 ea ec ed (w := w) (t := t) ⟨f, rfl, HT7.out.ext hE⟩ (HL3.out.weak (fun _ h => seed_gl h)); rwa [HMS.out] at h)
    (try simp only [fill, Act.put, List.setIfInBounds_toArray, List.set_cons_zero, List.set_cons_succ])
    go_simp
  (try simp only [Act.put, List.setIfInBounds_toArray, List.set_cons_zero, List.set_cons_succ])
  refine seqr_pure (v := .agg f.cells) (by rfl) (fun ρ => by rfl) (fun ρ w hE hF => ?_) ?_
  · (try simp only [fill, Act.put, List.setIfInBounds_toArray, List.set_cons_zero, List.set_cons_succ])
    exact exec_load_row 33 _ rfl rfl (hE.blk HGN7.out) Tryd.underlying33 rfl (by kernel_rfl)
  (try simp only [Act.put, List.setIfInBounds_toArray, List.set_cons_zero, List.set_cons_succ])
  (refine seqr_call (v := .bool true) (args := fun ρ => #[ρ 18, .agg f.cells]) (by rfl) (fun ρ => by rfl) (fun ρ w => ?_) (fun ρ w hE hF => by have h := same_v (w := w) (hF.get (.head _) (by rfl)) (t' := t) ⟨f, rfl, HT7.out.ext hE⟩; rwa [sameT_self] at h) ?_; (· ((try simp only [fill, Act.put, List.setIfInBounds_toArray, List.set_cons_zero, List.set_cons_succ]); go_simp)); (try simp only [Act.put, List.setIfInBounds_toArray, List.set_cons_zero, List.set_cons_succ]))
  (refine seqr_pure (v := ?_) (by rfl) (fun ρ => by rfl) (fun ρ w hE hF => ?_) ?_; rotate_left 1; (· ((try simp only [fill, Act.put, List.setIfInBounds_toArray, List.set_cons_zero, List.set_cons_succ]); go_simp; try with_reducible rfl)); (try simp only [Act.put, List.setIfInBounds_toArray, List.set_cons_zero, List.set_cons_succ]))
  refine seqr_done (fun ρ wN hEN hFN => ?_); (try simp only [fill, Act.put, List.setIfInBounds_toArray, List.set_cons_zero, List.set_cons_succ]); refine (show K _ _ from hK.out _ _ ?_); clear hK K
  go_wp2_with fail
  go_ret
  exact ⟨rfl, ((HX3.out.trans HE5.out).trans HE7.out).trans hEN⟩
theorem walk (a : Option Addr) (len cap : Nat) (n : Int) (W : World) (hS : SeedIn W a len cap) (hn : (Lit.int .i64 n).wf = true) (hE : tabOnly.EnvT W) :
    Calls Tryd.prog 3 #[.slice a len cap, .int .i64 n] W fun e w' => e = .returned (.bool true) ∧ Below W.heap.size W w' := walk0 a len cap n W hS (bounds_i64 hn) hE
end Go.Proofs.YtdfgobnmcngkmaaDoor.shiftApart
