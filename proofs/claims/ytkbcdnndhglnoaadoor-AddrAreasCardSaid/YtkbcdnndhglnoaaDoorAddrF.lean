/-
  addr: Order. Conditions: each theorem's own.
-/
import Derived.Test.YtkbcdnndhglnoaaDoorAddrC
import Derived.Test.YtkbcdnndhglnoaaDoorPut
import Derived.Test.YtkbcdnndhglnoaaDoorRegionS
import Derived.BigRegion
namespace Go.Proofs.YtkbcdnndhglnoaaDoor
open Go.RowKit
set_option linter.unusedVariables false
set_option linter.unusedSimpArgs false

def ordV (s c r s' c' r' : Int) : Value :=
  if s = s' then .tuple #[ceV s (min c c') (min r r'), ceV s (max c c') (max r r'), .bool true] else .tuple #[ceV s c r, ceV s' c' r', .bool false]
set_option maxHeartbeats 4000000 in
set_option maxRecDepth 100000 in
theorem order_any (s c r s' c' r' : Int) (w : World) :
    Calls Tryd.prog 16 #[ceV s c r, ceV s' c' r'] w fun e w' => e = .returned (ordV s c r s' c' r') ∧ Ext w w' := by
  obtain ⟨W1, hW1, hE1, hG1, hL1, hS1⟩ := new_blk w #[.int .i64 s, .int .i64 c, .int .i64 r] 23
  obtain ⟨W2, hW2, hE2, hG2, hL2, hS2⟩ := new_blk W1 #[.int .i64 s', .int .i64 c', .int .i64 r'] 23
  obtain ⟨W3, hW3, hE3, hG3, hL3, hS3⟩ := new_blk W2 #[.int .i64 0, .int .i64 0, .int .i64 0] 23
  obtain ⟨W4, hW4, hE4, hG4, hL4, hS4⟩ := new_blk W3 #[.int .i64 0, .int .i64 0, .int .i64 0] 23
  rw [hS1] at hG2
  rw [hS2, hS1] at hG3
  rw [hS3, hS2, hS1] at hG4
  have H1 := Lib.hid (hE2.blk hG1)
  have H2 := Lib.hid hG2
  have E24 := Lib.hid (hE3.trans hE4)
  have HE02 := Lib.hid (hE1.trans hE2)
  have hG1 := hE4.blk (hE3.blk (hE2.blk hG1))
  have hG2 := hE4.blk (hE3.blk hG2)
  have hG3 := hE4.blk hG3
  have E04 := hE1.trans (hE2.trans (hE3.trans hE4))
  have HW1 := Lib.hid hW1
  have HW2 := Lib.hid hW2
  have HW3 := Lib.hid hW3
  have HW4 := Lib.hid hW4
  clear hW1 hW2 hW3 hW4 hE1 hE2 hE3 hE4 hL1 hL2 hL3 hL4 hS3 hS4
  obtain ⟨g, hg⟩ : ∃ g, w.heap.size = g := ⟨_, rfl⟩
  rw [hg] at hG1 hG2 hG3 hG4 H1 H2
  have c10 := cell_of_row W4 g 0 _ _ _ hG1
  have c11 := cell_of_row W4 g 1 _ _ _ hG1
  have c12 := cell_of_row W4 g 2 _ _ _ hG1
  have c20 := cell_of_row W4 (g + 1) 0 _ _ _ hG2
  have c21 := cell_of_row W4 (g + 1) 1 _ _ _ hG2
  have c22 := cell_of_row W4 (g + 1) 2 _ _ _ hG2
  have c30 := cell_of_row W4 (g + 1 + 1) 0 _ _ _ hG3
  have z30 := frozen_of_row W4 (g + 1 + 1) 0 _ _ hG3
  have c31 := cell_of_row W4 (g + 1 + 1) 1 _ _ _ hG3
  have z31 := frozen_of_row W4 (g + 1 + 1) 1 _ _ hG3
  have c32 := cell_of_row W4 (g + 1 + 1) 2 _ _ _ hG3
  have z32 := frozen_of_row W4 (g + 1 + 1) 2 _ _ hG3
  have c40 := cell_of_row W4 (g + 1 + 1 + 1) 0 _ _ _ hG4
  have z40 := frozen_of_row W4 (g + 1 + 1 + 1) 0 _ _ hG4
  have c41 := cell_of_row W4 (g + 1 + 1 + 1) 1 _ _ _ hG4
  have z41 := frozen_of_row W4 (g + 1 + 1 + 1) 1 _ _ hG4
  have c42 := cell_of_row W4 (g + 1 + 1 + 1) 2 _ _ _ hG4
  have z42 := frozen_of_row W4 (g + 1 + 1 + 1) 2 _ _ hG4
  simp only [List.getElem?_toArray, List.getElem?_cons_zero, List.getElem?_cons_succ] at c10 c11 c12 c20 c21 c22 c30 c31 c32 c40 c41 c42
  have HG1 := Lib.hid hG1
  have HG2 := Lib.hid hG2
  have HG3 := Lib.hid hG3
  have HG4 := Lib.hid hG4
  have HE := Lib.hid E04
  have HG := Lib.hid hg
  have HG1L : Hid (W2.heap.size ≤ g + 1 + 1) := Lib.hid (by omega)
  have HG2L : Hid (W2.heap.size ≤ g + 1 + 1 + 1) := Lib.hid (by omega)
  clear hG1 hG2 hG3 hG4 E04 hg hS1 hS2
  by_cases h1 : s = s'
  · subst h1
    have q1 : (s != s) = false := by simp
    rw [show ordV s c r s c' r' = .tuple #[ceV s (min c c') (min r r'), ceV s (max c c') (max r r'), .bool true] from if_pos rfl]
    go_enter Tryd.func16, Tryd.ntmps16
    go_upto_region 1 with (fail)
    rw [HW1.out, HW2.out, HW3.out, HW4.out, HG.out]
    go_upto_region 3 with (fail)
    clear c30 c31 c32 c40 c41 c42 z30 z31 z32 z40 z41 z42
    have b1 := fun w (h : Ext W2 w) => ext_blk H1.out w h
    have b2 := fun w (h : Ext W2 w) => ext_blk H2.out w h
    have l1 := ext_lt (blk_lt H1.out)
    have l2 := ext_lt (blk_lt H2.out)
    refine region_store W2 [4, 5] [(5, BxOf W2.heap.size 23 #[.int .i64 0, .int .i64 0, .int .i64 0]), (4, BxOf W2.heap.size 23 #[.int .i64 0, .int .i64 0, .int .i64 0])] E24.out ?_ ?_ (by simp [tmps]) (by kernel_rfl) (by kernel_rfl) rfl (fun K hK => ?_)
    · have hl3 := blk_lt HG3.out
      have hl4 := blk_lt HG4.out
      refine ⟨fun d hd x hx => ?_, fun d hd d' hd' hne x hx hp hp' => ?_⟩
      · simp only [List.mem_cons, List.not_mem_nil, or_false] at hd
        rcases hd with rfl | rfl
        · cases hx; exact hl3
        · cases hx; exact hl4
      · simp only [List.mem_cons, List.not_mem_nil, or_false] at hd hd'
        rcases hd with rfl | rfl <;> rcases hd' with rfl | rfl
        · exact hne rfl
        · have e : Value.pointer (some ⟨g + 1 + 1, 0, none⟩) = Value.pointer (some ⟨g + 1 + 1 + 1, 0, none⟩) := Eq.trans hp hp'.symm
          injection e with e; injection e with e; injection e with e; omega
        · have e : Value.pointer (some ⟨g + 1 + 1 + 1, 0, none⟩) = Value.pointer (some ⟨g + 1 + 1, 0, none⟩) := Eq.trans hp hp'.symm
          injection e with e; injection e with e; injection e with e; omega
        · exact hne rfl
    · intro x hx
      simp only [List.mem_cons, List.not_mem_nil, or_false] at hx
      rcases hx with rfl | rfl
      · exact ⟨by simp, by simp, BxOf.lasts _ _ _, BxOf.off _ _ _ _, ⟨_, rfl, HG2L.out, HG4.out⟩⟩
      · exact ⟨by simp, by simp, BxOf.lasts _ _ _, BxOf.off _ _ _ _, ⟨_, rfl, HG1L.out, HG3.out⟩⟩
    repeat (first | (refine sequ_skip (by rfl) (fun ρ => by rfl) ?_; (try simp only [Act.put, List.setIfInBounds_toArray, List.set_cons_zero, List.set_cons_succ])) | (refine sequ_pure (v := ?_) (by rfl) (fun ρ => by rfl) (fun ρ w hE hF => ?_) ?_; rotate_left 1; (· ((try simp only [fill, Act.put, List.setIfInBounds_toArray, List.set_cons_zero, List.set_cons_succ]); go_simp; try with_reducible rfl)); (try simp only [Act.put, List.setIfInBounds_toArray, List.set_cons_zero, List.set_cons_succ])) | (refine sequ_call0 (v := ?_) (f := ?_) (args := ?_) (by rfl) (fun ρ => by rfl) (fun ρ w => ?_) (fun w hE => ?_) ?_; rotate_left 3; (· ((try simp only [fill, Act.put, List.setIfInBounds_toArray, List.set_cons_zero, List.set_cons_succ]); go_simp; constructor <;> with_reducible rfl)); (· (with_reducible exact CallE.call (by assumption) hE)); (try simp only [Act.put, List.setIfInBounds_toArray, List.set_cons_zero, List.set_cons_succ])))
    (refine sequ_store (cells := #[.int .i64 s, .int .i64 (min c c'), .int .i64 (min r r')]) rfl rfl rfl (by decide) (.tail _ (.head _)) 26 rfl (by kernel_rfl) (fun ρ => by (try simp only [fill, Act.put, List.setIfInBounds_toArray, List.set_cons_zero, List.set_cons_succ]); rfl) (by kernel_rfl) rfl rfl ?_; simp only [upd, Nat.reduceEqDiff, if_true, if_false])
    (refine sequ_store (cells := #[.int .i64 s, .int .i64 (max c c'), .int .i64 (max r r')]) rfl rfl rfl (by decide) (.head _) 27 rfl (by kernel_rfl) (fun ρ => by (try simp only [fill, Act.put, List.setIfInBounds_toArray, List.set_cons_zero, List.set_cons_succ]); rfl) (by kernel_rfl) rfl rfl ?_; simp only [upd, Nat.reduceEqDiff, if_true, if_false])
    repeat (first | (refine sequ_skip (by rfl) (fun ρ => by rfl) ?_; (try simp only [Act.put, List.setIfInBounds_toArray, List.set_cons_zero, List.set_cons_succ])) | (refine sequ_pure (v := ?_) (by rfl) (fun ρ => by rfl) (fun ρ w hE hF => ?_) ?_; rotate_left 1; (· ((try simp only [fill, Act.put, List.setIfInBounds_toArray, List.set_cons_zero, List.set_cons_succ]); go_simp; try with_reducible rfl)); (try simp only [Act.put, List.setIfInBounds_toArray, List.set_cons_zero, List.set_cons_succ])) | (refine sequ_call0 (v := ?_) (f := ?_) (args := ?_) (by rfl) (fun ρ => by rfl) (fun ρ w => ?_) (fun w hE => ?_) ?_; rotate_left 3; (· ((try simp only [fill, Act.put, List.setIfInBounds_toArray, List.set_cons_zero, List.set_cons_succ]); go_simp; constructor <;> with_reducible rfl)); (· (with_reducible exact CallE.call (by assumption) hE)); (try simp only [Act.put, List.setIfInBounds_toArray, List.set_cons_zero, List.set_cons_succ])))
    refine sequ_done (fun ρ wN hEN hFN => ?_); (try simp only [fill, Act.put, List.setIfInBounds_toArray, List.set_cons_zero, List.set_cons_succ]); refine (show K _ _ from hK.out _ _ ?_); clear hK K
    obtain ⟨g5, hp5, hl5, hb5⟩ := hFN _ (.head _)
    obtain ⟨g4, hp4, hl4, hb4⟩ := hFN _ (.tail _ (.head _))
    simp only at hp5 hp4
    rw [hp5, hp4]
    clear hp5 hp4 hFN
    go_wp2_with fail
    refine bodyPost_ret (v := .tuple #[ceV s (min c c') (min r r'), ceV s (max c c') (max r r'), .bool true]) ?_ rfl ⟨rfl, HE02.out.trans hEN⟩
    have d40 := cell_of_row wN g4 0 _ _ _ hb4
    have d41 := cell_of_row wN g4 1 _ _ _ hb4
    have d42 := cell_of_row wN g4 2 _ _ _ hb4
    have d50 := cell_of_row wN g5 0 _ _ _ hb5
    have d51 := cell_of_row wN g5 1 _ _ _ hb5
    have d52 := cell_of_row wN g5 2 _ _ _ hb5
    simp only [List.getElem?_toArray, List.getElem?_cons_zero, List.getElem?_cons_succ] at d40 d41 d42 d50 d51 d52
    simp [results, Tryd.results16, go_sem, d40, d41, d42, d50, d51, d52]
  · have q1 : (s != s') = true := by simpa using h1
    rw [show ordV s c r s' c' r' = .tuple #[ceV s c r, ceV s' c' r', .bool false] from if_neg h1]
    go_enter Tryd.func16, Tryd.ntmps16
    go_upto_region 1 with (fail)
    rw [HW1.out, HW2.out, HW3.out, HW4.out, HG.out]
    go_upto_region 2 with (fail)
    go_region
    all_goals go_wp2_with fail
    refine bodyPost_ret (v := .tuple #[ceV s c r, ceV s' c' r', .bool false]) ?_ rfl ⟨rfl, ?_⟩
    · simp [results, Tryd.results16, go_sem, c30, c31, c32, c40, c41, c42]
    · have HLL := HG.out
      have HEE := HE.out
      repeat (first | with_reducible assumption | (with_reducible refine ext_drew ?_) | (with_reducible refine ext_set ?_ (show w.heap.size ≤ _ by dsimp only; omega)))
end Go.Proofs.YtkbcdnndhglnoaaDoor
