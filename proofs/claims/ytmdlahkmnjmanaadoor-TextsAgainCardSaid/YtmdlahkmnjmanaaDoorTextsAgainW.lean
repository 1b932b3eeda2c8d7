/-
  TextsAgain: walk. Conditions: the arguments' own.
-/
import Derived.Test.YtmdlahkmnjmanaaDoorTextsH
namespace Go.Proofs.YtmdlahkmnjmanaaDoor.textsAgain
open Go.RowKit Num
set_option linter.unusedVariables false
set_option linter.unusedSimpArgs false

set_option maxHeartbeats 8000000 in
set_option maxRecDepth 100000 in
theorem walk0 (s : ByteArray) (w : World) (ht : Tab w) (hs : s.size ≤ 9223372036854775807) :
    Calls Tryd.prog 6 #[.string s] w fun e w' => e = .returned (.bool true) ∧ Ext w w' := by
  have HT := Lib.hid ht
  obtain ⟨t, htt⟩ : ∃ t : Nat, min s.size 64 = t := ⟨_, rfl⟩
  have h17 : min (s.size : Int) 64 = (t : Int) := by omega
  have hts : t ≤ s.size := by omega
  have HSS : Hid ((s.extract 0 t).size ≤ 64) := Lib.hid (by rw [ByteArray.size_extract]; omega)
  clear ht htt
  go_enter Tryd.func6, Tryd.ntmps6
  go_wp2_with fail
  refine (fit_t _ HT.out).mono ?_
  rintro e w1 ⟨rfl, hE1⟩
  go_upto_region 4 with (fail)
  generalize s.extract 0 t = S at *
  have hS := HSS.out
  clear h17 hts hs
  go_wp2_with fail
  obtain ⟨W2, hW2, hE2, hG2, hL2, -⟩ := new_blk w1 #[.string ⟨#[85, 80, 80, 69, 82]⟩, .string ⟨#[76, 79, 87, 69, 82]⟩, .string ⟨#[84, 82, 73, 77]⟩] 9
  rw [hW2]
  generalize w1.heap.size = g2 at *
  have HE2 := Lib.hid (hE1.trans hE2)
  have HG2 := Lib.hid hG2
  clear hW2 hE2 hG2 hL2 hE1
  go_loopw [4, 5, 16] (fun _ _ si wr => ∃ i : Nat, i ≤ 3 ∧ si = .int .i64 (i : Int) ∧ Ext W2 wr) (fun _ _ si _ => 3 - (intOf si).toNat)
  case atStart => exact ⟨0, by omega, rfl, Ext.refl _⟩
  case round =>
    obtain ⟨i, hi, rfl, hbw⟩ := hrel
    have b2 := ext_blk (hbw.blk HG2.out)
    have l2 := ext_lt (blk_lt (hbw.blk HG2.out))
    have hr := Ext.refl wr
    have hcs : i = 0 ∨ i = 1 ∨ i = 2 ∨ i = 3 := by omega
    rcases hcs with rfl | rfl | rfl | rfl
    · obtain ⟨R, hR⟩ : ∃ R, mapB upc S = R := ⟨_, rfl⟩
      have c1 := fun w => one_up S w hS
      have c2 := fun w => one_up R w (by rw [← hR]; rw [mapB_size]; exact hS)
      rw [show mapB upc R = R by rw [← hR]; exact mapB_mapB upc upc upc up_up S] at c2
      rw [hR] at c1
      have C1 := Lib.hid c1
      have C2 := Lib.hid c2
      clear c1 c2 hR
      go_wp2_with fail
      refine (C1.out _).mono ?_
      rintro e w3 ⟨rfl, hE3⟩
      obtain ⟨W4, hW4, hE4, hG4, hL4, -⟩ := new_blk w3 #[.int .i64 2, .int .i64 0, .string R] 24
      have HW4 := Lib.hid hW4
      have E24 := hbw.trans (hE3.trans hE4)
      have b4 := ext_blk hG4
      have l4 := ext_lt (blk_lt hG4)
      have e1 : CallE Tryd.prog W4 13 #[.string ⟨#[85, 80, 80, 69, 82]⟩, .string R] (.agg #[.int .i64 2, .int .i64 0, .string R]) := fun w _ => C2.out w
      have q1 := fun w => neq_value_self 2 0 R w
      have hr := Ext.refl W4
      clear hW4 hE3 hE4 hG4 hL4 b2 l2
      go_upto_region 8 with (fail)
      rw [HW4.out]
      clear HW4
      go_wp2_with fail
      refine region_any (by kernel_rfl) (by kernel_rfl) rfl (fun K hK => ?_)
      repeat (first | (refine seqr_skip (by rfl) (fun ρ => by rfl) ?_; (try simp only [Act.put, List.setIfInBounds_toArray, List.set_cons_zero, List.set_cons_succ])) | (refine seqr_pure (v := ?_) (by rfl) (fun ρ => by rfl) (fun ρ w hE hF => ?_) ?_; rotate_left 1; (· ((try simp only [fill, Act.put, List.setIfInBounds_toArray, List.set_cons_zero, List.set_cons_succ]); go_simp; try with_reducible rfl)); (try simp only [Act.put, List.setIfInBounds_toArray, List.set_cons_zero, List.set_cons_succ])) | (refine seqr_call0 (v := ?_) (f := ?_) (args := ?_) (by rfl) (fun ρ => by rfl) (fun ρ w => ?_) (fun w hE => ?_) ?_; rotate_left 3; (· ((try simp only [fill, Act.put, List.setIfInBounds_toArray, List.set_cons_zero, List.set_cons_succ]); go_simp; constructor <;> with_reducible rfl)); (· (with_reducible exact CallE.call (by assumption) hE)); (try simp only [Act.put, List.setIfInBounds_toArray, List.set_cons_zero, List.set_cons_succ])))
      refine seqr_done (fun ρ wN hEN hFN => ?_); (try simp only [fill, Act.put, List.setIfInBounds_toArray, List.set_cons_zero, List.set_cons_succ]); refine (show K _ _ from hK.out _ _ ?_); clear hK K
      go_wp2_with fail
      go_roundw
      case rel => exact ⟨1, by omega, by go_num, E24.trans hEN⟩
      case measure => simp [intOf]
    · obtain ⟨R, hR⟩ : ∃ R, mapB loc S = R := ⟨_, rfl⟩
      have c1 := fun w => one_low S w hS
      have c2 := fun w => one_low R w (by rw [← hR]; rw [mapB_size]; exact hS)
      rw [show mapB loc R = R by rw [← hR]; exact mapB_mapB loc loc loc lo_lo S] at c2
      rw [hR] at c1
      have C1 := Lib.hid c1
      have C2 := Lib.hid c2
      clear c1 c2 hR
      go_wp2_with fail
      refine (C1.out _).mono ?_
      rintro e w3 ⟨rfl, hE3⟩
      obtain ⟨W4, hW4, hE4, hG4, hL4, -⟩ := new_blk w3 #[.int .i64 2, .int .i64 0, .string R] 24
      have HW4 := Lib.hid hW4
      have E24 := hbw.trans (hE3.trans hE4)
      have b4 := ext_blk hG4
      have l4 := ext_lt (blk_lt hG4)
      have e1 : CallE Tryd.prog W4 13 #[.string ⟨#[76, 79, 87, 69, 82]⟩, .string R] (.agg #[.int .i64 2, .int .i64 0, .string R]) := fun w _ => C2.out w
      have q1 := fun w => neq_value_self 2 0 R w
      have hr := Ext.refl W4
      clear hW4 hE3 hE4 hG4 hL4 b2 l2
      go_upto_region 8 with (fail)
      rw [HW4.out]
      clear HW4
      go_wp2_with fail
      refine region_any (by kernel_rfl) (by kernel_rfl) rfl (fun K hK => ?_)
      repeat (first | (refine seqr_skip (by rfl) (fun ρ => by rfl) ?_; (try simp only [Act.put, List.setIfInBounds_toArray, List.set_cons_zero, List.set_cons_succ])) | (refine seqr_pure (v := ?_) (by rfl) (fun ρ => by rfl) (fun ρ w hE hF => ?_) ?_; rotate_left 1; (· ((try simp only [fill, Act.put, List.setIfInBounds_toArray, List.set_cons_zero, List.set_cons_succ]); go_simp; try with_reducible rfl)); (try simp only [Act.put, List.setIfInBounds_toArray, List.set_cons_zero, List.set_cons_succ])) | (refine seqr_call0 (v := ?_) (f := ?_) (args := ?_) (by rfl) (fun ρ => by rfl) (fun ρ w => ?_) (fun w hE => ?_) ?_; rotate_left 3; (· ((try simp only [fill, Act.put, List.setIfInBounds_toArray, List.set_cons_zero, List.set_cons_succ]); go_simp; constructor <;> with_reducible rfl)); (· (with_reducible exact CallE.call (by assumption) hE)); (try simp only [Act.put, List.setIfInBounds_toArray, List.set_cons_zero, List.set_cons_succ])))
      refine seqr_done (fun ρ wN hEN hFN => ?_); (try simp only [fill, Act.put, List.setIfInBounds_toArray, List.set_cons_zero, List.set_cons_succ]); refine (show K _ _ from hK.out _ _ ?_); clear hK K
      go_wp2_with fail
      go_roundw
      case rel => exact ⟨2, by omega, by go_num, E24.trans hEN⟩
      case measure => simp [intOf]
    · obtain ⟨R, hR⟩ : ∃ R, trimB S = R := ⟨_, rfl⟩
      have c1 := fun w => one_trim S w hS
      have c2 := fun w => one_trim R w (by rw [← hR]; exact Nat.le_trans (trimB_size S) hS)
      rw [show trimB R = R by rw [← hR]; exact trimB_again S] at c2
      rw [hR] at c1
      have C1 := Lib.hid c1
      have C2 := Lib.hid c2
      clear c1 c2 hR
      go_wp2_with fail
      refine (C1.out _).mono ?_
      rintro e w3 ⟨rfl, hE3⟩
      obtain ⟨W4, hW4, hE4, hG4, hL4, -⟩ := new_blk w3 #[.int .i64 2, .int .i64 0, .string R] 24
      have HW4 := Lib.hid hW4
      have E24 := hbw.trans (hE3.trans hE4)
      have b4 := ext_blk hG4
      have l4 := ext_lt (blk_lt hG4)
      have e1 : CallE Tryd.prog W4 13 #[.string ⟨#[84, 82, 73, 77]⟩, .string R] (.agg #[.int .i64 2, .int .i64 0, .string R]) := fun w _ => C2.out w
      have q1 := fun w => neq_value_self 2 0 R w
      have hr := Ext.refl W4
      clear hW4 hE3 hE4 hG4 hL4 b2 l2
      go_upto_region 8 with (fail)
      rw [HW4.out]
      clear HW4
      go_wp2_with fail
      refine region_any (by kernel_rfl) (by kernel_rfl) rfl (fun K hK => ?_)
      repeat (first | (refine seqr_skip (by rfl) (fun ρ => by rfl) ?_; (try simp only [Act.put, List.setIfInBounds_toArray, List.set_cons_zero, List.set_cons_succ])) | (refine seqr_pure (v := ?_) (by rfl) (fun ρ => by rfl) (fun ρ w hE hF => ?_) ?_; rotate_left 1; (· ((try simp only [fill, Act.put, List.setIfInBounds_toArray, List.set_cons_zero, List.set_cons_succ]); go_simp; try with_reducible rfl)); (try simp only [Act.put, List.setIfInBounds_toArray, List.set_cons_zero, List.set_cons_succ])) | (refine seqr_call0 (v := ?_) (f := ?_) (args := ?_) (by rfl) (fun ρ => by rfl) (fun ρ w => ?_) (fun w hE => ?_) ?_; rotate_left 3; (· ((try simp only [fill, Act.put, List.setIfInBounds_toArray, List.set_cons_zero, List.set_cons_succ]); go_simp; constructor <;> with_reducible rfl)); (· (with_reducible exact CallE.call (by assumption) hE)); (try simp only [Act.put, List.setIfInBounds_toArray, List.set_cons_zero, List.set_cons_succ])))
      refine seqr_done (fun ρ wN hEN hFN => ?_); (try simp only [fill, Act.put, List.setIfInBounds_toArray, List.set_cons_zero, List.set_cons_succ]); refine (show K _ _ from hK.out _ _ ?_); clear hK K
      go_wp2_with fail
      go_roundw
      case rel => exact ⟨3, by omega, by go_num, E24.trans hEN⟩
      case measure => simp [intOf]
    · have fd2 := vfield2
      have c1 := fun w => one_low S w hS
      have c2 := fun w => one_up (mapB loc S) w (by rw [mapB_size]; exact hS)
      have c3 := fun w => one_up S w hS
      have c4 := fun w => one_len (mapB upc S) w (by rw [mapB_size]; exact hS)
      have c5 := fun w => one_len S w hS
      rw [mapB_mapB upc loc upc up_lo S] at c2
      rw [runes_up S] at c4
      generalize mapB loc S = A at *
      generalize mapB upc S = B at *
      generalize (Lib.runeCount S : Int) * 1000000 = z at *
      have C1 := Lib.hid c1
      have C2 := Lib.hid c2
      have C3 := Lib.hid c3
      have C4 := Lib.hid c4
      have C5 := Lib.hid c5
      clear c1 c2 c3 c4 c5
      go_wp2_with fail
      refine (C1.out _).mono ?_
      rintro e w3 ⟨rfl, hE3⟩
      go_wp2_with fail
      refine (C2.out _).mono ?_
      rintro e w4 ⟨rfl, hE4⟩
      obtain ⟨W5, hW5, hE5, hG5, hL5, -⟩ := new_blk w4 #[.int .i64 2, .int .i64 0, .string B] 24
      have HW5 := Lib.hid hW5
      have HEF := Lib.hid (HE2.out.trans (hbw.trans (hE3.trans (hE4.trans hE5))))
      have b5 := ext_blk hG5
      have l5 := ext_lt (blk_lt hG5)
      have e3 : CallE Tryd.prog W5 13 #[.string ⟨#[85, 80, 80, 69, 82]⟩, .string S] (.agg #[.int .i64 2, .int .i64 0, .string B]) := fun w _ => C3.out w
      have e4 : CallE Tryd.prog W5 13 #[.string ⟨#[76, 69, 78]⟩, .string B] (.agg #[.int .i64 1, .int .i64 z, .string ⟨#[]⟩]) := fun w _ => C4.out w
      have e5 : CallE Tryd.prog W5 13 #[.string ⟨#[76, 69, 78]⟩, .string S] (.agg #[.int .i64 1, .int .i64 z, .string ⟨#[]⟩]) := fun w _ => C5.out w
      have q1 := fun w => eql_value_self 2 0 B w
      have q2 := fun w => eql_value_self 1 z ⟨#[]⟩ w
      have hr := Ext.refl W5
      clear hW5 hE3 hE4 hE5 hG5 hL5 b2 l2 hbw
      go_upto_region 12 with (fail)
      rw [HW5.out]
      clear HW5
      go_wp2_with fail
      refine region_any (by kernel_rfl) (by kernel_rfl) rfl (fun K hK => ?_)
      repeat (first | (refine seqr_skip (by rfl) (fun ρ => by rfl) ?_; (try simp only [Act.put, List.setIfInBounds_toArray, List.set_cons_zero, List.set_cons_succ])) | (refine seqr_pure (v := ?_) (by rfl) (fun ρ => by rfl) (fun ρ w hE hF => ?_) ?_; rotate_left 1; (· ((try simp only [fill, Act.put, List.setIfInBounds_toArray, List.set_cons_zero, List.set_cons_succ]); go_simp; try with_reducible rfl)); (try simp only [Act.put, List.setIfInBounds_toArray, List.set_cons_zero, List.set_cons_succ])) | (refine seqr_call0 (v := ?_) (f := ?_) (args := ?_) (by rfl) (fun ρ => by rfl) (fun ρ w => ?_) (fun w hE => ?_) ?_; rotate_left 3; (· ((try simp only [fill, Act.put, List.setIfInBounds_toArray, List.set_cons_zero, List.set_cons_succ]); go_simp; constructor <;> with_reducible rfl)); (· (with_reducible exact CallE.call (by assumption) hE)); (try simp only [Act.put, List.setIfInBounds_toArray, List.set_cons_zero, List.set_cons_succ])))
      refine seqr_done (fun ρ wN hEN hFN => ?_); (try simp only [fill, Act.put, List.setIfInBounds_toArray, List.set_cons_zero, List.set_cons_succ]); refine (show K _ _ from hK.out _ _ ?_); clear hK K
      go_wp2_with fail
      go_ret
      exact ⟨rfl, HEF.out.trans hEN⟩
theorem walk (s : ByteArray) (w : World) (ws : s.size ≤ 9223372036854775807) (ht : Tab w) :
    Calls Tryd.prog 6 #[.string s] w fun e w' => e = .returned (.bool true) ∧ Below w.heap.size w w' := walk0 s w ht ws
end Go.Proofs.YtmdlahkmnjmanaaDoor.textsAgain
