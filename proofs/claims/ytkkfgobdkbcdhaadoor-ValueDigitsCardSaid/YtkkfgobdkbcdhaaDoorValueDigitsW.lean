/-
  ValueDigits: walk. Conditions: the argument's own.
-/
import Derived.Test.YtkkfgobdkbcdhaaDoorComp
import Derived.Test.YtkkfgobdkbcdhaaDoorTurns
import Derived.Test.YtkkfgobdkbcdhaaDoorArgU
namespace Go.Proofs.YtkkfgobdkbcdhaaDoor.valueDigits
open Go.RowKit Num
set_option linter.unusedVariables false
set_option linter.unusedSimpArgs false

theorem text_of_num (n : Int) (h : -9223372036854775807 ≤ n ∧ n ≤ 9223372036854775807) : toText (.num n) = .text ⟨(txt n).toArray⟩ ∧ toNum (.text ⟨(txt n).toArray⟩) = .num n ∧ (RV.text ⟨(txt n).toArray⟩).ok := by
  obtain ⟨h1, h2⟩ := num_back n h
  refine ⟨h2, h1, ?_⟩
  have := textOf_ok ⟨(txt n).toArray⟩
  rw [h2] at this
  exact this
set_option maxHeartbeats 2000000 in
set_option maxRecDepth 100000 in
theorem walk0 (n : Int) (w : World) (ht : Tab w) (h : -9223372036854775807 ≤ n ∧ n ≤ 9223372036854775807) :
    Calls Tryd.prog 7 #[.int .i64 n] w fun e w' => e = .returned (.bool true) ∧ Ext w w' := by
  obtain ⟨h1, h2, h3⟩ := text_of_num n h
  have c1 := fun w (ht : Tab w) => totext_v (.num n) w h ht
  have c2 := fun w => tonum_v (.text ⟨(txt n).toArray⟩) w h3
  have c3 := fun w => compare_v (.num n) (.text ⟨(txt n).toArray⟩) w
  have c4 := fun w => compare_v (.num n) (.num n) w
  rw [h1] at c1
  rw [h2] at c2
  have h4 : cmpV (.num n) (.text ⟨(txt n).toArray⟩) = -1 := by
    unfold cmpV
    rw [likeR_of (by show (1 : Int) ≠ 0; decide), likeR_of (by show (2 : Int) ≠ 0; decide)]
    rfl
  have h5 : cmpV (.num n) (.num n) = 0 := by
    unfold cmpV
    rw [likeR_of (by show (1 : Int) ≠ 0; decide)]
    unfold cmpK
    rw [if_pos rfl, if_neg (by show ¬ (1 : Int) = 2; decide), if_neg (Int.lt_irrefl _), if_neg (Int.lt_irrefl _)]
  rw [h4] at c3
  rw [h5] at c4
  clear h1 h2 h3 h4 h5
  generalize (⟨(txt n).toArray⟩ : ByteArray) = s at *
  have hn : (n == -9223372036854775808) = false := by simp; omega
  have C1 : Hid (∀ w (ht : Tab w), Calls Tryd.prog 20 #[.agg #[.int .i64 1, .int .i64 n, .string ⟨#[]⟩]] w fun e w' => e = .returned (.agg #[.int .i64 2, .int .i64 0, .string s]) ∧ Ext w w') := Lib.hid c1
  have C2 : Hid (∀ w, Calls Tryd.prog 19 #[.agg #[.int .i64 2, .int .i64 0, .string s]] w fun e w' => e = .returned (.agg #[.int .i64 1, .int .i64 n, .string ⟨#[]⟩]) ∧ Ext w w') := Lib.hid c2
  have C3 : Hid (∀ w, Calls Tryd.prog 25 #[.agg #[.int .i64 1, .int .i64 n, .string ⟨#[]⟩], .agg #[.int .i64 2, .int .i64 0, .string s]] w fun e w' => e = .returned (.int .i64 (-1)) ∧ Ext w w') := Lib.hid c3
  have C4 : Hid (∀ w, Calls Tryd.prog 25 #[.agg #[.int .i64 1, .int .i64 n, .string ⟨#[]⟩], .agg #[.int .i64 1, .int .i64 n, .string ⟨#[]⟩]] w fun e w' => e = .returned (.int .i64 0) ∧ Ext w w') := Lib.hid c4
  have HT := Lib.hid ht
  clear c1 c2 c3 c4 ht h
  go_enter Tryd.func7, Tryd.ntmps7
  go_wp2_with fail
  refine (fit_v _ HT.out).mono ?_
  rintro e w1 ⟨rfl, hE1⟩
  go_wp2_with fail
  refine (num_v n _).mono ?_
  rintro e w2 ⟨rfl, hE2⟩
  obtain ⟨W3, hW3, hE3, hG3, hL3, -⟩ := new_blk w2 #[.int .i64 1, .int .i64 n, .string ⟨#[]⟩] 28
  have E03 := hE1.trans (hE2.trans hE3)
  have b3 := ext_blk hG3
  have l3 := ext_lt (blk_lt hG3)
  have HW3 := Lib.hid hW3
  have e1 : CallE Tryd.prog W3 20 #[.agg #[.int .i64 1, .int .i64 n, .string ⟨#[]⟩]] (.agg #[.int .i64 2, .int .i64 0, .string s]) := fun w' hE => C1.out w' (HT.out.ext (E03.trans hE))
  have hr := Ext.refl W3
  have HG3 := Lib.hid hG3
  have HE3 := Lib.hid E03
  clear hW3 hE1 hE2 hE3 hG3 hL3 E03
  unfold RV.val RV.k RV.n RV.s
  go_upto_region 6 with (fail)
  rw [HW3.out]
  clear HW3
  go_upto_region 7 with (first | ((with_reducible refine (CallE.at_ (by assumption) (by assumption)).mono ?_); rintro e w' ⟨rfl, hEx⟩))
  obtain ⟨W4, hW4, hE4, hG4, hL4, -⟩ := new_blk w' #[.int .i64 2, .int .i64 0, .string s] 28
  rw [hW4]
  have E34 := hEx.trans hE4
  have HEF := Lib.hid (HE3.out.trans E34)
  have b3 := ext_blk (E34.blk HG3.out)
  have l3 := ext_lt (blk_lt (E34.blk HG3.out))
  have b4 := ext_blk hG4
  have l4 := ext_lt (blk_lt hG4)
  have e2 : CallE Tryd.prog W4 19 _ _ := fun w' _ => C2.out w'
  have e3 : CallE Tryd.prog W4 25 _ _ := fun w' _ => C3.out w'
  have e4 : CallE Tryd.prog W4 25 _ _ := fun w' _ => C4.out w'
  have q1 := fun w => eql_value_self 1 n ⟨#[]⟩ w
  have hr := Ext.refl W4
  clear hW4 hE4 E34 hG4 hEx hL4 e1
  go_wp2_with fail
  refine region_any (by kernel_rfl) (by kernel_rfl) rfl (fun K hK => ?_)
  repeat (first | (refine seqr_skip (by rfl) (fun ρ => by rfl) ?_; (try simp only [Act.put, List.setIfInBounds_toArray, List.set_cons_zero, List.set_cons_succ])) | (refine seqr_pure (v := ?_) (by rfl) (fun ρ => by rfl) (fun ρ w hE hF => ?_) ?_; rotate_left 1; (· ((try simp only [fill, Act.put, List.setIfInBounds_toArray, List.set_cons_zero, List.set_cons_succ]); go_simp; try with_reducible rfl)); (try simp only [Act.put, List.setIfInBounds_toArray, List.set_cons_zero, List.set_cons_succ])) | (refine seqr_call0 (v := ?_) (f := ?_) (args := ?_) (by rfl) (fun ρ => by rfl) (fun ρ w => ?_) (fun w hE => ?_) ?_; rotate_left 3; (· ((try simp only [fill, Act.put, List.setIfInBounds_toArray, List.set_cons_zero, List.set_cons_succ]); go_simp; constructor <;> with_reducible rfl)); (· (with_reducible exact CallE.call (by assumption) hE)); (try simp only [Act.put, List.setIfInBounds_toArray, List.set_cons_zero, List.set_cons_succ])))
  refine seqr_done (fun ρ wN hEN hFN => ?_); (try simp only [fill, Act.put, List.setIfInBounds_toArray, List.set_cons_zero, List.set_cons_succ]); refine (show K _ _ from hK.out _ _ ?_); clear hK K
  go_wp2_with fail
  go_ret
  exact ⟨rfl, HEF.out.trans hEN⟩
theorem over1 (w : World) (ht : Tab w) :
    Calls Tryd.prog 7 #[.int .i64 (-9223372036854775808)] w fun e w' => e = .returned (.bool true) ∧ Ext w w' := by
  have HT := Lib.hid ht
  clear ht
  go_enter Tryd.func7, Tryd.ntmps7
  go_wp2_with fail
  refine (fit_v _ HT.out).mono ?_
  rintro e w1 ⟨rfl, hE1⟩
  go_wp2_with fail
  go_ret
  exact ⟨rfl, hE1⟩
theorem walk (n : Int) (w : World) (wn : (Lit.int .i64 n).wf = true) (ht : Tab w) :
    Calls Tryd.prog 7 #[.int .i64 n] w fun e w' => e = .returned (.bool true) ∧ Below w.heap.size w w' := by
  have hb := bounds_i64 wn
  by_cases h : n = -9223372036854775808
  · subst h; exact over1 w ht
  · exact walk0 n w ht ⟨by omega, by omega⟩
end Go.Proofs.YtkkfgobdkbcdhaaDoor.valueDigits
