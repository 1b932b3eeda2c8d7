/-
  AddrOrder: walk. Conditions: the arguments' own.
-/
import Derived.Test.YtkbcdnndhglnoaaDoorAddrC
import Derived.Test.YtkbcdnndhglnoaaDoorArgC
import Derived.Laws.StructEq
namespace Go.Proofs.YtkbcdnndhglnoaaDoor.addrOrder
open Go.RowKit
set_option linter.unusedVariables false
set_option linter.unusedSimpArgs false

theorem less_facts (s c r s' c' r' : Int) : lessV s c r s c r = false ∧ (s == s' && (c == c' && r == r')) = (!lessV s c r s' c' r' && !lessV s' c' r' s c r) ∧ (lessV s c r s' c' r' && lessV s' c' r' s c r) = false ∧ (lessV s c r s' c' r' = false → s' ≤ s) := by
  unfold lessV
  refine ⟨by simp, ?_, ?_, ?_⟩
  · rw [Bool.eq_iff_iff]
    by_cases h1 : s = s'
    · subst h1
      by_cases h2 : r = r'
      · subst h2; simp; omega
      · have h2' : ¬ r' = r := fun e => h2 e.symm
        simp [h2, h2']; omega
    · have h1' : ¬ s' = s := fun e => h1 e.symm
      simp [h1, h1']; omega
  · rw [Bool.eq_false_iff]
    intro h
    rw [Bool.and_eq_true] at h
    by_cases h1 : s = s'
    · subst h1
      by_cases h2 : r = r'
      · subst h2; simp at h; omega
      · have h2' : ¬ r' = r := fun e => h2 e.symm
        simp [h2, h2'] at h; omega
    · have h1' : ¬ s' = s := fun e => h1 e.symm
      simp [h1, h1'] at h; omega
  · intro h
    by_cases h1 : s = s'
    · omega
    · rw [if_neg h1] at h; simp at h; omega
theorem less_trans (a b c a' b' c' a'' b'' c'' : Int) (h : lessV a b c a' b' c' = true) (h' : lessV a' b' c' a'' b'' c'' = true) : lessV a b c a'' b'' c'' = true := by
  unfold lessV at *
  by_cases h1 : a = a'
  · subst h1
    rw [if_pos rfl] at h
    by_cases h2 : a = a''
    · subst h2
      rw [if_pos rfl] at h' ⊢
      by_cases h3 : c = c'
      · subst h3
        rw [if_pos rfl] at h
        by_cases h4 : c = c''
        · subst h4; simp at *; omega
        · rw [if_neg h4] at h' ⊢; exact h'
      · rw [if_neg h3] at h
        by_cases h4 : c' = c''
        · subst h4; rw [if_neg h3]; exact h
        · rw [if_neg h4] at h'
          have : ¬ c = c'' := by simp at h h'; omega
          rw [if_neg this]; simp at *; omega
    · rw [if_neg h2] at h' ⊢; exact h'
  · rw [if_neg h1] at h
    by_cases h2 : a' = a''
    · subst h2; rw [if_neg h1]; exact h
    · rw [if_neg h2] at h'
      have : ¬ a = a'' := by simp at h h'; omega
      rw [if_neg this]; simp at *; omega
theorem eql_cell (s c r s' c' r' : Int) (w : World) : Sem.run Tryd.prog (binOp .eql 23 (ceV s c r) (ceV s' c' r')) w = .ok (.bool (s == s' && (c == c' && r == r'))) w := by
  by_cases h1 : s = s' <;> by_cases h2 : c = c' <;> by_cases h3 : r = r' <;> simp [go_sem, *]
set_option maxHeartbeats 8000000 in
set_option maxRecDepth 100000 in
theorem walk0 (s1 c1 r1 s2 c2 r2 s3 c3 r3 : Int) (w : World) (hm : MaxI w) :
    Calls Tryd.prog 3 #[ceV s1 c1 r1, ceV s2 c2 r2, ceV s3 c3 r3] w fun e w' => e = .returned (.bool true) ∧ Ext w w' := by
  obtain ⟨W1, hW1, hE1, hG1, hL1, hS1⟩ := new_blk w #[.int .i64 s1, .int .i64 c1, .int .i64 r1] 23
  obtain ⟨W2, hW2, hE2, hG2, hL2, hS2⟩ := new_blk W1 #[.int .i64 s2, .int .i64 c2, .int .i64 r2] 23
  obtain ⟨W3, hW3, hE3, hG3, hL3, hS3⟩ := new_blk W2 #[.int .i64 s3, .int .i64 c3, .int .i64 r3] 23
  rw [hS1] at hG2
  rw [hS2, hS1] at hG3
  have HW1 := Lib.hid hW1
  have HW2 := Lib.hid hW2
  have HW3 := Lib.hid hW3
  have E03 := hE1.trans (hE2.trans hE3)
  have HE3 := Lib.hid E03
  have HM := Lib.hid (hm.ext E03)
  have b1 := ext_blk (hE3.blk (hE2.blk hG1))
  have b2 := ext_blk (hE3.blk hG2)
  have b3 := ext_blk hG3
  have l1 := ext_lt (blk_lt (hE3.blk (hE2.blk hG1)))
  have l2 := ext_lt (blk_lt (hE3.blk hG2))
  have l3 := ext_lt (blk_lt hG3)
  have e0 : CallE Tryd.prog W3 9 #[] (.bool true) := fun w' hE => fit_a w' (HM.out.ext hE)
  have e1 : CallE Tryd.prog W3 _ _ _ := fun w' _ => lright_any s1 c1 r1 w'
  have e2 : CallE Tryd.prog W3 _ _ _ := fun w' _ => lright_any s2 c2 r2 w'
  have e3 : CallE Tryd.prog W3 _ _ _ := fun w' _ => lright_any s3 c3 r3 w'
  have e4 : CallE Tryd.prog W3 _ _ _ := fun w' _ => less_any s1 c1 r1 s2 c2 r2 w'
  have e5 : CallE Tryd.prog W3 _ _ _ := fun w' _ => less_any s2 c2 r2 s3 c3 r3 w'
  have e6 : CallE Tryd.prog W3 _ _ _ := fun w' _ => less_any s1 c1 r1 s3 c3 r3 w'
  have e7 : CallE Tryd.prog W3 _ _ _ := fun w' _ => less_any s2 c2 r2 s1 c1 r1 w'
  have e8 : CallE Tryd.prog W3 _ _ _ := fun w' _ => less_any s1 c1 r1 s1 c1 r1 w'
  obtain ⟨f1, f2, f3, f4⟩ := less_facts s1 c1 r1 s2 c2 r2
  have f5 := less_trans s1 c1 r1 s2 c2 r2 s3 c3 r3
  have q1 := fun w => eql_cell s1 c1 r1 s2 c2 r2 w
  rw [f1] at e8
  rw [f2] at q1
  generalize lessV s1 c1 r1 s2 c2 r2 = A at *
  generalize lessV s2 c2 r2 s3 c3 r3 = B at *
  generalize lessV s1 c1 r1 s3 c3 r3 = C at *
  generalize lessV s2 c2 r2 s1 c1 r1 = D at *
  generalize insV s1 c1 r1 = i1 at *
  generalize insV s2 c2 r2 = i2 at *
  generalize insV s3 c3 r3 = i3 at *
  have F3 := Lib.hid f3
  have F4 := Lib.hid f4
  have F5 := Lib.hid f5
  have hr := Ext.refl W3
  clear f1 f2 f3 f4 f5 hW1 hW2 hW3 hE1 hE2 hE3 hG1 hG2 hG3 hL1 hL2 hL3 hS1 hS2 hS3 hm E03
  go_enter Tryd.func3, Tryd.ntmps3
  go_wp2_with fail
  rw [HW1.out, HW2.out, HW3.out]
  clear HW1 HW2 HW3
  cases i1
  · clear F3 F4 F5 q1
    go_wp2_with (first | ((with_reducible refine (CallE.at_ (by assumption) (by assumption)).mono ?_); rintro e w' ⟨rfl, hEx⟩))
    go_ret
    exact ⟨rfl, HE3.out.trans (by assumption)⟩
  cases i2
  · clear F3 F4 F5 q1
    go_wp2_with (first | ((with_reducible refine (CallE.at_ (by assumption) (by assumption)).mono ?_); rintro e w' ⟨rfl, hEx⟩))
    go_ret
    exact ⟨rfl, HE3.out.trans (by assumption)⟩
  cases i3
  · clear F3 F4 F5 q1
    go_wp2_with (first | ((with_reducible refine (CallE.at_ (by assumption) (by assumption)).mono ?_); rintro e w' ⟨rfl, hEx⟩))
    go_ret
    exact ⟨rfl, HE3.out.trans (by assumption)⟩
  cases A <;> cases D
  · have hge := F4.out rfl
    clear F3 F4 F5 e5 e6
    go_upto_region 7 with (first | ((with_reducible refine (CallE.at_ (by assumption) (by assumption)).mono ?_); rintro e w' ⟨rfl, hEx⟩))
    go_wp2_with fail
    have hE7 := Lib.hid hEx
    replace b1 := fun w (h : Ext w' w) => b1 w (Ext.trans hEx h)
    replace b2 := fun w (h : Ext w' w) => b2 w (Ext.trans hEx h)
    replace b3 := fun w (h : Ext w' w) => b3 w (Ext.trans hEx h)
    replace e4 := CallE.more e4 hEx
    replace e7 := CallE.more e7 hEx
    replace e8 := CallE.more e8 hEx
    refine region_any (by kernel_rfl) (by kernel_rfl) rfl (fun K hK => ?_)
    repeat (first | (refine seqr_skip (by rfl) (fun ρ => by rfl) ?_; (try simp only [Act.put, List.setIfInBounds_toArray, List.set_cons_zero, List.set_cons_succ])) | (refine seqr_pure (v := ?_) (by rfl) (fun ρ => by rfl) (fun ρ w hE hF => ?_) ?_; rotate_left 1; (· ((try simp only [fill, Act.put, List.setIfInBounds_toArray, List.set_cons_zero, List.set_cons_succ]); go_simp; try with_reducible rfl)); (try simp only [Act.put, List.setIfInBounds_toArray, List.set_cons_zero, List.set_cons_succ])) | (refine seqr_call0 (v := ?_) (f := ?_) (args := ?_) (by rfl) (fun ρ => by rfl) (fun ρ w => ?_) (fun w hE => ?_) ?_; rotate_left 3; (· ((try simp only [fill, Act.put, List.setIfInBounds_toArray, List.set_cons_zero, List.set_cons_succ]); go_simp; constructor <;> with_reducible rfl)); (· (with_reducible exact CallE.call (by assumption) hE)); (try simp only [Act.put, List.setIfInBounds_toArray, List.set_cons_zero, List.set_cons_succ])))
    refine seqr_done (fun ρ wN hEN hFN => ?_); (try simp only [fill, Act.put, List.setIfInBounds_toArray, List.set_cons_zero, List.set_cons_succ]); refine (show K _ _ from hK.out _ _ ?_); clear hK K
    go_wp2_with fail
    go_ret
    exact ⟨rfl, HE3.out.trans (hE7.out.trans hEN)⟩
  · have hge := F4.out rfl
    clear F3 F4 F5 e5 e6
    go_upto_region 7 with (first | ((with_reducible refine (CallE.at_ (by assumption) (by assumption)).mono ?_); rintro e w' ⟨rfl, hEx⟩))
    go_wp2_with fail
    have hE7 := Lib.hid hEx
    replace b1 := fun w (h : Ext w' w) => b1 w (Ext.trans hEx h)
    replace b2 := fun w (h : Ext w' w) => b2 w (Ext.trans hEx h)
    replace b3 := fun w (h : Ext w' w) => b3 w (Ext.trans hEx h)
    replace e4 := CallE.more e4 hEx
    replace e7 := CallE.more e7 hEx
    replace e8 := CallE.more e8 hEx
    refine region_any (by kernel_rfl) (by kernel_rfl) rfl (fun K hK => ?_)
    repeat (first | (refine seqr_skip (by rfl) (fun ρ => by rfl) ?_; (try simp only [Act.put, List.setIfInBounds_toArray, List.set_cons_zero, List.set_cons_succ])) | (refine seqr_pure (v := ?_) (by rfl) (fun ρ => by rfl) (fun ρ w hE hF => ?_) ?_; rotate_left 1; (· ((try simp only [fill, Act.put, List.setIfInBounds_toArray, List.set_cons_zero, List.set_cons_succ]); go_simp; try with_reducible rfl)); (try simp only [Act.put, List.setIfInBounds_toArray, List.set_cons_zero, List.set_cons_succ])) | (refine seqr_call0 (v := ?_) (f := ?_) (args := ?_) (by rfl) (fun ρ => by rfl) (fun ρ w => ?_) (fun w hE => ?_) ?_; rotate_left 3; (· ((try simp only [fill, Act.put, List.setIfInBounds_toArray, List.set_cons_zero, List.set_cons_succ]); go_simp; constructor <;> with_reducible rfl)); (· (with_reducible exact CallE.call (by assumption) hE)); (try simp only [Act.put, List.setIfInBounds_toArray, List.set_cons_zero, List.set_cons_succ])))
    refine seqr_done (fun ρ wN hEN hFN => ?_); (try simp only [fill, Act.put, List.setIfInBounds_toArray, List.set_cons_zero, List.set_cons_succ]); refine (show K _ _ from hK.out _ _ ?_); clear hK K
    go_wp2_with fail
    go_ret
    exact ⟨rfl, HE3.out.trans (hE7.out.trans hEN)⟩
  · cases B
    · clear F3 F4 F5 e6
      go_upto_region 7 with (first | ((with_reducible refine (CallE.at_ (by assumption) (by assumption)).mono ?_); rintro e w' ⟨rfl, hEx⟩))
      go_wp2_with fail
      have hE7 := Lib.hid hEx
      replace b1 := fun w (h : Ext w' w) => b1 w (Ext.trans hEx h)
      replace b2 := fun w (h : Ext w' w) => b2 w (Ext.trans hEx h)
      replace b3 := fun w (h : Ext w' w) => b3 w (Ext.trans hEx h)
      replace e4 := CallE.more e4 hEx
      replace e7 := CallE.more e7 hEx
      replace e8 := CallE.more e8 hEx
      rcases (by omega : s2 ≤ s1 ∨ s1 < s2) with hge | hge
      · refine region_any (by kernel_rfl) (by kernel_rfl) rfl (fun K hK => ?_)
        repeat (first | (refine seqr_skip (by rfl) (fun ρ => by rfl) ?_; (try simp only [Act.put, List.setIfInBounds_toArray, List.set_cons_zero, List.set_cons_succ])) | (refine seqr_pure (v := ?_) (by rfl) (fun ρ => by rfl) (fun ρ w hE hF => ?_) ?_; rotate_left 1; (· ((try simp only [fill, Act.put, List.setIfInBounds_toArray, List.set_cons_zero, List.set_cons_succ]); go_simp; try with_reducible rfl)); (try simp only [Act.put, List.setIfInBounds_toArray, List.set_cons_zero, List.set_cons_succ])) | (refine seqr_call0 (v := ?_) (f := ?_) (args := ?_) (by rfl) (fun ρ => by rfl) (fun ρ w => ?_) (fun w hE => ?_) ?_; rotate_left 3; (· ((try simp only [fill, Act.put, List.setIfInBounds_toArray, List.set_cons_zero, List.set_cons_succ]); go_simp; constructor <;> with_reducible rfl)); (· (with_reducible exact CallE.call (by assumption) hE)); (try simp only [Act.put, List.setIfInBounds_toArray, List.set_cons_zero, List.set_cons_succ])))
        refine seqr_done (fun ρ wN hEN hFN => ?_); (try simp only [fill, Act.put, List.setIfInBounds_toArray, List.set_cons_zero, List.set_cons_succ]); refine (show K _ _ from hK.out _ _ ?_); clear hK K
        go_wp2_with fail
        go_ret
        exact ⟨rfl, HE3.out.trans (hE7.out.trans hEN)⟩
      · have hgd : decide (s2 ≤ s1) = false := decide_eq_false (by omega)
        refine region_any (by kernel_rfl) (by kernel_rfl) rfl (fun K hK => ?_)
        repeat (first | (refine seqr_skip (by rfl) (fun ρ => by rfl) ?_; (try simp only [Act.put, List.setIfInBounds_toArray, List.set_cons_zero, List.set_cons_succ])) | (refine seqr_pure (v := ?_) (by rfl) (fun ρ => by rfl) (fun ρ w hE hF => ?_) ?_; rotate_left 1; (· ((try simp only [fill, Act.put, List.setIfInBounds_toArray, List.set_cons_zero, List.set_cons_succ]); go_simp; try with_reducible rfl)); (try simp only [Act.put, List.setIfInBounds_toArray, List.set_cons_zero, List.set_cons_succ])) | (refine seqr_call0 (v := ?_) (f := ?_) (args := ?_) (by rfl) (fun ρ => by rfl) (fun ρ w => ?_) (fun w hE => ?_) ?_; rotate_left 3; (· ((try simp only [fill, Act.put, List.setIfInBounds_toArray, List.set_cons_zero, List.set_cons_succ]); go_simp; constructor <;> with_reducible rfl)); (· (with_reducible exact CallE.call (by assumption) hE)); (try simp only [Act.put, List.setIfInBounds_toArray, List.set_cons_zero, List.set_cons_succ])))
        refine seqr_done (fun ρ wN hEN hFN => ?_); (try simp only [fill, Act.put, List.setIfInBounds_toArray, List.set_cons_zero, List.set_cons_succ]); refine (show K _ _ from hK.out _ _ ?_); clear hK K
        go_wp2_with fail
        go_ret
        exact ⟨rfl, HE3.out.trans (hE7.out.trans hEN)⟩
    · have hC := F5.out rfl rfl
      subst hC
      clear F3 F4 F5
      go_upto_region 7 with (first | ((with_reducible refine (CallE.at_ (by assumption) (by assumption)).mono ?_); rintro e w' ⟨rfl, hEx⟩))
      go_wp2_with fail
      have hE7 := Lib.hid hEx
      replace b1 := fun w (h : Ext w' w) => b1 w (Ext.trans hEx h)
      replace b2 := fun w (h : Ext w' w) => b2 w (Ext.trans hEx h)
      replace b3 := fun w (h : Ext w' w) => b3 w (Ext.trans hEx h)
      replace e4 := CallE.more e4 hEx
      replace e7 := CallE.more e7 hEx
      replace e8 := CallE.more e8 hEx
      rcases (by omega : s2 ≤ s1 ∨ s1 < s2) with hge | hge
      · refine region_any (by kernel_rfl) (by kernel_rfl) rfl (fun K hK => ?_)
        repeat (first | (refine seqr_skip (by rfl) (fun ρ => by rfl) ?_; (try simp only [Act.put, List.setIfInBounds_toArray, List.set_cons_zero, List.set_cons_succ])) | (refine seqr_pure (v := ?_) (by rfl) (fun ρ => by rfl) (fun ρ w hE hF => ?_) ?_; rotate_left 1; (· ((try simp only [fill, Act.put, List.setIfInBounds_toArray, List.set_cons_zero, List.set_cons_succ]); go_simp; try with_reducible rfl)); (try simp only [Act.put, List.setIfInBounds_toArray, List.set_cons_zero, List.set_cons_succ])) | (refine seqr_call0 (v := ?_) (f := ?_) (args := ?_) (by rfl) (fun ρ => by rfl) (fun ρ w => ?_) (fun w hE => ?_) ?_; rotate_left 3; (· ((try simp only [fill, Act.put, List.setIfInBounds_toArray, List.set_cons_zero, List.set_cons_succ]); go_simp; constructor <;> with_reducible rfl)); (· (with_reducible exact CallE.call (by assumption) hE)); (try simp only [Act.put, List.setIfInBounds_toArray, List.set_cons_zero, List.set_cons_succ])))
        refine seqr_done (fun ρ wN hEN hFN => ?_); (try simp only [fill, Act.put, List.setIfInBounds_toArray, List.set_cons_zero, List.set_cons_succ]); refine (show K _ _ from hK.out _ _ ?_); clear hK K
        go_wp2_with fail
        go_ret
        exact ⟨rfl, HE3.out.trans (hE7.out.trans hEN)⟩
      · have hgd : decide (s2 ≤ s1) = false := decide_eq_false (by omega)
        refine region_any (by kernel_rfl) (by kernel_rfl) rfl (fun K hK => ?_)
        repeat (first | (refine seqr_skip (by rfl) (fun ρ => by rfl) ?_; (try simp only [Act.put, List.setIfInBounds_toArray, List.set_cons_zero, List.set_cons_succ])) | (refine seqr_pure (v := ?_) (by rfl) (fun ρ => by rfl) (fun ρ w hE hF => ?_) ?_; rotate_left 1; (· ((try simp only [fill, Act.put, List.setIfInBounds_toArray, List.set_cons_zero, List.set_cons_succ]); go_simp; try with_reducible rfl)); (try simp only [Act.put, List.setIfInBounds_toArray, List.set_cons_zero, List.set_cons_succ])) | (refine seqr_call0 (v := ?_) (f := ?_) (args := ?_) (by rfl) (fun ρ => by rfl) (fun ρ w => ?_) (fun w hE => ?_) ?_; rotate_left 3; (· ((try simp only [fill, Act.put, List.setIfInBounds_toArray, List.set_cons_zero, List.set_cons_succ]); go_simp; constructor <;> with_reducible rfl)); (· (with_reducible exact CallE.call (by assumption) hE)); (try simp only [Act.put, List.setIfInBounds_toArray, List.set_cons_zero, List.set_cons_succ])))
        refine seqr_done (fun ρ wN hEN hFN => ?_); (try simp only [fill, Act.put, List.setIfInBounds_toArray, List.set_cons_zero, List.set_cons_succ]); refine (show K _ _ from hK.out _ _ ?_); clear hK K
        go_wp2_with fail
        go_ret
        exact ⟨rfl, HE3.out.trans (hE7.out.trans hEN)⟩
  · exact absurd F3.out (by decide)
theorem walk (a b c : Cl) (w : World) (wa : a.wf) (wb : b.wf) (wc : c.wf) (hm : MaxI w) :
    Calls Tryd.prog 3 #[ceV a.s a.c a.r, ceV b.s b.c b.r, ceV c.s c.c c.r] w fun e w' => e = .returned (.bool true) ∧ Below w.heap.size w w' := walk0 _ _ _ _ _ _ _ _ _ w hm
end Go.Proofs.YtkbcdnndhglnoaaDoor.addrOrder
