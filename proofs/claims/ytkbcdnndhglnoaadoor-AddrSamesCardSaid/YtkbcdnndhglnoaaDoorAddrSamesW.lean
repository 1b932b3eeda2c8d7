/-
  AddrSames: walk. Conditions: the arguments' own.
-/
import Derived.Test.YtkbcdnndhglnoaaDoorAddrE
namespace Go.Proofs.YtkbcdnndhglnoaaDoor.addrSames
open Go.RowKit
set_option linter.unusedVariables false
set_option linter.unusedSimpArgs false

set_option maxHeartbeats 8000000 in
set_option maxRecDepth 100000 in
theorem walk0 (s1 c1 r1 s2 c2 r2 : Int) (x1 y1 x2 y2 : Bool) (w : World) (hm : MaxI w) :
    Calls Tryd.prog 6 #[refV s1 c1 r1 x1 y1, refV s2 c2 r2 x2 y2] w fun e w' => e = .returned (.bool true) ∧ Ext w w' := by
  obtain ⟨W1, hW1, hE1, hG1, hL1, hS1⟩ := new_blk w #[.int .i64 s1, .int .i64 c1, .int .i64 r1, .bool x1, .bool y1] 29
  obtain ⟨W2, hW2, hE2, hG2, hL2, hS2⟩ := new_blk W1 #[.int .i64 s2, .int .i64 c2, .int .i64 r2, .bool x2, .bool y2] 29
  rw [hS1] at hG2
  have HW1 := Lib.hid hW1
  have HW2 := Lib.hid hW2
  have E02 := hE1.trans hE2
  have HE2 := Lib.hid E02
  have HM := Lib.hid (hm.ext E02)
  have HG1 := Lib.hid (hE2.blk hG1)
  have HG2 := Lib.hid hG2
  have b1 := ext_blk HG1.out
  have b2 := ext_blk hG2
  have l1 := ext_lt (blk_lt HG1.out)
  have l2 := ext_lt (blk_lt hG2)
  have e0 : CallE Tryd.prog W2 9 #[] (.bool true) := fun w' hE => fit_a w' (HM.out.ext hE)
  have e1 : CallE Tryd.prog W2 _ _ _ := fun w' _ => lright_any s1 c1 r1 w'
  have e2 : CallE Tryd.prog W2 _ _ _ := fun w' _ => lright_any s2 c2 r2 w'
  have hr := Ext.refl W2
  clear hW1 hW2 hE1 hE2 hG1 hG2 hL1 hL2 hS1 hS2 hm E02
  have hi1 : insV s1 c1 r1 = true ∨ insV s1 c1 r1 = false := by cases insV s1 c1 r1 <;> simp
  have hi2 : insV s2 c2 r2 = true ∨ insV s2 c2 r2 = false := by cases insV s2 c2 r2 <;> simp
  rcases hi1 with hi1 | hi1
  rotate_left 1
  · rw [hi1] at e1
    clear hi1 hi2
    go_enter Tryd.func6, Tryd.ntmps6
    go_wp2_with fail
    rw [HW1.out, HW2.out]
    clear HW1 HW2
    go_wp2_with (first | ((with_reducible refine (CallE.at_ (by assumption) (by assumption)).mono ?_); rintro e w' ⟨rfl, hEx⟩))
    go_ret
    exact ⟨rfl, HE2.out.trans (by assumption)⟩
  rcases hi2 with hi2 | hi2
  rotate_left 1
  · rw [hi1] at e1
    rw [hi2] at e2
    clear hi1 hi2
    go_enter Tryd.func6, Tryd.ntmps6
    go_wp2_with fail
    rw [HW1.out, HW2.out]
    clear HW1 HW2
    go_wp2_with (first | ((with_reducible refine (CallE.at_ (by assumption) (by assumption)).mono ?_); rintro e w' ⟨rfl, hEx⟩))
    go_ret
    exact ⟨rfl, HE2.out.trans (by assumption)⟩
  rw [hi1] at e1
  rw [hi2] at e2
  obtain ⟨⟨p1, p2⟩, ⟨p3, p4⟩, p5, p6⟩ := ins_bd hi1
  obtain ⟨⟨p7, p8⟩, ⟨p9, p10⟩, p11, p12⟩ := ins_bd hi2
  obtain ⟨s1, rfl⟩ := Int.eq_ofNat_of_zero_le p1
  obtain ⟨c1, rfl⟩ := Int.eq_ofNat_of_zero_le p3
  obtain ⟨r1, rfl⟩ := Int.eq_ofNat_of_zero_le p5
  obtain ⟨s2, rfl⟩ := Int.eq_ofNat_of_zero_le p7
  obtain ⟨c2, rfl⟩ := Int.eq_ofNat_of_zero_le p9
  obtain ⟨r2, rfl⟩ := Int.eq_ofNat_of_zero_le p11
  have d1 := Lib.hid (fun w => printfull_any s1 c1 r1 x1 y1 w (by omega) (by omega) (by omega))
  have d2 := Lib.hid (fun w => printfull_any s2 c2 r2 x2 y2 w (by omega) (by omega) (by omega))
  have d3 := Lib.hid (fun w => aprint_any s1 c1 r1 w (by omega) (by omega) (by omega))
  have d4 := Lib.hid (fun w => aprint_any s2 c2 r2 w (by omega) (by omega) (by omega))
  have t1 := texts_eq s1 s2 c1 r1 c2 r2 x1 y1 x2 y2 (by omega) (by omega) (by omega) (by omega) (by omega) (by omega)
  have t2 := texts_eq s1 s2 c1 r1 c2 r2 false false false false (by omega) (by omega) (by omega) (by omega) (by omega) (by omega)
  have q1 := fun w => eql_ref s1 c1 r1 s2 c2 r2 x1 y1 x2 y2 w
  have q2 := fun w => eql_cell s1 c1 r1 s2 c2 r2 w
  simp only [beq_self_eq_true, Bool.and_true] at t2
  rw [← t1] at q1
  rw [← t2] at q2
  clear t1 t2 p1 p2 p3 p4 p5 p6 p7 p8 p9 p10 p11 p12 hi1 hi2
  generalize mk (fullL s1 x1 y1 c1 r1) = T1 at *
  generalize mk (fullL s2 x2 y2 c2 r2) = T2 at *
  generalize mk (fullL s1 false false c1 r1) = T3 at *
  generalize mk (fullL s2 false false c2 r2) = T4 at *
  generalize (s1 : Int) = a1 at *
  generalize (c1 : Int) = a2 at *
  generalize (r1 : Int) = a3 at *
  generalize (s2 : Int) = b1' at *
  generalize (c2 : Int) = b2' at *
  generalize (r2 : Int) = b3' at *
  obtain ⟨U, hU⟩ : ∃ U, (T1.toList == T2.toList) = U := ⟨_, rfl⟩
  obtain ⟨V, hV⟩ : ∃ V, (T3.toList == T4.toList) = V := ⟨_, rfl⟩
  rw [hU] at q1
  rw [hV] at q2
  go_enter Tryd.func6, Tryd.ntmps6
  go_wp2_with fail
  rw [HW1.out, HW2.out]
  clear HW1 HW2
  go_upto_region 5 with (first | ((with_reducible refine (CallE.at_ (by assumption) (by assumption)).mono ?_); rintro e w' ⟨rfl, hEx⟩))
  have HX := Lib.hid (HE2.out.trans hEx)
  have hG1' := hEx.blk HG1.out
  have hG2' := hEx.blk HG2.out
  have b1 := ext_blk hG1'
  have b2 := ext_blk hG2'
  have l1 := ext_lt (blk_lt hG1')
  have l2 := ext_lt (blk_lt hG2')
  have e3 : CallE Tryd.prog w' _ _ _ := fun w _ => d1.out w
  have e4 : CallE Tryd.prog w' _ _ _ := fun w _ => d2.out w
  have e5 : CallE Tryd.prog w' _ _ _ := fun w _ => d3.out w
  have e6 : CallE Tryd.prog w' _ _ _ := fun w _ => d4.out w
  have hr := Ext.refl w'
  clear hEx e0 e1 e2 hG1' hG2'
  go_wp2_with fail
  cases U <;> cases V
  all_goals
    refine region_any (by kernel_rfl) (by kernel_rfl) rfl (fun K hK => ?_)
    repeat (first | (refine seqr_skip (by rfl) (fun ρ => by rfl) ?_; (try simp only [Act.put, List.setIfInBounds_toArray, List.set_cons_zero, List.set_cons_succ])) | (refine seqr_pure (v := ?_) (by rfl) (fun ρ => by rfl) (fun ρ w hE hF => ?_) ?_; rotate_left 1; (· ((try simp only [fill, Act.put, List.setIfInBounds_toArray, List.set_cons_zero, List.set_cons_succ]); go_simp; try with_reducible rfl)); (try simp only [Act.put, List.setIfInBounds_toArray, List.set_cons_zero, List.set_cons_succ])) | (refine seqr_call0 (v := ?_) (f := ?_) (args := ?_) (by rfl) (fun ρ => by rfl) (fun ρ w => ?_) (fun w hE => ?_) ?_; rotate_left 3; (· ((try simp only [fill, Act.put, List.setIfInBounds_toArray, List.set_cons_zero, List.set_cons_succ]); go_simp; constructor <;> with_reducible rfl)); (· (with_reducible exact CallE.call (by assumption) hE)); (try simp only [Act.put, List.setIfInBounds_toArray, List.set_cons_zero, List.set_cons_succ])))
    refine seqr_done (fun ρ wN hEN hFN => ?_); (try simp only [fill, Act.put, List.setIfInBounds_toArray, List.set_cons_zero, List.set_cons_succ]); refine (show K _ _ from hK.out _ _ ?_); clear hK K
    go_wp2_with fail
    go_ret
    exact ⟨rfl, HX.out.trans hEN⟩
theorem walk (a b : Rv) (w : World) (wa : True) (wb : True) (hm : MaxI w) :
    Calls Tryd.prog 6 #[refV a.s a.c a.r a.x a.y, refV b.s b.c b.r b.x b.y] w fun e w' => e = .returned (.bool true) ∧ Below w.heap.size w w' := walk0 _ _ _ _ _ _ _ _ _ _ w hm
end Go.Proofs.YtkbcdnndhglnoaaDoor.addrSames
