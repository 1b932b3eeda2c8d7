/-
  TextsParts: walk. Conditions: the arguments' own.
-/
import Derived.Test.YtmdlahkmnjmanaaDoorTextsB
import Derived.Deep.DeepCutAuto
namespace Go.Proofs.YtmdlahkmnjmanaaDoor.textsParts
open Go.RowKit Num
set_option linter.unusedVariables false
set_option linter.unusedSimpArgs false

set_option maxHeartbeats 8000000 in
set_option maxRecDepth 100000 in
theorem walk0 (s : ByteArray) (n m : Int) (w : World) (ht : Tab w) (hs : s.size ≤ 9223372036854775807) :
    Calls Tryd.prog 3 #[.string s, .int .i64 n, .int .i64 m] w fun e w' => e = .returned (.bool true) ∧ Ext w w' := by
  have HT := Lib.hid ht
  obtain ⟨t, htt⟩ : ∃ t : Nat, min s.size 64 = t := ⟨_, rfl⟩
  have h17 : min (s.size : Int) 64 = (t : Int) := by omega
  have hts : t ≤ s.size := by omega
  have HSS : Hid ((s.extract 0 t).size ≤ 64) := Lib.hid (by rw [ByteArray.size_extract]; omega)
  clear ht htt
  go_enter Tryd.func3, Tryd.ntmps3
  go_wp2_with fail
  refine (fit_t _ HT.out).mono ?_
  rintro e w1 ⟨rfl, hE1⟩
  go_upto_region 5 with (fail)
  generalize s.extract 0 t = S at *
  have hS := HSS.out
  have hN : 0 ≤ bits .and .i64 n 127 ∧ bits .and .i64 n 127 ≤ 127 := by rw [and_i64_7]; omega
  have hM : 0 ≤ bits .and .i64 m 127 ∧ bits .and .i64 m 127 ≤ 127 := by rw [and_i64_7]; omega
  generalize bits .and .i64 n 127 = N at *
  generalize bits .and .i64 m 127 = M at *
  obtain ⟨k, hk⟩ : ∃ k : Nat, min N.toNat S.size = k := ⟨_, rfl⟩
  have HK := Lib.hid hk
  have HN : Hid (0 ≤ N ∧ N ≤ 1000) := Lib.hid (by omega)
  have hNb : -1 ≤ N ∧ N ≤ 1000 := by omega
  have hMb : -1 ≤ M ∧ M ≤ 1000 := by omega
  have HNB := Lib.hid hNb
  have HMB := Lib.hid hMb
  clear hk h17 hts hs
  go_wp2_with fail
  refine (lcount_any N _ HNB.out).mono ?_
  rintro e w2 ⟨rfl, hE2⟩
  go_wp2_with fail
  refine (part_left N k S _ _ HN.out HK.out (new_cell _ _ _ 0) (new_lt _ _) HSS.out).mono ?_
  rintro e w3 ⟨rfl, hE3⟩
  have hE13 := hE1.trans (hE2.trans (ext_dig hE3))
  clear hE1 hE2 hE3
  go_wp2_with fail
  refine (lcount_any N _ HNB.out).mono ?_
  rintro e w4 ⟨rfl, hE4⟩
  go_wp2_with fail
  refine (part_right N k S _ _ HN.out HK.out (new_cell _ _ _ 0) (new_lt _ _) HSS.out).mono ?_
  rintro e w5 ⟨rfl, hE5⟩
  have hE15 := hE13.trans (hE4.trans (ext_dig hE5))
  clear hE13 hE4 hE5
  obtain ⟨W6, hW6, hE6, hG6, hL6, hS6⟩ := new_blk w5 #[.int .i64 2, .int .i64 0, .string (S.extract 0 k)] 24
  obtain ⟨W7, hW7, hE7, hG7, hL7, hS7⟩ := new_blk W6 #[.int .i64 2, .int .i64 0, .string (S.extract (S.size - k) S.size)] 24
  rw [hS6] at hG7
  have HW6 := Lib.hid hW6
  have HW7 := Lib.hid hW7
  have HE7 := Lib.hid (hE15.trans (hE6.trans hE7))
  have HG6 := Lib.hid (hE7.blk hG6)
  have HG7 := Lib.hid hG7
  clear hW6 hW7 hE6 hE7 hG6 hG7 hL6 hL7 hS6 hS7 hE15
  have hkm : min N (S.size : Int) = (k : Int) := by have := HK.out; omega
  have hks : k ≤ S.size := by have := HK.out; omega
  go_upto_region 7 with (fail)
  rw [HW6.out, HW7.out]
  clear HW6 HW7
  generalize w5.heap.size = g6 at *
  have b6 := ext_blk HG6.out
  have l6 := ext_lt (blk_lt HG6.out)
  have b7 := ext_blk HG7.out
  have l7 := ext_lt (blk_lt HG7.out)
  have x1 : (S.extract 0 k).size ≤ 64 := ext_le _ _ _ hS
  have x2 : (S.extract (S.size - k) S.size).size ≤ 64 := ext_le _ _ _ hS
  have e1 : CallE Tryd.prog W7 11 #[.string (S.extract 0 k)] (.agg #[.int .i64 2, .int .i64 0, .string (S.extract 0 k)]) := fun w _ => (vtext_yes _ w x1).mono fun _ _ h => h
  have e2 : CallE Tryd.prog W7 11 #[.string (S.extract (S.size - k) S.size)] (.agg #[.int .i64 2, .int .i64 0, .string (S.extract (S.size - k) S.size)]) := fun w _ => (vtext_yes _ w x2).mono fun _ _ h => h
  have e3 : CallE Tryd.prog W7 10 #[.int .i64 1] (.int .i64 1000000) := fun w _ => lcount_any 1 w (by omega)
  have e4 : CallE Tryd.prog W7 12 #[.int .i64 2] (.agg #[.int .i64 4, .int .i64 2, .string ⟨#[]⟩]) := fun w _ => fail_v 2 w
  have q1 := fun w => neq_value_self 2 0 (S.extract 0 k) w
  have q2 := fun w => neq_value_self 2 0 (S.extract (S.size - k) S.size) w
  have q3 := fun w => neq_value_self 4 2 ⟨#[]⟩ w
  have hr := Ext.refl W7
  have hw : IntKind.i64.wrap ((S.size : Int) - (k : Int)) = ((S.size - k : Nat) : Int) := by rw [IntWalk.i64_in _ ⟨by omega, by omega⟩]; omega
  have hle : S.size - k ≤ S.size := by omega
  clear x1 x2
  go_wp2_with fail
  refine region_any (by kernel_rfl) (by kernel_rfl) rfl (fun K hK => ?_)
  repeat (first | (refine seqr_skip (by rfl) (fun ρ => by rfl) ?_; (try simp only [Act.put, List.setIfInBounds_toArray, List.set_cons_zero, List.set_cons_succ])) | (refine seqr_pure (v := ?_) (by rfl) (fun ρ => by rfl) (fun ρ w hE hF => ?_) ?_; rotate_left 1; (· ((try simp only [fill, Act.put, List.setIfInBounds_toArray, List.set_cons_zero, List.set_cons_succ]); go_simp; try with_reducible rfl)); (try simp only [Act.put, List.setIfInBounds_toArray, List.set_cons_zero, List.set_cons_succ])) | (refine seqr_call0 (v := ?_) (f := ?_) (args := ?_) (by rfl) (fun ρ => by rfl) (fun ρ w => ?_) (fun w hE => ?_) ?_; rotate_left 3; (· ((try simp only [fill, Act.put, List.setIfInBounds_toArray, List.set_cons_zero, List.set_cons_succ]); go_simp; constructor <;> with_reducible rfl)); (· (with_reducible exact CallE.call (by assumption) hE)); (try simp only [Act.put, List.setIfInBounds_toArray, List.set_cons_zero, List.set_cons_succ])))
  (refine seqr_rel (SlN [-1000000]) (SlN.lasts _) rfl (by rfl) (fun ρ => by rfl) (fun ρ w hE hF => ?_) ?_; (· (refine outcome_value ?_ (below_alloc1 w _) (SlN.new w [-1000000]); (try simp only [fill, Act.put, List.setIfInBounds_toArray, List.set_cons_zero, List.set_cons_succ]); go_simp; try rfl)); (try simp only [Act.put, List.setIfInBounds_toArray, List.set_cons_zero, List.set_cons_succ]))
  (refine seqr_call (v := .agg #[.int .i64 4, .int .i64 2, .string ⟨#[]⟩]) (args := fun ρ => #[.string ⟨#[76, 69, 70, 84]⟩, .string S, ρ 58]) (by rfl) (fun ρ => by rfl) (fun ρ w => ?_) (fun ρ w hE hF => neg_left S _ w (hF.get (.head _) (by rfl)) HSS.out) ?_; (· ((try simp only [fill, Act.put, List.setIfInBounds_toArray, List.set_cons_zero, List.set_cons_succ]); go_simp)); (try simp only [Act.put, List.setIfInBounds_toArray, List.set_cons_zero, List.set_cons_succ]))
  repeat (first | (refine seqr_skip (by rfl) (fun ρ => by rfl) ?_; (try simp only [Act.put, List.setIfInBounds_toArray, List.set_cons_zero, List.set_cons_succ])) | (refine seqr_pure (v := ?_) (by rfl) (fun ρ => by rfl) (fun ρ w hE hF => ?_) ?_; rotate_left 1; (· ((try simp only [fill, Act.put, List.setIfInBounds_toArray, List.set_cons_zero, List.set_cons_succ]); go_simp; try with_reducible rfl)); (try simp only [Act.put, List.setIfInBounds_toArray, List.set_cons_zero, List.set_cons_succ])) | (refine seqr_call0 (v := ?_) (f := ?_) (args := ?_) (by rfl) (fun ρ => by rfl) (fun ρ w => ?_) (fun w hE => ?_) ?_; rotate_left 3; (· ((try simp only [fill, Act.put, List.setIfInBounds_toArray, List.set_cons_zero, List.set_cons_succ]); go_simp; constructor <;> with_reducible rfl)); (· (with_reducible exact CallE.call (by assumption) hE)); (try simp only [Act.put, List.setIfInBounds_toArray, List.set_cons_zero, List.set_cons_succ])))
  refine seqr_done (fun ρ wN hEN hFN => ?_); (try simp only [fill, Act.put, List.setIfInBounds_toArray, List.set_cons_zero, List.set_cons_succ]); refine (show K _ _ from hK.out _ _ ?_); clear hK K
  have HE8 := Lib.hid (HE7.out.trans hEN)
  clear hFN e1 e2 e3 e4 b6 b7 l6 l7 q1 q2 hr hEN HG6 HG7 HE7
  obtain ⟨f, hf⟩ : ∃ f : Nat, min (M - 1).toNat S.size = f := ⟨_, rfl⟩
  obtain ⟨u, hu⟩ : ∃ u : Nat, min (f + k) S.size = u := ⟨_, rfl⟩
  have HFF := Lib.hid hf
  have HU := Lib.hid hu
  clear hf hu
  go_wp2_with fail
  refine (lcount_any M _ HMB.out).mono ?_
  rintro e w9 ⟨rfl, hE9⟩
  go_wp2_with fail
  refine (lcount_any N _ HNB.out).mono ?_
  rintro e w10 ⟨rfl, hE10⟩
  by_cases hm0 : M = 0
  · subst hm0
    go_wp2_with fail
    refine (part_mid0 N k S _ _ HN.out HK.out (new_cell _ _ _ 0) (new_cell _ _ _ 1) (new_lt _ _) HSS.out).mono ?_
    rintro e w11 ⟨rfl, hE11⟩
    obtain ⟨W12, hW12, hE12, hG12, hL12, -⟩ := new_blk w11 #[.int .i64 4, .int .i64 2, .string ⟨#[]⟩] 24
    have HW12 := Lib.hid hW12
    have HE12 := Lib.hid (HE8.out.trans (hE9.trans (hE10.trans ((ext_dig hE11).trans hE12))))
    have b12 := ext_blk hG12
    have l12 := ext_lt (blk_lt hG12)
    have e5 : CallE Tryd.prog W12 12 #[.int .i64 2] (.agg #[.int .i64 4, .int .i64 2, .string ⟨#[]⟩]) := fun w _ => fail_v 2 w
    have q5 := fun w => eql_value_self 4 2 ⟨#[]⟩ w
    have hr := Ext.refl W12
    clear hW12 hE9 hE10 hE11 hE12 hG12 hL12
    go_upto_region 10 with (fail)
    rw [HW12.out]
    clear HW12
    go_wp2_with fail
    refine region_any (by kernel_rfl) (by kernel_rfl) rfl (fun K hK => ?_)
    repeat (first | (refine seqr_skip (by rfl) (fun ρ => by rfl) ?_; (try simp only [Act.put, List.setIfInBounds_toArray, List.set_cons_zero, List.set_cons_succ])) | (refine seqr_pure (v := ?_) (by rfl) (fun ρ => by rfl) (fun ρ w hE hF => ?_) ?_; rotate_left 1; (· ((try simp only [fill, Act.put, List.setIfInBounds_toArray, List.set_cons_zero, List.set_cons_succ]); go_simp; try with_reducible rfl)); (try simp only [Act.put, List.setIfInBounds_toArray, List.set_cons_zero, List.set_cons_succ])) | (refine seqr_call0 (v := ?_) (f := ?_) (args := ?_) (by rfl) (fun ρ => by rfl) (fun ρ w => ?_) (fun w hE => ?_) ?_; rotate_left 3; (· ((try simp only [fill, Act.put, List.setIfInBounds_toArray, List.set_cons_zero, List.set_cons_succ]); go_simp; constructor <;> with_reducible rfl)); (· (with_reducible exact CallE.call (by assumption) hE)); (try simp only [Act.put, List.setIfInBounds_toArray, List.set_cons_zero, List.set_cons_succ])))
    refine seqr_done (fun ρ wN hEN hFN => ?_); (try simp only [fill, Act.put, List.setIfInBounds_toArray, List.set_cons_zero, List.set_cons_succ]); refine (show K _ _ from hK.out _ _ ?_); clear hK K
    go_wp2_with fail
    go_ret
    exact ⟨rfl, HE12.out.trans hEN⟩
  · have hM1 : Hid (1 ≤ M ∧ M ≤ 1000) := Lib.hid (by omega)
    go_wp2_with fail
    refine (part_mid M N k f u S _ _ HN.out hM1.out HK.out HFF.out HU.out (new_cell _ _ _ 0) (new_cell _ _ _ 1) (new_lt _ _) HSS.out).mono ?_
    rintro e w11 ⟨rfl, hE11⟩
    obtain ⟨W12, hW12, hE12, hG12, hL12, -⟩ := new_blk w11 #[.int .i64 2, .int .i64 0, .string (S.extract f u)] 24
    have HW12 := Lib.hid hW12
    have HE12 := Lib.hid (HE8.out.trans (hE9.trans (hE10.trans ((ext_dig hE11).trans hE12))))
    have b12 := ext_blk hG12
    have l12 := ext_lt (blk_lt hG12)
    have hfm : min (M - 1) (S.size : Int) = (f : Int) := by have := HFF.out; have := hM1.out; omega
    have hfs : f ≤ S.size := by have := HFF.out; omega
    have hfu : f ≤ u := by have := HU.out; omega
    have hus : u ≤ S.size := by have := HU.out; omega
    have hw1 : IntKind.i64.wrap ((f : Int) + N) = (f : Int) + N := IntWalk.i64_in _ ⟨by omega, by omega⟩
    have hum : min ((f : Int) + N) (S.size : Int) = (u : Int) := by have := HU.out; have := HK.out; omega
    have hmz : (M == 0) = false := by simpa using hm0
    have x1 : (S.extract f u).size ≤ 64 := ext_le _ _ _ hS
    have e5 : CallE Tryd.prog W12 12 #[.int .i64 2] (.agg #[.int .i64 4, .int .i64 2, .string ⟨#[]⟩]) := fun w _ => fail_v 2 w
    have e6 : CallE Tryd.prog W12 11 #[.string (S.extract f u)] (.agg #[.int .i64 2, .int .i64 0, .string (S.extract f u)]) := fun w _ => (vtext_yes _ w x1).mono fun _ _ h => h
    have e7 : CallE Tryd.prog W12 9 #[.string ⟨#[76, 69, 70, 84]⟩, .string S, .slice none 0 0] (.agg #[.int .i64 4, .int .i64 2, .string ⟨#[]⟩]) := fun w _ => part_none S w
    have q5 := fun w => eql_value_self 4 2 ⟨#[]⟩ w
    have q6 := fun w => eql_value_self 2 0 (S.extract f u) w
    have hr := Ext.refl W12
    clear hW12 hE9 hE10 hE11 hE12 hG12 hL12 x1
    go_upto_region 10 with (fail)
    rw [HW12.out]
    clear HW12
    go_wp2_with fail
    refine region_any (by kernel_rfl) (by kernel_rfl) rfl (fun K hK => ?_)
    repeat (first | (refine seqr_skip (by rfl) (fun ρ => by rfl) ?_; (try simp only [Act.put, List.setIfInBounds_toArray, List.set_cons_zero, List.set_cons_succ])) | (refine seqr_pure (v := ?_) (by rfl) (fun ρ => by rfl) (fun ρ w hE hF => ?_) ?_; rotate_left 1; (· ((try simp only [fill, Act.put, List.setIfInBounds_toArray, List.set_cons_zero, List.set_cons_succ]); go_simp; try with_reducible rfl)); (try simp only [Act.put, List.setIfInBounds_toArray, List.set_cons_zero, List.set_cons_succ])) | (refine seqr_call0 (v := ?_) (f := ?_) (args := ?_) (by rfl) (fun ρ => by rfl) (fun ρ w => ?_) (fun w hE => ?_) ?_; rotate_left 3; (· ((try simp only [fill, Act.put, List.setIfInBounds_toArray, List.set_cons_zero, List.set_cons_succ]); go_simp; constructor <;> with_reducible rfl)); (· (with_reducible exact CallE.call (by assumption) hE)); (try simp only [Act.put, List.setIfInBounds_toArray, List.set_cons_zero, List.set_cons_succ])))
    (refine seqr_rel (SlN [0]) (SlN.lasts _) rfl (by rfl) (fun ρ => by rfl) (fun ρ w hE hF => ?_) ?_; (· (refine outcome_value ?_ (below_alloc1 w _) (SlN.new w [0]); (try simp only [fill, Act.put, List.setIfInBounds_toArray, List.set_cons_zero, List.set_cons_succ]); go_simp; try rfl)); (try simp only [Act.put, List.setIfInBounds_toArray, List.set_cons_zero, List.set_cons_succ]))
    (refine seqr_call (v := .agg #[.int .i64 4, .int .i64 2, .string ⟨#[]⟩]) (args := fun ρ => #[.string ⟨#[77, 73, 68, 68, 76, 69]⟩, .string S, ρ 100]) (by rfl) (fun ρ => by rfl) (fun ρ w => ?_) (fun ρ w hE hF => other_sl S _ w (hF.get (.head _) (by rfl)) HSS.out) ?_; (· ((try simp only [fill, Act.put, List.setIfInBounds_toArray, List.set_cons_zero, List.set_cons_succ]); go_simp)); (try simp only [Act.put, List.setIfInBounds_toArray, List.set_cons_zero, List.set_cons_succ]))
    repeat (first | (refine seqr_skip (by rfl) (fun ρ => by rfl) ?_; (try simp only [Act.put, List.setIfInBounds_toArray, List.set_cons_zero, List.set_cons_succ])) | (refine seqr_pure (v := ?_) (by rfl) (fun ρ => by rfl) (fun ρ w hE hF => ?_) ?_; rotate_left 1; (· ((try simp only [fill, Act.put, List.setIfInBounds_toArray, List.set_cons_zero, List.set_cons_succ]); go_simp; try with_reducible rfl)); (try simp only [Act.put, List.setIfInBounds_toArray, List.set_cons_zero, List.set_cons_succ])) | (refine seqr_call0 (v := ?_) (f := ?_) (args := ?_) (by rfl) (fun ρ => by rfl) (fun ρ w => ?_) (fun w hE => ?_) ?_; rotate_left 3; (· ((try simp only [fill, Act.put, List.setIfInBounds_toArray, List.set_cons_zero, List.set_cons_succ]); go_simp; constructor <;> with_reducible rfl)); (· (with_reducible exact CallE.call (by assumption) hE)); (try simp only [Act.put, List.setIfInBounds_toArray, List.set_cons_zero, List.set_cons_succ])))
    refine seqr_done (fun ρ wN hEN hFN => ?_); (try simp only [fill, Act.put, List.setIfInBounds_toArray, List.set_cons_zero, List.set_cons_succ]); refine (show K _ _ from hK.out _ _ ?_); clear hK K
    go_wp2_with fail
    go_ret
    exact ⟨rfl, HE12.out.trans hEN⟩
theorem walk (s : ByteArray) (n m : Int) (w : World) (ws : s.size ≤ 9223372036854775807) (wn : (Lit.int .i64 n).wf = true) (wm : (Lit.int .i64 m).wf = true) (ht : Tab w) :
    Calls Tryd.prog 3 #[.string s, .int .i64 n, .int .i64 m] w fun e w' => e = .returned (.bool true) ∧ Below w.heap.size w w' := walk0 s n m w ht ws
end Go.Proofs.YtmdlahkmnjmanaaDoor.textsParts
