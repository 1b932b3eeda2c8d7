/-
  AddrBack: walk. Conditions: the arguments' own.
-/
import Derived.Test.YtkbcdnndhglnoaaDoorAddrE
import Derived.Laws.IdiomStrings
namespace Go.Proofs.YtkbcdnndhglnoaaDoor.addrBack
open Go.RowKit
set_option linter.unusedVariables false
set_option linter.unusedSimpArgs false

/-- A slice of three bytes that the region makes. -/
def SlY (l : List UInt8) (v : Value) (w : World) : Prop := ∃ g, v = .slice (some ⟨g, 0, none⟩) l.length l.length ∧ w.heap[g]? = some (.cells (l.map fun c => Value.int .u8 (c.toNat : Int)).toArray 5 (0, 0))
theorem SlY.lasts (l : List UInt8) : Lasts (SlY l) := fun v w w' ⟨g, hv, h⟩ hE => ⟨g, hv, hE.blk h⟩
theorem SlY.new (w : World) (l : List UInt8) : SlY l (.slice (some ⟨w.heap.size, 0, none⟩) l.length l.length) (w.alloc (.cells (l.map fun c => Value.int .u8 (c.toNat : Int)).toArray 5)) := ⟨_, rfl, hq_at _ _ rfl⟩
theorem SlY.text {l : List UInt8} {v : Value} {w : World} (h : SlY l v w) : ∃ g, v = .slice (some ⟨g, 0, none⟩) l.length l.length ∧ Sem.run Tryd.prog (convert 34 9 (.slice (some ⟨g, 0, none⟩) l.length l.length)) w = .ok (.string (mk l)) w := by
  obtain ⟨g, hv, hb⟩ := h
  refine ⟨g, hv, ?_⟩
  exact run_convert_bytes_back (P := Tryd.prog) w 34 9 5 ⟨g, 0, none⟩ l.length l Tryd.underlying34 Tryd.underlying5 Tryd.underlying9 (fun j hj => by
    rw [show (⟨g, 0, none⟩ : Addr).add j = ⟨g, j, none⟩ by simp [Addr.add] <;> omega, cell_of_row w g j _ _ _ hb]
    simp [hj])
theorem eql_ref_self (s c r : Int) (x y : Bool) (w : World) : Sem.run Tryd.prog (binOp .eql 29 (refV s c r x y) (refV s c r x y)) w = .ok (.bool true) w := by
  rw [eql_ref]; simp
set_option maxHeartbeats 8000000 in
set_option maxRecDepth 100000 in
theorem walk0 (s c r sh : Int) (x y : Bool) (w : World) (hm : MaxI w) :
    Calls Tryd.prog 5 #[refV s c r x y, .int .i64 sh] w fun e w' => e = .returned (.bool true) ∧ Ext w w' := by
  obtain ⟨W1, hW1, hE1, hG1, hL1, hS1⟩ := new_blk w #[.int .i64 s, .int .i64 c, .int .i64 r, .bool x, .bool y] 29
  have HW1 := Lib.hid hW1
  have HE1 := Lib.hid hE1
  have HM := Lib.hid (hm.ext hE1)
  have HG1 := Lib.hid hG1
  have b1 := ext_blk hG1
  have l1 := ext_lt (blk_lt hG1)
  have e0 : CallE Tryd.prog W1 9 #[] (.bool true) := fun w' hE => fit_a w' (HM.out.ext hE)
  have hr := Ext.refl W1
  have d1 := Lib.hid (fun w => lright_any s c r w)
  have d2 := Lib.hid (fun w => aright_any s c r w)
  obtain ⟨i, hi⟩ : ∃ i, insV s c r = i := ⟨_, rfl⟩
  rw [hi] at d1 d2
  have hii : (i != i) = false := by cases i <;> rfl
  clear hW1 hE1 hG1 hL1 hS1 hm
  go_enter Tryd.func5, Tryd.ntmps5
  go_wp2_with fail
  rw [HW1.out]
  clear HW1
  go_upto_region 3 with (first | ((with_reducible refine (CallE.at_ (by assumption) (by assumption)).mono ?_); rintro e w' ⟨rfl, hEx⟩))
  have HX := Lib.hid (HE1.out.trans hEx)
  have b1 := ext_blk (hEx.blk HG1.out)
  have l1 := ext_lt (blk_lt (hEx.blk HG1.out))
  have e1 : CallE Tryd.prog w' _ _ _ := fun w _ => d1.out w
  have e2 : CallE Tryd.prog w' _ _ _ := fun w _ => d2.out w
  have HG2 := Lib.hid (hEx.blk HG1.out)
  have HM2 := Lib.hid (HM.out.ext hEx)
  have hr := Ext.refl w'
  clear hEx e0
  go_wp2_with fail
  refine region_any (by kernel_rfl) (by kernel_rfl) rfl (fun K hK => ?_)
  repeat (first | (refine seqr_skip (by rfl) (fun ρ => by rfl) ?_; (try simp only [Act.put, List.setIfInBounds_toArray, List.set_cons_zero, List.set_cons_succ])) | (refine seqr_pure (v := ?_) (by rfl) (fun ρ => by rfl) (fun ρ w hE hF => ?_) ?_; rotate_left 1; (· ((try simp only [fill, Act.put, List.setIfInBounds_toArray, List.set_cons_zero, List.set_cons_succ]); go_simp; try with_reducible rfl)); (try simp only [Act.put, List.setIfInBounds_toArray, List.set_cons_zero, List.set_cons_succ])) | (refine seqr_call0 (v := ?_) (f := ?_) (args := ?_) (by rfl) (fun ρ => by rfl) (fun ρ w => ?_) (fun w hE => ?_) ?_; rotate_left 3; (· ((try simp only [fill, Act.put, List.setIfInBounds_toArray, List.set_cons_zero, List.set_cons_succ]); go_simp; constructor <;> with_reducible rfl)); (· (with_reducible exact CallE.call (by assumption) hE)); (try simp only [Act.put, List.setIfInBounds_toArray, List.set_cons_zero, List.set_cons_succ])))
  refine seqr_done (fun ρ wN hEN hFN => ?_); (try simp only [fill, Act.put, List.setIfInBounds_toArray, List.set_cons_zero, List.set_cons_succ]); refine (show K _ _ from hK.out _ _ ?_); clear hK K
  have HX3 := Lib.hid (HX.out.trans hEN)
  have HG3 := Lib.hid (hEN.blk HG2.out)
  have HM3 := Lib.hid (HM2.out.ext hEN)
  have b1 := ext_blk HG3.out
  have l1 := ext_lt (blk_lt HG3.out)
  have e1 : CallE Tryd.prog wN _ _ _ := fun w _ => d1.out w
  have hr := Ext.refl wN
  clear hEN e2 hFN
  cases i
  · go_wp2_with (first | ((with_reducible refine (CallE.at_ (by assumption) (by assumption)).mono ?_); rintro e w' ⟨rfl, hEx⟩))
    go_ret
    exact ⟨rfl, HX3.out.trans (by assumption)⟩
  go_upto_region 7 with (first | ((with_reducible refine (CallE.at_ (by assumption) (by assumption)).mono ?_); rintro e w' ⟨rfl, hEx⟩))
  have HX4 := Lib.hid (HX3.out.trans hEx)
  have HG4 := Lib.hid (hEx.blk HG3.out)
  have HM4 := Lib.hid (HM3.out.ext hEx)
  have b1 := ext_blk HG4.out
  have l1 := ext_lt (blk_lt HG4.out)
  obtain ⟨⟨p1, p2⟩, ⟨p3, p4⟩, p5, p6⟩ := ins_bd hi
  obtain ⟨s, rfl⟩ := Int.eq_ofNat_of_zero_le p1
  obtain ⟨c, rfl⟩ := Int.eq_ofNat_of_zero_le p3
  obtain ⟨r, rfl⟩ := Int.eq_ofNat_of_zero_le p5
  have g1 := Lib.hid (fun w => printbody_any s c r x y w (by omega) (by omega) (by omega))
  have g2 := Lib.hid (fun w => printfull_any s c r x y w (by omega) (by omega) (by omega))
  have g3 := Lib.hid (fun w (hm : MaxI w) => parse_body x y s c r w hm (by omega) (by omega) (by omega))
  have g4 := Lib.hid (fun w (hm : MaxI w) => parse_full x y sh s c r w hm (by omega) (by omega) (by omega))
  have g5 := Lib.hid (fun w => aprint_any s c r w (by omega) (by omega) (by omega))
  have g6 := Lib.hid (fun w => printfull_any s c r false false w (by omega) (by omega) (by omega))
  have hsb : (UInt8.ofNat (49 + s)).toNat = 49 + s := by simp [UInt8.toNat_ofNat']; omega
  have hcat : mk [83, UInt8.ofNat (49 + s), 33] ++ mk (bodyL x y c r) = mk (fullL s x y c r) := by
    refine ByteArray.ext ?_
    rw [ByteArray.data_append]
    apply Array.ext'
    simp [mk, fullL]
  have z1 : (mk [83, UInt8.ofNat (49 + s), 33]).size ≤ 3 := by rw [mk_size]; simp
  have z2 : (mk (bodyL x y c r)).size ≤ 5 := by rw [mk_size]; exact body_len x y (by omega)
  have hsb2 : ((UInt8.ofNat (49 + s)).toNat : Int) = 49 + (s : Int) := by omega
  have hw1 : IntKind.i64.wrap (49 + (s : Int)) = 49 + (s : Int) := IntWalk.i64_in _ ⟨by omega, by omega⟩
  have hw2 : IntKind.u8.wrap (49 + (s : Int)) = 49 + (s : Int) := by simp [IntKind.wrap, IntKind.bits, IntKind.signed]; omega
  have hs3 : (s : Int) < 3 := p2
  have q1 := fun w => eql_ref_self s c r x y w
  generalize mk (fullL s x y c r) = T at *
  generalize mk (fullL s false false c r) = T0 at *
  generalize mk (bodyL x y c r) = B at *
  generalize hA : mk [83, UInt8.ofNat (49 + s), 33] = A at *
  have HA := Lib.hid hA
  have HSB := Lib.hid hsb2
  have e1 : CallE Tryd.prog w' _ _ _ := fun w _ => g1.out w
  have e2 : CallE Tryd.prog w' _ _ _ := fun w _ => g2.out w
  have hr := Ext.refl w'
  have HMM := Lib.hid HM4.out
  clear p1 p2 p3 p4 p5 p6 hsb hi d1 d2 hEx hA hsb2 HM HM2 HM3 HM4 HG1 HG2 HG3
  go_wp2_with fail
  refine region_any (by kernel_rfl) (by kernel_rfl) rfl (fun K hK => ?_)
  repeat (first | (refine seqr_skip (by rfl) (fun ρ => by rfl) ?_; (try simp only [Act.put, List.setIfInBounds_toArray, List.set_cons_zero, List.set_cons_succ])) | (refine seqr_pure (v := ?_) (by rfl) (fun ρ => by rfl) (fun ρ w hE hF => ?_) ?_; rotate_left 1; (· ((try simp only [fill, Act.put, List.setIfInBounds_toArray, List.set_cons_zero, List.set_cons_succ]); go_simp; try with_reducible rfl)); (try simp only [Act.put, List.setIfInBounds_toArray, List.set_cons_zero, List.set_cons_succ])) | (refine seqr_call0 (v := ?_) (f := ?_) (args := ?_) (by rfl) (fun ρ => by rfl) (fun ρ w => ?_) (fun w hE => ?_) ?_; rotate_left 3; (· ((try simp only [fill, Act.put, List.setIfInBounds_toArray, List.set_cons_zero, List.set_cons_succ]); go_simp; constructor <;> with_reducible rfl)); (· (with_reducible exact CallE.call (by assumption) hE)); (try simp only [Act.put, List.setIfInBounds_toArray, List.set_cons_zero, List.set_cons_succ])))
  refine seqr_done (fun ρ wN hEN hFN => ?_); (try simp only [fill, Act.put, List.setIfInBounds_toArray, List.set_cons_zero, List.set_cons_succ]); refine (show K _ _ from hK.out _ _ ?_); clear hK K
  have HX5 := Lib.hid (HX4.out.trans hEN)
  have HG5 := Lib.hid (hEN.blk HG4.out)
  have HM5 := Lib.hid (HMM.out.ext hEN)
  have b1 := ext_blk HG5.out
  have l1 := ext_lt (blk_lt HG5.out)
  have e3 : CallE Tryd.prog wN _ _ _ := fun w hE => g3.out w (HM5.out.ext hE)
  have hr := Ext.refl wN
  clear hEN hFN e1 e2
  go_upto_region 9 with (first | ((with_reducible refine (CallE.at_ (by assumption) (by assumption)).mono ?_); rintro e w' ⟨rfl, hEx⟩))
  obtain ⟨W6, hW6, hE6, hG6, hL6, -⟩ := new_blk w' #[.int .i64 s, .int .i64 c, .int .i64 r, .bool x, .bool y] 29
  rw [hW6]
  have E56 := hEx.trans hE6
  have HX6 := Lib.hid (HX5.out.trans E56)
  have HM6 := Lib.hid (HM5.out.ext E56)
  have HG51 := Lib.hid (E56.blk HG5.out)
  have HG6 := Lib.hid hG6
  have b1 := ext_blk HG51.out
  have l1 := ext_lt (blk_lt HG51.out)
  have e4 : CallE Tryd.prog W6 _ _ _ := fun w hE => g4.out w (HM6.out.ext hE)
  have hr := Ext.refl W6
  clear hW6 hE6 hG6 hL6 hEx E56 e3
  go_upto_region 10 with (first | ((with_reducible refine (CallE.at_ (by assumption) (by assumption)).mono ?_); rintro e w' ⟨rfl, hEx⟩))
  obtain ⟨W7, hW7, hE7, hG7, hL7, -⟩ := new_blk w' #[.int .i64 s, .int .i64 c, .int .i64 r, .bool x, .bool y] 29
  rw [hW7]
  have E67 := hEx.trans hE7
  have HX7 := Lib.hid (HX6.out.trans E67)
  have b1 := ext_blk (E67.blk HG51.out)
  have l1 := ext_lt (blk_lt (E67.blk HG51.out))
  have b6 := ext_blk (E67.blk HG6.out)
  have l6 := ext_lt (blk_lt (E67.blk HG6.out))
  have b7 := ext_blk hG7
  have l7 := ext_lt (blk_lt hG7)
  have e5 : CallE Tryd.prog W7 _ _ _ := fun w _ => g5.out w
  have e6 : CallE Tryd.prog W7 _ _ _ := fun w _ => g6.out w
  have hr := Ext.refl W7
  have qT : (T.toList == T.toList) = true := by simp
  have qT0 : (T0.toList == T0.toList) = true := by simp
  clear hW7 hE7 hG7 hL7 hEx E67 e4
  go_wp2_with fail
  refine region_any (by kernel_rfl) (by kernel_rfl) rfl (fun K hK => ?_)
  repeat (first | (refine seqr_skip (by rfl) (fun ρ => by rfl) ?_; (try simp only [Act.put, List.setIfInBounds_toArray, List.set_cons_zero, List.set_cons_succ])) | (refine seqr_pure (v := ?_) (by rfl) (fun ρ => by rfl) (fun ρ w hE hF => ?_) ?_; rotate_left 1; (· ((try simp only [fill, Act.put, List.setIfInBounds_toArray, List.set_cons_zero, List.set_cons_succ]); go_simp; try with_reducible rfl)); (try simp only [Act.put, List.setIfInBounds_toArray, List.set_cons_zero, List.set_cons_succ])) | (refine seqr_call0 (v := ?_) (f := ?_) (args := ?_) (by rfl) (fun ρ => by rfl) (fun ρ w => ?_) (fun w hE => ?_) ?_; rotate_left 3; (· ((try simp only [fill, Act.put, List.setIfInBounds_toArray, List.set_cons_zero, List.set_cons_succ]); go_simp; constructor <;> with_reducible rfl)); (· (with_reducible exact CallE.call (by assumption) hE)); (try simp only [Act.put, List.setIfInBounds_toArray, List.set_cons_zero, List.set_cons_succ])))
  refine seqr_rel (SlY [83, UInt8.ofNat (49 + s), 33]) (SlY.lasts _) rfl (by rfl) (fun ρ => by rfl) (fun ρ w hE hF => ?_) ?_
  · refine outcome_value ?_ (below_alloc1 w _) (SlY.new w [83, UInt8.ofNat (49 + s), 33])
    simp only [List.map_cons, List.map_nil, HSB.out]
    (try simp only [fill, Act.put, List.setIfInBounds_toArray, List.set_cons_zero, List.set_cons_succ])
    go_simp
    try rfl
  (try simp only [Act.put, List.setIfInBounds_toArray, List.set_cons_zero, List.set_cons_succ])
  refine seqr_pure (v := .string A) (by rfl) (fun ρ => by rfl) (fun ρ w hE hF => ?_) ?_
  · obtain ⟨g, hg, hcv⟩ := (hF.get (.head _) (by rfl)).text
    rw [HA.out] at hcv
    (try simp only [fill, Act.put, List.setIfInBounds_toArray, List.set_cons_zero, List.set_cons_succ])
    simp only [hg]
    simp only [List.length_cons, List.length_nil] at hcv ⊢
    go_simp
  (try simp only [Act.put, List.setIfInBounds_toArray, List.set_cons_zero, List.set_cons_succ])
  have hcc : ¬ (A.size + B.size > 9223372036854775807) := by omega
  have hcc2 : A.size + B.size ≤ 9223372036854775807 := by omega
  repeat (first | (refine seqr_skip (by rfl) (fun ρ => by rfl) ?_; (try simp only [Act.put, List.setIfInBounds_toArray, List.set_cons_zero, List.set_cons_succ])) | (refine seqr_pure (v := ?_) (by rfl) (fun ρ => by rfl) (fun ρ w hE hF => ?_) ?_; rotate_left 1; (· ((try simp only [fill, Act.put, List.setIfInBounds_toArray, List.set_cons_zero, List.set_cons_succ]); go_simp; try with_reducible rfl)); (try simp only [Act.put, List.setIfInBounds_toArray, List.set_cons_zero, List.set_cons_succ])) | (refine seqr_call0 (v := ?_) (f := ?_) (args := ?_) (by rfl) (fun ρ => by rfl) (fun ρ w => ?_) (fun w hE => ?_) ?_; rotate_left 3; (· ((try simp only [fill, Act.put, List.setIfInBounds_toArray, List.set_cons_zero, List.set_cons_succ]); go_simp; constructor <;> with_reducible rfl)); (· (with_reducible exact CallE.call (by assumption) hE)); (try simp only [Act.put, List.setIfInBounds_toArray, List.set_cons_zero, List.set_cons_succ])))
  refine seqr_done (fun ρ wN hEN hFN => ?_); (try simp only [fill, Act.put, List.setIfInBounds_toArray, List.set_cons_zero, List.set_cons_succ]); refine (show K _ _ from hK.out _ _ ?_); clear hK K
  go_wp2_with fail
  go_ret
  exact ⟨rfl, HX7.out.trans hEN⟩
theorem walk (a : Rv) (sh : Int) (w : World) (wa : True) (wn : (Lit.int .i64 sh).wf = true) (hm : MaxI w) :
    Calls Tryd.prog 5 #[refV a.s a.c a.r a.x a.y, .int .i64 sh] w fun e w' => e = .returned (.bool true) ∧ Below w.heap.size w w' := walk0 _ _ _ _ _ _ w hm
end Go.Proofs.YtkbcdnndhglnoaaDoor.addrBack
