/-
  AddrAny: walk. Conditions: the arguments' own.
-/
import Derived.Test.YtkbcdnndhglnoaaDoorAddrI
import Derived.Test.YtkbcdnndhglnoaaDoorAddrE
namespace Go.Proofs.YtkbcdnndhglnoaaDoor.addrAny
open Go.RowKit
set_option linter.unusedVariables false
set_option linter.unusedSimpArgs false

theorem tm (sh : Int) (h : -9223372036854775808 ≤ sh) (h' : sh ≤ 9223372036854775807) : ∃ q : Int, ∃ m : Nat, sh.tmod 3 = q ∧ IntKind.i64.wrap (q + 3) = q + 3 ∧ (q + 3).tmod 3 = (m : Int) ∧ m < 3 ∧ -3 < q ∧ q < 3 := by
  obtain ⟨q, hq⟩ : ∃ q, sh.tmod 3 = q := ⟨_, rfl⟩
  have h1 : -3 < q ∧ q < 3 := by
    rw [← hq]
    rcases Int.le_total 0 sh with hs | hs
    · rw [Int.tmod_eq_emod_of_nonneg hs]; omega
    · have e : sh.tmod 3 = -((-sh) % 3) := by rw [← Int.tmod_eq_emod_of_nonneg (show 0 ≤ -sh by omega), Int.neg_tmod, Int.neg_neg]
      rw [e]; omega
  have h2 : (q + 3).tmod 3 = (q + 3) % 3 := Int.tmod_eq_emod_of_nonneg (by omega)
  refine ⟨q, ((q + 3) % 3).toNat, hq, IntWalk.i64_in _ ⟨by omega, by omega⟩, ?_, ?_, h1.1, h1.2⟩ <;> omega
theorem eq_mk {s : ByteArray} {l : List UInt8} (h : s.data.toList = l) : s = mk l := ByteArray.ext (Array.ext' (by rw [mk_list]; exact h))
theorem full_ne (s c r : Nat) (x y x' y' : Bool) (c' r' : Nat) (hc : c' < 26) (hr : r' < 99) : fullL s x y c r ≠ bodyL x' y' c' r' := fun e => body_no x' y' hc hr (by rw [← e]; exact List.mem_cons_of_mem _ (List.mem_cons_of_mem _ List.mem_cons_self))
theorem mk_eq_ne {l l' : List UInt8} (h : l ≠ l') : ((mk l).toList == (mk l').toList) = false := by
  rw [Lib.toList_data, Lib.toList_data, mk_list, mk_list, beq_eq_false_iff_ne]
  exact h
theorem mk_eq_self (l : List UInt8) : ((mk l).toList == (mk l).toList) = true := by simp
theorem ins_true {s c r : Nat} (hs : s < 3) (hc : c < 26) (hr : r < 99) : insV (s : Int) (c : Int) (r : Int) = true := by simp only [insV, Bool.and_eq_true, decide_eq_true_eq]; omega
theorem eql_zero (w : World) : Sem.run Tryd.prog (binOp .eql 29 (refV 0 0 0 false false) (refV 0 0 0 false false)) w = .ok (.bool true) w := by rw [eql_ref]; simp
theorem body_bare {s c r : Nat} {x y : Bool} {e : Ending} (hs : s < 3) (hc : c < 26) (hr : r < 99) (h : ∃ ref b, e = .returned (.tuple #[ref, .bool b]) ∧ Snd (mk (bodyL x y c r)).data.toList (-1) ref b) : e = .returned (.tuple #[refV 0 0 0 false false, .bool false]) := by
  obtain ⟨ref, b, rfl, ⟨rfl, rfl⟩ | ⟨rfl, s', c', r', x', y', -, -, h | ⟨h, -⟩⟩⟩ := h
  · rfl
  · rw [mk_list] at h
    exact absurd h.symm (full_ne s' c' r' x' y' x y c r hc hr)
  · omega
set_option maxHeartbeats 8000000 in
set_option maxRecDepth 100000 in
theorem walk0 (S : ByteArray) (sh : Int) (w : World) (hm : EnvP w) (hlo : -9223372036854775808 ≤ sh) (hhi : sh ≤ 9223372036854775807) :
    Calls Tryd.prog 4 #[.string S, .int .i64 sh] w fun e w' => e = .returned (.bool true) ∧ Ext w w' := by
  have HM := Lib.hid hm
  have e0 : CallE Tryd.prog w 9 #[] (.bool true) := fun w' hE => fit_a w' (HM.out.max.ext hE)
  have hr := Ext.refl w
  obtain ⟨q, m, hq1, hq2, hq3, hq4, hq5, hq6⟩ := tm sh hlo hhi
  clear hm hlo hhi
  by_cases hz : 100 < S.size
  · have hz' : (100 : Int) < (S.size : Int) := by omega
    go_enter Tryd.func4, Tryd.ntmps4
    go_wp2_with (first | ((with_reducible refine (CallE.at_ (by assumption) (by assumption)).mono ?_); rintro e w' ⟨rfl, hEx⟩))
    go_ret
    exact ⟨rfl, by assumption⟩
  have hz' : (S.size : Int) ≤ 100 := by omega
  have HS := Lib.hid (fun w hE => parse_sound S (m : Int) w (by omega) hE)
  have HS2 := Lib.hid (fun w hE => parse_sound S (-1) w (by omega) hE)
  clear hz
  go_enter Tryd.func4, Tryd.ntmps4
  go_upto_region 6 with (first | ((with_reducible refine (CallE.at_ (by assumption) (by assumption)).mono ?_); rintro e w' ⟨rfl, hEx⟩))
  have HM1 := Lib.hid (HM.out.ext hEx)
  have HX1 := Lib.hid hEx
  clear hr hEx e0 HM
  go_wp2_with fail
  refine (HS.out _ HM1.out).mono ?_
  rintro e w2 ⟨⟨ref, b, rfl, hS⟩, hE2⟩
  have HM2 := Lib.hid (HM1.out.ext hE2)
  have HX2 := Lib.hid (HX1.out.trans hE2)
  clear hE2 HS HM1 HX1
  rcases hS with ⟨rfl, rfl⟩ | ⟨rfl, s, c, r, x, y, ⟨hs, hc, hr⟩, rfl, ht⟩
  · have q1 := eql_zero
    go_wp2_with fail
    go_ret
    exact ⟨rfl, ext_alloc HX2.out _⟩
  · obtain ⟨W3, hW3, hE3, hG3, hL3, hS3⟩ := new_blk w2 #[.int .i64 s, .int .i64 c, .int .i64 r, .bool x, .bool y] 29
    have HM3 := Lib.hid (HM2.out.ext hE3)
    have HX3 := Lib.hid (HX2.out.trans hE3)
    have HG3 := Lib.hid hG3
    have HW3 := Lib.hid hW3
    clear hW3 hE3 hG3 hL3 hS3 HM2 HX2
    go_upto_region 7 with (fail)
    rw [HW3.out]
    clear HW3
    have ci := ins_true hs hc hr
    have d1 := lright_any (s : Int) (c : Int) (r : Int)
    rw [ci] at d1
    have D1 := Lib.hid d1
    have g1 := Lib.hid (fun w => printbody_any s c r x y w hs hc hr)
    have g2 := Lib.hid (fun w => printfull_any s c r x y w hs hc hr)
    clear d1 ci
    rcases ht with ht | ⟨htm, ht⟩
    · obtain rfl := eq_mk ht
      have P2 := Lib.hid (fun w (hE : EnvP w) => parse_full x y (-1) s c r w hE.max hs hc hr)
      clear HS2 ht
      go_wp2_with fail
      refine (P2.out _ HM3.out).mono ?_
      rintro e w4 ⟨rfl, hE4⟩
      obtain ⟨W5, hW5, hE5, hG5, hL5, hS5⟩ := new_blk w4 #[.int .i64 s, .int .i64 c, .int .i64 r, .bool x, .bool y] 29
      have h35 := hE4.trans hE5
      have HX5 := Lib.hid (HX3.out.trans h35)
      have b1 := ext_blk (h35.blk HG3.out)
      have l1 := ext_lt (blk_lt (h35.blk HG3.out))
      have HW5 := Lib.hid hW5
      clear hW5 hE4 hE5 hG5 hL5 hS5 h35 HM3 P2 HX3
      go_upto_region 10 with (fail)
      rw [HW5.out]
      clear HW5
      have e1 : CallE Tryd.prog W5 _ _ _ := fun w _ => D1.out w
      have e2 : CallE Tryd.prog W5 _ _ _ := fun w _ => g1.out w
      have e3 : CallE Tryd.prog W5 _ _ _ := fun w _ => g2.out w
      have q1 := mk_eq_ne (full_ne s c r x y x y c r hc hr)
      have q2 := mk_eq_self (fullL s x y c r)
      have hr := Ext.refl W5
      go_wp2_with (first | ((with_reducible refine (CallE.at_ (by assumption) (by assumption)).mono ?_); rintro e w' ⟨rfl, hEx⟩))
      go_ret
      exact ⟨rfl, HX5.out.trans (by assumption)⟩
    · obtain rfl := eq_mk ht
      have P2 : Hid (∀ w, EnvP w → Calls Tryd.prog 12 #[.string (mk (bodyL x y c r)), .int .i64 (-1)] w fun e w' => e = .returned (.tuple #[refV 0 0 0 false false, .bool false]) ∧ Ext w w') :=
        Lib.hid (fun w hE => (HS2.out w hE).mono fun e w' ⟨h, hE'⟩ => ⟨body_bare hs hc hr h, hE'⟩)
      clear HS2 ht
      go_wp2_with fail
      refine (P2.out _ HM3.out).mono ?_
      rintro e w4 ⟨rfl, hE4⟩
      obtain ⟨W5, hW5, hE5, hG5, hL5, hS5⟩ := new_blk w4 #[.int .i64 0, .int .i64 0, .int .i64 0, .bool false, .bool false] 29
      have h35 := hE4.trans hE5
      have HX5 := Lib.hid (HX3.out.trans h35)
      have b1 := ext_blk (h35.blk HG3.out)
      have l1 := ext_lt (blk_lt (h35.blk HG3.out))
      have HW5 := Lib.hid hW5
      clear hW5 hE4 hE5 hG5 hL5 hS5 h35 HM3 P2 HX3
      go_upto_region 10 with (fail)
      rw [HW5.out]
      clear HW5
      have e1 : CallE Tryd.prog W5 _ _ _ := fun w _ => D1.out w
      have e2 : CallE Tryd.prog W5 _ _ _ := fun w _ => g1.out w
      have q2 := mk_eq_self (bodyL x y c r)
      have hr := Ext.refl W5
      go_wp2_with (first | ((with_reducible refine (CallE.at_ (by assumption) (by assumption)).mono ?_); rintro e w' ⟨rfl, hEx⟩))
      go_ret
      exact ⟨rfl, HX5.out.trans (by assumption)⟩
theorem walk (s : ByteArray) (sh : Int) (w : World) (ws : s.size ≤ 9223372036854775807) (wn : (Lit.int .i64 sh).wf = true) (hm : EnvP w) :
    Calls Tryd.prog 4 #[.string s, .int .i64 sh] w fun e w' => e = .returned (.bool true) ∧ Below w.heap.size w w' :=
  walk0 s sh w hm (bounds_i64 wn).1 (bounds_i64 wn).2
end Go.Proofs.YtkbcdnndhglnoaaDoor.addrAny
