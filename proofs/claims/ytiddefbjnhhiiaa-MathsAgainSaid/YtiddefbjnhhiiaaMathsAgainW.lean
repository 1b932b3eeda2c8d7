/-
  MathsAgain: walk. Conditions: the arguments' own.
-/
import Derived.Test.YtiddefbjnhhiiaaMathsE
namespace Go.Proofs.Ytiddefbjnhhiiaa.mathsAgain
open Go.RowKit Num
set_option linter.unusedVariables false
set_option linter.unusedSimpArgs false

theorem rnd_again {a u V : Int} (hu : 1 ≤ u) (h : rndO a u = some V) : rndO V u = some V ∧ Mant V := by
  unfold rndO at h
  split at h
  · cases h
  · rename_i hc
    obtain ⟨Q, hQ⟩ : ∃ Q, rndQ a u = Q := ⟨_, rfl⟩
    rw [hQ] at h hc
    cases h
    have e1 : (Q * u).tdiv u = Q := Int.mul_tdiv_cancel Q (by omega)
    have e2 : (Q * u).tmod u = 0 := Int.mul_tmod_left Q u
    have e3 : rndQ (Q * u) u = Q := by
      unfold rndQ
      rw [e1, e2]
      simp only [Int.lt_irrefl, if_false]
      rw [if_neg (by omega)]
    refine ⟨by unfold rndO; rw [e3, if_neg hc], ?_⟩
    have h1 := Int.ediv_mul_le 9223372036854775807 (b := u) (by omega)
    obtain ⟨m, hm⟩ : ∃ m, (9223372036854775807 : Int) / u = m := ⟨_, rfl⟩
    rw [hm] at h1 hc
    have h5 : Q * u ≤ m * u := Int.mul_le_mul_of_nonneg_right (by omega) (by omega)
    have h6 : -m * u ≤ Q * u := Int.mul_le_mul_of_nonneg_right (by omega) (by omega)
    rw [Int.neg_mul] at h6
    unfold Mant
    omega
theorem rnd_one (a : Int) (h : Mant a) : rndO a 1 = some a := by
  unfold Mant at h
  have e : rndQ a 1 = a := by
    unfold rndQ
    rw [Int.tmod_one, Int.tdiv_one]
    rfl
  unfold rndO
  rw [e, if_neg (by omega), Int.mul_one]
theorem round6 (b : Int) (h : Mant b) : roundO b 6000000 = some b := by
  unfold roundO
  rw [show (6000000 : Int).tdiv 1000000 = 6 by decide, if_neg (by omega)]
  exact rnd_one b h
theorem trunc_again (b : Int) (h : Mant b) : (b - b.tmod 1000000) - (b - b.tmod 1000000).tmod 1000000 = b - b.tmod 1000000 ∧ floO (b - b.tmod 1000000) = some (b - b.tmod 1000000) ∧ Mant (b - b.tmod 1000000) := by
  have hk : ∃ k, b - b.tmod 1000000 = k * 1000000 ∧ Mant (b - b.tmod 1000000) := by
    unfold Mant at *
    rw [tmod_if b _]
    split
    · exact ⟨b / 1000000, by omega, by omega⟩
    · exact ⟨-(-b / 1000000), by omega, by omega⟩
  obtain ⟨k, hk, hm⟩ := hk
  refine ⟨?_, ?_, hm⟩
  · rw [hk, Int.mul_tmod_left]; omega
  · unfold floO
    rw [hk] at hm ⊢
    unfold Mant at hm
    rw [Int.mul_emod_left, if_pos (by omega), Int.sub_zero]

set_option maxHeartbeats 1600000 in
set_option maxRecDepth 100000 in
theorem walk (a d : Int) (w : World) (wa : (Lit.int .i64 a).wf = true) (wd : (Lit.int .i64 d).wf = true) :
    Calls Try.prog 5 #[.int .i64 a, .int .i64 d] w fun e w' => e = .returned (.bool true) ∧ Below w.heap.size w w' := by
  have ha := bounds_i64 wa
  have hd := bounds_i64 wd
  clear wa wd
  obtain ⟨b, hb⟩ : ∃ b, rightV a = b := ⟨_, rfl⟩
  have hbm : Mant b := by rw [← hb]; exact rightV_mant ha
  have hrt := fun w => right_any a w
  rw [hb] at hrt
  have HRT := Lib.hid hrt
  have HBM := Lib.hid hbm
  obtain ⟨b1, b2⟩ := hbm
  obtain ⟨m, hm⟩ : ∃ m, d.tmod 13 = m := ⟨_, rfl⟩
  have hmb : -13 < m ∧ m < 13 := by rw [← hm, tmod_if d 13]; split <;> omega
  obtain ⟨x, hx⟩ : ∃ x, (m + 13) % 13 = x := ⟨_, rfl⟩
  have hxb : 0 ≤ x ∧ x < 13 := by omega
  obtain ⟨n, hn⟩ : ∃ n, (x - 6) * 1000000 = n := ⟨_, rfl⟩
  have hnm : Mant n := by unfold Mant; omega
  have hnd : n.tdiv 1000000 = x - 6 := by rw [← hn]; exact Int.mul_tdiv_cancel _ (by decide)
  obtain ⟨k, hk⟩ : ∃ k : Nat, 6 - (x - 6) = (k : Int) := ⟨(6 - (x - 6)).toNat, by omega⟩
  have hR : ∀ z, roundO z n = rndO z (10 ^ k) := by
    intro z
    unfold roundO
    rw [hnd, if_neg (by omega), show (6 - (x - 6)).toNat = k by omega]
  have hu : (1 : Int) ≤ 10 ^ k := by
    have := Nat.one_le_pow k 10 (by omega)
    have e : ((10 ^ k : Nat) : Int) = (10 : Int) ^ k := by push_cast; rfl
    omega
  have HR := Lib.hid hR
  have HNM := Lib.hid hnm
  have HU := Lib.hid hu
  have hc1 := fun w => two_round b n w HBM.out HNM.out
  rw [HR.out] at hc1
  have HC1 := Lib.hid hc1
  have rn : IntKind.i64.wrap n = n := by unfold Mant at hnm; rw [IntKind.wrap_i64]; omega
  clear hrt hb hnd hR hu hc1 hnm
  go_enter Try.func5, Try.ntmps5
  go_wp2_with fail
  refine (fit_any _).mono ?_
  rintro e w1 ⟨rfl, hE1⟩
  go_wp2_with fail
  refine (HRT.out _).mono ?_
  rintro e w2 ⟨rfl, hE2'⟩
  have hE2 := hE1.trans hE2'
  clear hE1 hE2'
  obtain ⟨o, ho⟩ : ∃ o, rndO b (10 ^ k) = o := ⟨_, rfl⟩
  have hc1 := HC1.out
  rw [ho] at hc1
  have HO := Lib.hid ho
  clear ho
  cases o with
  | none =>
    have HC := Lib.hid hc1
    clear hc1
    go_wp2_with fail
    refine (HC.out _).mono ?_
    rintro e w3 ⟨rfl, hE3⟩
    go_wp2_with fail
    go_ret
    exact ⟨rfl, (hE2.trans hE3).trans (below_alloc _ _)⟩
  | some V =>
    obtain ⟨hV, hVm⟩ := rnd_again HU.out HO.out
    obtain ⟨T1, T2, T3⟩ := trunc_again b HBM.out
    have hc2 := fun w => two_round V n w hVm HNM.out
    rw [HR.out, hV] at hc2
    have hc3 := fun w => one_trunc b w HBM.out
    obtain ⟨t, ht⟩ : ∃ t, b - b.tmod 1000000 = t := ⟨_, rfl⟩
    rw [ht] at T1 T2 T3 hc3
    have hc4 := fun w => one_trunc t w T3
    rw [T1] at hc4
    have hc5 := fun w => one_int t w T3
    rw [T2] at hc5
    have hc6 := fun w => two_round b 6000000 w HBM.out (by unfold Mant; omega)
    rw [round6 b HBM.out] at hc6
    have HC := Lib.hid hc1
    have HC2 := Lib.hid hc2
    have HC3 := Lib.hid hc3
    have HC4 := Lib.hid hc4
    have HC5 := Lib.hid hc5
    have HC6 := Lib.hid hc6
    obtain ⟨V1, V2⟩ := hVm
    clear hc1 hc2 hc3 hc4 hc5 hc6 hV T1 T2 T3 ht
    go_wp2_with fail
    refine (HC.out _).mono ?_
    rintro e w3 ⟨rfl, hE3⟩
    have hE3b := hE2.trans hE3
    obtain ⟨W4, hW4, hE4, hX4, hs4⟩ := box_new w3 1 V { data := #[] }
    have HW4 := Lib.hid hW4
    obtain ⟨x0, x1, x2, x3⟩ := hX4
    simp only at x1 x2 x3
    clear hW4
    go_upto_region 6 with (fail)
    rw [show Value.int IntKind.i64 (oK (some V)) = Value.int IntKind.i64 1 from rfl, show Value.int IntKind.i64 (oN (some V)) = Value.int IntKind.i64 V from rfl, HW4.out]
    go_wp2_with fail
    refine (HC2.out _).mono ?_
    rintro e w5 ⟨rfl, hE5⟩
    obtain ⟨W6, hW6, hE6, hX6, hs6⟩ := box_new w5 1 V { data := #[] }
    have HW6 := Lib.hid hW6
    clear hW6
    go_upto_region 9 with (fail)
    rw [show Value.int IntKind.i64 (oK (some V)) = Value.int IntKind.i64 1 from rfl, show Value.int IntKind.i64 (oN (some V)) = Value.int IntKind.i64 V from rfl, HW6.out]
    go_wp2_with fail
    refine (HC3.out _).mono ?_
    rintro e w7 ⟨rfl, hE7⟩
    obtain ⟨W8, hW8, hE8, hX8, hs8⟩ := box_new w7 1 t { data := #[] }
    have HW8 := Lib.hid hW8
    clear hW8
    have hE48 : Ext W4 W8 := ((Ext.trans hE5 hE6).trans hE7).trans hE8
    have hE68 : Ext W6 W8 := Ext.trans hE7 hE8
    have hEw : Ext w W8 := (Ext.trans hE3b hE4).trans hE48
    obtain ⟨y0, y1, y2, y3⟩ := hX6.step hE68
    obtain ⟨z0, z1, z2, z3⟩ := hX8
    simp only at y1 y2 y3 z1 z2 z3
    have xl := Nat.lt_of_lt_of_le x0 hE48.size
    have d1 := ext_cell xl (ext_cell x0 x1 _ hE48)
    have d2 := ext_cell xl (ext_cell x0 x2 _ hE48)
    have d3 := ext_cell xl (ext_cell x0 x3 _ hE48)
    have d4 := ext_cell y0 y1
    have d5 := ext_cell y0 y2
    have d6 := ext_cell y0 y3
    have d7 := ext_cell z0 z1
    have d8 := ext_cell z0 z2
    have d9 := ext_cell z0 z3
    have e1 : CallE Try.prog W8 14 #[.string { data := #[84, 82, 85, 78, 67] }, .int .i64 t] (.agg #[.int .i64 1, .int .i64 t, .string { data := #[] }]) := fun w' _ => HC4.out w'
    have e2 : CallE Try.prog W8 14 #[.string { data := #[73, 78, 84] }, .int .i64 t] (.agg #[.int .i64 1, .int .i64 t, .string { data := #[] }]) := fun w' _ => HC5.out w'
    have e3 : CallE Try.prog W8 11 #[.string { data := #[82, 79, 85, 78, 68] }, .int .i64 b, .int .i64 6000000] (.agg #[.int .i64 1, .int .i64 b, .string { data := #[] }]) := fun w' _ => HC6.out w'
    have e4 : CallE Try.prog W8 16 #[.int .i64 b] (.agg #[.int .i64 1, .int .i64 b, .string { data := #[] }]) := fun w' _ => vnum_any b w'
    clear hE2 hE3 hE3b hE4 hE5 hE6 hE7 hE8 hX6 hs4 hs6 hs8 x1 x2 x3 y1 y2 y3 z1 z2 z3 HC HC2 HC3 HC1 HO hx hm hn hk rn
    go_upto_region 10 with (fail)
    rw [HW8.out]
    refine region_any (by kernel_rfl) (by kernel_rfl) rfl (fun K hK => ?_)
    repeat (first | (refine seqr_skip (by rfl) (fun ρ => by rfl) ?_; (try simp only [Act.put, List.setIfInBounds_toArray, List.set_cons_zero, List.set_cons_succ])) | (refine seqr_pure (v := ?_) (by rfl) (fun ρ => by rfl) (fun ρ w hE hF => ?_) ?_; rotate_left 1; (· ((try simp only [fill, Act.put, List.setIfInBounds_toArray, List.set_cons_zero, List.set_cons_succ]); go_simp; try with_reducible rfl)); (try simp only [Act.put, List.setIfInBounds_toArray, List.set_cons_zero, List.set_cons_succ])) | (refine seqr_call0 (v := ?_) (f := ?_) (args := ?_) (by rfl) (fun ρ => by rfl) (fun ρ w => ?_) (fun w hE => ?_) ?_; rotate_left 3; (· ((try simp only [fill, Act.put, List.setIfInBounds_toArray, List.set_cons_zero, List.set_cons_succ]); go_simp; constructor <;> with_reducible rfl)); (· (with_reducible exact CallE.call (by assumption) hE)); (try simp only [Act.put, List.setIfInBounds_toArray, List.set_cons_zero, List.set_cons_succ])))
    refine seqr_done (fun ρ wN hEN hFN => ?_); (try simp only [fill, Act.put, List.setIfInBounds_toArray, List.set_cons_zero, List.set_cons_succ]); refine (show K _ _ from hK.out _ _ ?_); clear hK K
    go_wp2_with fail
    go_ret
    exact ⟨rfl, hEw.trans hEN⟩
end Go.Proofs.Ytiddefbjnhhiiaa.mathsAgain
