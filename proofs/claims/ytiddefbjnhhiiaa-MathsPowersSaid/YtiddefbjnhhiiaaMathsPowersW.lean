/-
  MathsPowers: walk. Conditions: the arguments' own.
-/
import Derived.Test.YtiddefbjnhhiiaaMathsE
namespace Go.Proofs.Ytiddefbjnhhiiaa.mathsPowers
open Go.RowKit Num
set_option linter.unusedVariables false
set_option linter.unusedSimpArgs false

theorem powH (b : Int) : powB b 500000 = none := by
  unfold powB
  rw [if_pos (.inl (by decide))]
def wantN : Nat → Int
  | 0 => 1000000
  | k + 1 => wantN k * (k + 1)
theorem want_fact : ∀ k, wantN k = (factN k : Nat) * 1000000 := by
  intro k
  induction k with
  | zero => rfl
  | succ k ih => rw [wantN, ih, factN]; push_cast; rw [Int.mul_right_comm]
theorem fact15 : ∀ j, j < 16 → factN j ≤ 1307674368000 := by decide

set_option maxHeartbeats 1600000 in
set_option maxRecDepth 100000 in
theorem walk (a d : Int) (w : World) (wa : (Lit.int .i64 a).wf = true) (wd : (Lit.int .i64 d).wf = true) :
    Calls Try.prog 4 #[.int .i64 a, .int .i64 d] w fun e w' => e = .returned (.bool true) ∧ Below w.heap.size w w' := by
  have ha := bounds_i64 wa
  have hd := bounds_i64 wd
  clear wa wd
  obtain ⟨b, hb⟩ : ∃ b, rightV a = b := ⟨_, rfl⟩
  have hbm : Mant b := by rw [← hb]; exact rightV_mant ha
  have hrt := fun w => right_any a w
  rw [hb] at hrt
  have HRT := Lib.hid hrt
  have HBM := Lib.hid hbm
  obtain ⟨b1, b2⟩ := hbm
  obtain ⟨m, hm⟩ : ∃ m, d.tmod 70 = m := ⟨_, rfl⟩
  have hmb : -70 < m ∧ m < 70 := by rw [← hm, tmod_if d 70]; split <;> omega
  obtain ⟨x, hx⟩ : ∃ x : Nat, (m + 70) % 70 = (x : Int) := ⟨((m + 70) % 70).toNat, by omega⟩
  have hxb : x < 70 := by omega
  have hx2 : m % 70 = (x : Int) := by omega
  obtain ⟨n, hn⟩ : ∃ n, (x : Int) * 1000000 = n := ⟨_, rfl⟩
  have hnm : Mant n := by unfold Mant; omega
  have hnd : n.tdiv 1000000 = x := by rw [← hn]; exact Int.mul_tdiv_cancel _ (by decide)
  have hnd2 : n.tmod 1000000 = 0 := by rw [← hn]; exact Int.mul_tmod_left _ _
  have hB : powB b n = if 64 < x then none else powO b x := by
    unfold powB
    rw [hnd, hnd2]
    by_cases h : 64 < x
    · rw [if_pos h, if_pos (.inr (.inr (by omega)))]
    · rw [if_neg h, if_neg (by omega), Int.toNat_natCast]
  have hF : x ≤ 15 → factO n = some (wantN x) := by
    intro h
    have h2 := fact15 x (by omega)
    unfold factO
    rw [hnd, if_neg (by omega), Int.toNat_natCast, ofO, if_pos (by omega), want_fact]
  have hc1 := fun w => two_power b n w HBM.out hnm
  have hc2 := fun w => one_fact n w hnm
  rw [hB] at hc1
  have HC1 := Lib.hid hc1
  have HC2 := Lib.hid hc2
  have HF := Lib.hid hF
  have rn : IntKind.i64.wrap n = n := by unfold Mant at hnm; rw [IntKind.wrap_i64]; omega
  clear hrt hb hnd hnd2 hB hF hc1 hc2 hnm
  go_enter Try.func4, Try.ntmps4
  go_wp2_with fail
  refine (fit_any _).mono ?_
  rintro e w1 ⟨rfl, hE1⟩
  go_wp2_with fail
  refine (HRT.out _).mono ?_
  rintro e w2 ⟨rfl, hE2'⟩
  have hE2 := hE1.trans hE2'
  clear hE1 hE2'
  obtain ⟨o, ho⟩ : ∃ o, (if 64 < x then none else powO b x) = o := ⟨_, rfl⟩
  obtain ⟨K, hK⟩ : ∃ K, oK o = K := ⟨_, rfl⟩
  obtain ⟨N, hN⟩ : ∃ N, oN o = N := ⟨_, rfl⟩
  have hc1 := HC1.out
  rw [ho, hK, hN] at hc1
  have HO := Lib.hid ho
  have HK := Lib.hid hK
  have HN := Lib.hid hN
  have HC := Lib.hid hc1
  clear ho hc1 hK hN HC1
  go_wp2_with fail
  refine (HC.out _).mono ?_
  rintro e w3 ⟨rfl, hE3⟩
  have hE3b := hE2.trans hE3
  obtain ⟨W4, hW4, hE4, hX4, hs4⟩ := box_new w3 K N { data := #[] }
  have HW4 := Lib.hid hW4
  have hEw := Ext.trans hE3b hE4
  obtain ⟨x0, x1, x2, x3⟩ := hX4
  simp only at x1 x2 x3
  have d1 := ext_cell x0 x1
  have d2 := ext_cell x0 x2
  have d3 := ext_cell x0 x3
  clear hW4 hE2 hE3 hE3b hE4 hs4 hm
  have e1 : CallE Try.prog W4 12 #[.int .i64 5] (.agg #[.int .i64 4, .int .i64 5, .string { data := #[] }]) := fun w' _ => vfail_any 5 w'
  by_cases h64 : 64 < x
  · have ho := HO.out
    rw [if_pos h64] at ho
    subst ho
    obtain rfl : (4 : Int) = K := HK.out
    obtain rfl : (5 : Int) = N := HN.out
    go_upto_region 7 with (fail)
    rw [HW4.out]
    refine region_any (by kernel_rfl) (by kernel_rfl) rfl (fun K hK => ?_)
    repeat (first | (refine seqr_skip (by rfl) (fun ρ => by rfl) ?_; (try simp only [Act.put, List.setIfInBounds_toArray, List.set_cons_zero, List.set_cons_succ])) | (refine seqr_pure (v := ?_) (by rfl) (fun ρ => by rfl) (fun ρ w hE hF => ?_) ?_; rotate_left 1; (· ((try simp only [fill, Act.put, List.setIfInBounds_toArray, List.set_cons_zero, List.set_cons_succ]); go_simp; try with_reducible rfl)); (try simp only [Act.put, List.setIfInBounds_toArray, List.set_cons_zero, List.set_cons_succ])) | (refine seqr_call0 (v := ?_) (f := ?_) (args := ?_) (by rfl) (fun ρ => by rfl) (fun ρ w => ?_) (fun w hE => ?_) ?_; rotate_left 3; (· ((try simp only [fill, Act.put, List.setIfInBounds_toArray, List.set_cons_zero, List.set_cons_succ]); go_simp; constructor <;> with_reducible rfl)); (· (with_reducible exact CallE.call (by assumption) hE)); (try simp only [Act.put, List.setIfInBounds_toArray, List.set_cons_zero, List.set_cons_succ])))
    refine seqr_done (fun ρ wN hEN hFN => ?_); (try simp only [fill, Act.put, List.setIfInBounds_toArray, List.set_cons_zero, List.set_cons_succ]); refine (show K _ _ from hK.out _ _ ?_); clear hK K
    go_wp2_with fail
    go_ret
    exact ⟨rfl, hEw.trans hEN⟩
  · have ho : Hid (powO b x = o) := by show _ = _; rw [← HO.out, if_neg h64]
    go_wp2_with fail
    rw [HW4.out]
    clear HW4
    go_loopw [6, 7, 29] (fun s6 s7 si wr => ∃ i : Nat, i ≤ x ∧ si = .int .i64 (i : Int) ∧ foldEnd (powO b i) s6 s7 ∧ Ext W4 wr) (fun _ _ si _ => x - (intOf si).toNat)
    case atStart => exact ⟨0, by omega, rfl, .inl ⟨1000000, rfl, by unfold Mant; omega, rfl, rfl⟩, Ext.refl _⟩
    case round =>
      obtain ⟨i, hi, rfl, hfe, hE⟩ := hrel
      by_cases hlt : i < x
      · have hst : Hid (powO b (i + 1) = mulO (powO b i) b) := rfl
        rcases hfe with ⟨s, hs, hsm, rfl, rfl⟩ | ⟨hs, c, rfl, rfl⟩
        · obtain ⟨V, B, hc, hfe⟩ := mul_end s b hsm HBM.out
          have HC := Lib.hid hc
          have HFE : Hid (foldEnd (powO b (i + 1)) (.int .i64 V) (.bool B)) := by show foldEnd _ _ _; rw [hst.out, hs]; exact hfe
          obtain ⟨s1, s2⟩ := hsm
          clear hs hc hfe
          go_wp2_with fail
          refine (HC.out _).mono ?_
          rintro e w5 ⟨rfl, hE5⟩
          go_wp2_with fail
          go_roundw
          case rel => exact ⟨i + 1, by omega, by go_num, HFE.out, hE.trans hE5⟩
          case measure => simp [intOf]; omega
        · have HFE : Hid (foldEnd (powO b (i + 1)) (.int .i64 c) (.bool false)) := by show foldEnd _ _ _; rw [hst.out, hs]; exact .inr ⟨rfl, _, rfl, rfl⟩
          clear hs
          go_wp2_with fail
          go_roundw
          case rel => exact ⟨i + 1, by omega, by go_num, HFE.out, hE⟩
          case measure => simp [intOf]; omega
      · obtain rfl : i = x := by omega
        have hmd := fun w => made_end hfe w
        rw [ho.out, HK.out, HN.out] at hmd
        have HMD := Lib.hid hmd
        obtain ⟨FK, hFK⟩ : ∃ K, oK (factO n) = K := ⟨_, rfl⟩
        obtain ⟨FN, hFN'⟩ : ∃ N, oN (factO n) = N := ⟨_, rfl⟩
        have hc2 := HC2.out
        rw [hFK, hFN'] at hc2
        have HC3 := Lib.hid hc2
        have HFF : Hid (i ≤ 15 → FK = 1 ∧ FN = wantN i) := by
          show _ → _
          intro h
          rw [← hFK, ← hFN', HF.out h]
          exact ⟨rfl, rfl⟩
        clear hmd hfe hc2 hFK hFN' HC2 HF
        go_wp2_with fail
        refine (HC3.out _).mono ?_
        rintro e w5 ⟨rfl, hE5⟩
        obtain ⟨W6, hW6, hE6, hX6, hs6⟩ := box_new w5 FK FN { data := #[] }
        have HW6 := Lib.hid hW6
        clear hW6
        go_wp2_with fail
        rw [HW6.out]
        have hE46 : Ext W4 W6 := (hE.trans hE5).trans hE6
        have g1 := ext_cell (Nat.lt_of_lt_of_le x0 hE46.size) (d1 _ hE46)
        have g2 := ext_cell (Nat.lt_of_lt_of_le x0 hE46.size) (d2 _ hE46)
        have g3 := ext_cell (Nat.lt_of_lt_of_le x0 hE46.size) (d3 _ hE46)
        obtain ⟨y0, y1, y2, y3⟩ := hX6
        simp only at y1 y2 y3
        have g4 := ext_cell y0 y1
        have g5 := ext_cell y0 y2
        have g6 := ext_cell y0 y3
        have e0 : CallE Try.prog W6 12 #[.int .i64 5] (.agg #[.int .i64 4, .int .i64 5, .string { data := #[] }]) := fun w' _ => vfail_any 5 w'
        have e2 : CallE Try.prog W6 15 #[u6, u7] (.agg #[.int .i64 K, .int .i64 N, .string { data := #[] }]) := fun w' _ => HMD.out w'
        have e3 : CallE Try.prog W6 11 #[.string { data := #[80, 79, 87, 69, 82] }, .int .i64 b, .int .i64 500000] (.agg #[.int .i64 4, .int .i64 5, .string { data := #[] }]) := fun w' _ => by
          have := two_power b 500000 w' HBM.out (by unfold Mant; omega)
          rw [powH] at this
          exact this
        have hEw6 := hEw.trans hE46
        clear d1 d2 d3 x1 x2 x3 y1 y2 y3 e1 hE hE5 hE6 hs6 HW6 hx hx2 hn rn
        by_cases h15 : i ≤ 15
        · obtain ⟨rfl, rfl⟩ := HFF.out h15
          go_loop [9, 10] (fun so si => ∃ j : Nat, 1 ≤ j ∧ (j ≤ i ∨ j = 1) ∧ si = .int .i64 ((j + 1 : Nat) : Int) ∧ so = .int .i64 (wantN j)) (fun _ si => i + 2 - (intOf si).toNat)
          case atStart => exact ⟨1, by omega, .inr rfl, rfl, rfl⟩
          case round =>
            obtain ⟨j, hj1, hj2, rfl, rfl⟩ := hrel
            by_cases hlt : j + 1 ≤ i
            · have hfb := fact15 (j + 1) (by omega)
              have hfs : Hid (wantN j * ((j + 1 : Nat) : Int) = wantN (j + 1)) := by show _ = _; rw [wantN]; push_cast; rfl
              have hfb1 : wantN j * ((j + 1 : Nat) : Int) ≤ 1307674368000000000 ∧ 0 ≤ wantN j * ((j + 1 : Nat) : Int) := by rw [hfs.out, want_fact]; omega
              obtain ⟨x', hx'⟩ : ∃ x', ((j + 1 : Nat) : Int) = x' := ⟨_, rfl⟩
              obtain ⟨y', hy'⟩ : ∃ y', wantN j = y' := ⟨_, rfl⟩
              rw [hx', hy'] at hfb1 hfs ⊢
              have hx1 : x' ≤ i := by omega
              have hxx2 : Hid (x' + 1 = ((j + 1 + 1 : Nat) : Int)) := by show _ = _; omega
              have hx3 : 0 ≤ x' := by omega
              have h15' : (i : Int) ≤ 15 := by omega
              obtain ⟨z, hz⟩ : ∃ z, y' * x' = z := ⟨_, rfl⟩
              have rz : IntKind.i64.wrap z = z := by rw [IntKind.wrap_i64]; omega
              have hxj : Hid (x'.toNat = j + 1) := by show _ = _; omega
              have rz2 : wrap64 z = z := by unfold wrap64; omega
              rw [hz] at hfs
              clear hx' hy' hfb hj2 hj1 hfb1
              go_wp2_with fail
              go_round
              case rel => exact ⟨j + 1, by omega, .inl hlt, by rw [← hxx2.out], by rw [← hfs.out]⟩
              case measure =>
                have := hxj.out
                have := hxx2.out
                simp [intOf]; omega
            · have hfk : wantN j = wantN i := by
                rcases Nat.lt_or_ge i j with h | h
                · obtain rfl : j = 1 := by omega
                  obtain rfl : i = 0 := by omega
                  rfl
                · obtain rfl : j = i := by omega
                  rfl
              rw [hfk]
              have hjk : (i : Int) < ((j + 1 : Nat) : Int) := by omega
              have h15' : ¬ (15 : Int) < (i : Int) := by omega
              obtain ⟨q, hq⟩ : ∃ q, wantN i = q := ⟨_, rfl⟩
              rw [hq] at g5 ⊢
              have e4 : CallE Try.prog W6 16 #[.int .i64 q] (.agg #[.int .i64 1, .int .i64 q, .string { data := #[] }]) := fun w' _ => vnum_any q w'
              have d15 : decide ((15 : Int) < (i : Int)) = false := by simp; omega
              clear hfk hq hj2 hlt HFF
              go_wp2_with fail
              refine region_any (by kernel_rfl) (by kernel_rfl) rfl (fun K hK => ?_)
              repeat (first | (refine seqr_skip (by rfl) (fun ρ => by rfl) ?_; (try simp only [Act.put, List.setIfInBounds_toArray, List.set_cons_zero, List.set_cons_succ])) | (refine seqr_pure (v := ?_) (by rfl) (fun ρ => by rfl) (fun ρ w hE hF => ?_) ?_; rotate_left 1; (· ((try simp only [fill, Act.put, List.setIfInBounds_toArray, List.set_cons_zero, List.set_cons_succ]); go_simp; try with_reducible rfl)); (try simp only [Act.put, List.setIfInBounds_toArray, List.set_cons_zero, List.set_cons_succ])) | (refine seqr_call0 (v := ?_) (f := ?_) (args := ?_) (by rfl) (fun ρ => by rfl) (fun ρ w => ?_) (fun w hE => ?_) ?_; rotate_left 3; (· ((try simp only [fill, Act.put, List.setIfInBounds_toArray, List.set_cons_zero, List.set_cons_succ]); go_simp; constructor <;> with_reducible rfl)); (· (with_reducible exact CallE.call (by assumption) hE)); (try simp only [Act.put, List.setIfInBounds_toArray, List.set_cons_zero, List.set_cons_succ])))
              refine seqr_done (fun ρ wN hEN hFN => ?_); (try simp only [fill, Act.put, List.setIfInBounds_toArray, List.set_cons_zero, List.set_cons_succ]); refine (show K _ _ from hK.out _ _ ?_); clear hK K
              go_wp2_with fail
              go_ret
              exact ⟨rfl, hEw6.trans hEN⟩
        · go_loop [9, 10] (fun so si => si = .int .i64 2 ∧ so = .int .i64 1000000) (fun _ _ => 0)
          case atStart => exact ⟨rfl, rfl⟩
          case round =>
            obtain ⟨rfl, rfl⟩ := hrel
            have h15' : (15 : Int) < (i : Int) := by omega
            have h2 : (2 : Int) ≤ (i : Int) := by omega
            have d15 : decide ((15 : Int) < (i : Int)) = true := by simp; omega
            clear HFF
            go_wp2_with fail
            refine region_any (by kernel_rfl) (by kernel_rfl) rfl (fun K hK => ?_)
            repeat (first | (refine seqr_skip (by rfl) (fun ρ => by rfl) ?_; (try simp only [Act.put, List.setIfInBounds_toArray, List.set_cons_zero, List.set_cons_succ])) | (refine seqr_pure (v := ?_) (by rfl) (fun ρ => by rfl) (fun ρ w hE hF => ?_) ?_; rotate_left 1; (· ((try simp only [fill, Act.put, List.setIfInBounds_toArray, List.set_cons_zero, List.set_cons_succ]); go_simp; try with_reducible rfl)); (try simp only [Act.put, List.setIfInBounds_toArray, List.set_cons_zero, List.set_cons_succ])) | (refine seqr_call0 (v := ?_) (f := ?_) (args := ?_) (by rfl) (fun ρ => by rfl) (fun ρ w => ?_) (fun w hE => ?_) ?_; rotate_left 3; (· ((try simp only [fill, Act.put, List.setIfInBounds_toArray, List.set_cons_zero, List.set_cons_succ]); go_simp; constructor <;> with_reducible rfl)); (· (with_reducible exact CallE.call (by assumption) hE)); (try simp only [Act.put, List.setIfInBounds_toArray, List.set_cons_zero, List.set_cons_succ])))
            refine seqr_done (fun ρ wN hEN hFN => ?_); (try simp only [fill, Act.put, List.setIfInBounds_toArray, List.set_cons_zero, List.set_cons_succ]); refine (show K _ _ from hK.out _ _ ?_); clear hK K
            go_wp2_with fail
            go_ret
            exact ⟨rfl, hEw6.trans hEN⟩
end Go.Proofs.Ytiddefbjnhhiiaa.mathsPowers
