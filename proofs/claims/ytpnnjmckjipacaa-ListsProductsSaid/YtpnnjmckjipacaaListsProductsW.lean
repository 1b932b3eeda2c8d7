/-
  ListsProducts: walk. Conditions: the arguments' own.
-/
import Derived.Test.YtpnnjmckjipacaaListsG
namespace Go.Proofs.Ytpnnjmckjipacaa.listsProducts
open Go.RowKit Num
set_option linter.unusedVariables false
set_option linter.unusedSimpArgs false

theorem mul_end (x y : Int) (hx : Mant x) (hy : Mant y) : ∃ V B, (∀ w, Calls Try.prog 22 #[.int .i64 x, .int .i64 y] w fun e w' => e = .returned (.tuple #[.int .i64 V, .bool B]) ∧ Ext w w') ∧
    ((B = true ∧ mulO (some x) y = some V ∧ Mant V) ∨ (B = false ∧ mulO (some x) y = none)) := by
  refine ⟨_, _, fun w => mul_any x y w hx hy, ?_⟩
  unfold mulO
  simp only [Option.bind_some]
  by_cases h : mulOk (x.natAbs * y.natAbs) 1000000 = true
  · exact .inl ⟨h, by rw [if_pos h], mulV_bd _ _ _⟩
  · exact .inr ⟨by simpa using h, by rw [if_neg h]⟩

set_option maxHeartbeats 1600000 in
theorem walk (a : Option Addr) (len cap : Nat) (A : List Vl) (a2 : Option Addr) (len2 cap2 : Nat) (B : List Vl) (w : World) (hA : VArg w a len cap A) (hB : VArg w a2 len2 cap2 B) :
    Calls Try.prog 6 #[.slice a len cap, .slice a2 len2 cap2] w fun e w' => e = .returned (.bool true) ∧ Below w.heap.size w w' := by
  go_enter Try.func6, Try.ntmps6
  go_wp2_with fail
  refine (fit_any _).mono ?_
  rintro e w1 ⟨rfl, hb1⟩
  go_wp2_with fail
  refine (light_any a len cap A _ ⟨hA.1.below hb1, hA.2⟩).mono ?_
  rintro e w2 ⟨u, rfl, hb2', hlA⟩
  have hb2 := hb1.th hb2'
  clear hb1 hb2'
  cases u
  · go_wp2
    go_ret
    exact ⟨rfl, hb2⟩
  have hlA := hlA (by trivial)
  have HLA := Lib.hid hlA
  clear hlA
  go_wp2_with fail
  refine (light_any a2 len2 cap2 B _ ⟨hB.1.below hb2, hB.2⟩).mono ?_
  rintro e w3 ⟨u, rfl, hb3', hlB⟩
  have hb3 := hb2.th hb3'
  clear hb2 hb3'
  cases u
  · go_wp2
    go_ret
    exact ⟨rfl, hb3⟩
  have hlB := hlB (by trivial)
  have hmA := light_mants hA HLA.out
  have hmB := light_mants hB hlB
  have h100 := HLA.out.1
  have h100' := hlB.1
  have hvA := hA.1.below hb3
  have hvB := hB.1.below hb3
  have HMA := Lib.hid hmA
  have HMB := Lib.hid hmB
  have hlenA := hA.1.1
  have hlenB := hB.1.1
  clear hlB hmA hmB HLA
  by_cases hne : len = len2
  · subst hne
    have hsp := fun w h => sumproduct_any a len cap A a2 cap2 B w (hvA.below h) (hvB.below h) (by omega) HMA.out HMB.out
    obtain ⟨K, hK⟩ : ∃ K, oK (spT A B len) = K := ⟨_, rfl⟩
    obtain ⟨N, hN⟩ : ∃ N, oN (spT A B len) = N := ⟨_, rfl⟩
    rw [hK, hN] at hsp
    have HSP := Lib.hid hsp
    have HK := Lib.hid hK
    have HN := Lib.hid hN
    clear hsp hK hN
    go_wp2_with fail
    refine (HSP.out _ (Below.refl _ _)).mono ?_
    rintro e w4 ⟨rfl, hb4'⟩
    have hb4 := hb3.th hb4'
    obtain ⟨W, hW, hbW, hXW, hsW⟩ := start_x w4 K N { data := #[] }
    have HW := Lib.hid hW
    have hb5 := hb4.th hbW
    have hA5 := hvA.below (hb4'.th hbW)
    have hB5 := hvB.below (hb4'.th hbW)
    clear hW hb4' hb4 hvA hvB
    go_wp2_with fail
    rw [HW.out]
    clear HW
    go_loopw [33, 9, 6, 7] (fun si sx sn so wr => ∃ (i : Nat), i ≤ len ∧ si = .int .i64 (i : Int) ∧ foldEnd (spT A B i) sn so ∧ Ext W wr) (fun si _ _ _ _ => len - (intOf si).toNat)
    case atStart => exact ⟨0, by omega, rfl, .inl ⟨0, rfl, by unfold Mant; omega, rfl, rfl⟩, Ext.refl _⟩
    case round =>
      obtain ⟨i, hi, rfl, hfe, hbr⟩ := hrel
      obtain ⟨b0, b1, b2, b3⟩ := hXW.step hbr
      simp only at b1 b2 b3
      have c0 := ext_cell b0 b1
      have c1 := ext_cell b0 b2
      have c2 := ext_cell b0 b3
      by_cases hlt : i < len
      · obtain ⟨ba, oa, rfl, hBa, hca⟩ := (hA5.below hbr).2 (by omega)
        obtain ⟨bb, ob, rfl, hBb, hcb⟩ := (hB5.below hbr).2 (by omega)
        obtain ⟨x0, x1, x2⟩ := hca i (by omega)
        obtain ⟨y0, y1, y2⟩ := hcb i (by omega)
        obtain ⟨x, hx⟩ : ∃ v, A.getD i v0 = v := ⟨_, rfl⟩
        obtain ⟨y, hy⟩ : ∃ v, B.getD i v0 = v := ⟨_, rfl⟩
        rw [hx] at x0 x1 x2
        rw [hy] at y0 y1 y2
        have hst : Hid (spT A B (i + 1) = pairO (spT A B i) x y) := by show _ = _; rw [spT, hx, hy]
        have HX : Hid (x ∈ A) := by
          show _ ∈ _
          rw [← hx, List.getD_eq_getElem?_getD, List.getElem?_eq_getElem (by omega)]
          exact List.getElem_mem _
        have HY : Hid (y ∈ B) := by
          show _ ∈ _
          rw [← hy, List.getD_eq_getElem?_getD, List.getElem?_eq_getElem (by omega)]
          exact List.getElem_mem _
        clear hca hcb hx hy
        have cx1 := ext_cell hBa x1
        have cy1 := ext_cell hBb y1
        by_cases hk : x.k = 1 ∧ y.k = 1
        · have tk3 : (x.k != 1) = false := by simp [hk.1]
          have tk4 : (y.k != 1) = false := by simp [hk.2]
          have mx : Mant x.n := HMA.out x.n (by unfold nums; rw [List.mem_map]; exact ⟨x, by rw [List.mem_filter]; exact ⟨HX.out, by simp [hk.1]⟩, rfl⟩)
          have my : Mant y.n := HMB.out y.n (by unfold nums; rw [List.mem_map]; exact ⟨y, by rw [List.mem_filter]; exact ⟨HY.out, by simp [hk.2]⟩, rfl⟩)
          obtain ⟨V, Bo, hcall, hVB⟩ := mul_end x.n y.n mx my
          have e1 : CallE Try.prog wr 22 _ _ := fun w _ => hcall w
          rcases hfe with ⟨s, hs, ⟨hs1, hs2⟩, rfl, rfl⟩ | ⟨hs, c, rfl, rfl⟩
          · have HPO : Hid (spT A B (i + 1) = (mulO (some x.n) y.n).bind fun q => addO (some s) q) := by show _ = _; rw [hst.out, pairO, if_pos hk, hs]; rfl
            clear hs hk hcall
            rcases hVB with ⟨rfl, hm, hVm1, hVm2⟩ | ⟨rfl, hm⟩
            · have HM := Lib.hid hm
              clear hm
              go_wp2_with fail
              refine region_any (by kernel_rfl) (by kernel_rfl) rfl (fun K hK => ?_)
              repeat (first | (refine seqr_skip (by rfl) (fun ρ => by rfl) ?_; (try simp only [Act.put, List.setIfInBounds_toArray, List.set_cons_zero, List.set_cons_succ])) | (refine seqr_pure (v := ?_) (by rfl) (fun ρ => by rfl) (fun ρ w hE hF => ?_) ?_; rotate_left 1; (· ((try simp only [fill, Act.put, List.setIfInBounds_toArray, List.set_cons_zero, List.set_cons_succ]); go_simp; try with_reducible rfl)); (try simp only [Act.put, List.setIfInBounds_toArray, List.set_cons_zero, List.set_cons_succ])) | (refine seqr_call0 (v := ?_) (f := ?_) (args := ?_) (by rfl) (fun ρ => by rfl) (fun ρ w => ?_) (fun w hE => ?_) ?_; rotate_left 3; (· ((try simp only [fill, Act.put, List.setIfInBounds_toArray, List.set_cons_zero, List.set_cons_succ]); go_simp; constructor <;> with_reducible rfl)); (· (with_reducible exact CallE.call (by assumption) hE)); (try simp only [Act.put, List.setIfInBounds_toArray, List.set_cons_zero, List.set_cons_succ])))
              refine seqr_done (fun ρ wN hEN hFN => ?_); (try simp only [fill, Act.put, List.setIfInBounds_toArray, List.set_cons_zero, List.set_cons_succ]); refine (show K _ _ from hK.out _ _ ?_); clear hK K
              clear e1 cx1 cy1 x0 x1 x2 y0 y1 y2 c0 c1 c2 b0 b1 b2 b3
              by_cases hf : -9223372036854775807 ≤ s + V ∧ s + V ≤ 9223372036854775807
              · have hst2 : Hid (spT A B (i + 1) = some (s + V)) := by show _ = _; rw [HPO.out, HM.out]; exact if_pos (decide_eq_true hf)
                have HF := Lib.hid hf
                clear hf
                go_wp2_with fail
                refine (add_yes s V _ ⟨hs1, hs2⟩ ⟨hVm1, hVm2⟩ HF.out).mono ?_
                rintro e w' ⟨rfl, rfl⟩
                go_wp2_with fail
                go_roundw
                case rel => exact ⟨i + 1, by omega, by go_num, .inl ⟨_, hst2.out, HF.out, rfl, rfl⟩, hbr.trans hEN⟩
                case measure => simp [intOf]; omega
              · have hst2 : Hid (spT A B (i + 1) = none) := by show _ = _; rw [HPO.out, HM.out]; exact if_neg (by unfold fitI; simpa using hf)
                have HF := Lib.hid hf
                clear hf
                go_wp2_with fail
                refine (add_no s V _ ⟨hs1, hs2⟩ ⟨hVm1, hVm2⟩ HF.out).mono ?_
                rintro e w' ⟨c, rfl, rfl⟩
                go_wp2_with fail
                go_roundw
                case rel => exact ⟨i + 1, by omega, by go_num, .inr ⟨hst2.out, _, rfl, rfl⟩, hbr.trans hEN⟩
                case measure => simp [intOf]; omega
            · have hst2 : Hid (spT A B (i + 1) = none) := by show _ = _; rw [HPO.out, hm]; rfl
              clear hm
              go_wp2_with fail
              refine region_any (by kernel_rfl) (by kernel_rfl) rfl (fun K hK => ?_)
              repeat (first | (refine seqr_skip (by rfl) (fun ρ => by rfl) ?_; (try simp only [Act.put, List.setIfInBounds_toArray, List.set_cons_zero, List.set_cons_succ])) | (refine seqr_pure (v := ?_) (by rfl) (fun ρ => by rfl) (fun ρ w hE hF => ?_) ?_; rotate_left 1; (· ((try simp only [fill, Act.put, List.setIfInBounds_toArray, List.set_cons_zero, List.set_cons_succ]); go_simp; try with_reducible rfl)); (try simp only [Act.put, List.setIfInBounds_toArray, List.set_cons_zero, List.set_cons_succ])) | (refine seqr_call0 (v := ?_) (f := ?_) (args := ?_) (by rfl) (fun ρ => by rfl) (fun ρ w => ?_) (fun w hE => ?_) ?_; rotate_left 3; (· ((try simp only [fill, Act.put, List.setIfInBounds_toArray, List.set_cons_zero, List.set_cons_succ]); go_simp; constructor <;> with_reducible rfl)); (· (with_reducible exact CallE.call (by assumption) hE)); (try simp only [Act.put, List.setIfInBounds_toArray, List.set_cons_zero, List.set_cons_succ])))
              refine seqr_done (fun ρ wN hEN hFN => ?_); (try simp only [fill, Act.put, List.setIfInBounds_toArray, List.set_cons_zero, List.set_cons_succ]); refine (show K _ _ from hK.out _ _ ?_); clear hK K
              clear e1 cx1 cy1 x0 x1 x2 y0 y1 y2 c0 c1 c2 b0 b1 b2 b3
              go_wp2_with fail
              go_roundw
              case rel => exact ⟨i + 1, by omega, by go_num, .inr ⟨hst2.out, _, rfl, rfl⟩, hbr.trans hEN⟩
              case measure => simp [intOf]; omega
          · have hst2 : Hid (spT A B (i + 1) = none) := by show _ = _; rw [hst.out, hs, pairO, if_pos hk]; rfl
            clear hs hk hVB hcall e1 cx1 cy1
            go_wp2_with fail
            go_roundw
            case rel => exact ⟨i + 1, by omega, by go_num, .inr ⟨hst2.out, _, rfl, rfl⟩, hbr⟩
            case measure => simp [intOf]; omega
        · have hpn : Hid (spT A B (i + 1) = spT A B i) := by show _ = _; rw [hst.out, pairO, if_neg hk]
          have hfe' : Hid (∀ sn so, foldEnd (spT A B i) sn so → foldEnd (spT A B (i + 1)) sn so) := by show ∀ _ _, _; intro sn so h; rw [hpn.out]; exact h
          have HFE := Lib.hid hfe
          clear hfe
          rcases Classical.em (x.k = 1) with hx1 | hx1
          · have tk1 : (x.k != 1) = false := by simp [hx1]
            have tk2 : (y.k != 1) = true := by simp; exact fun h => hk ⟨hx1, h⟩
            clear hk hx1 cx1 cy1
            go_wp2_with fail
            go_roundw
            case rel => exact ⟨i + 1, by omega, by go_num, hfe'.out _ _ HFE.out, hbr⟩
            case measure => simp [intOf]; omega
          · have tk1 : (x.k != 1) = true := by simpa using hx1
            clear hk hx1 cx1 cy1
            go_wp2_with fail
            go_roundw
            case rel => exact ⟨i + 1, by omega, by go_num, hfe'.out _ _ HFE.out, hbr⟩
            case measure => simp [intOf]; omega
      · obtain rfl : i = len := by omega
        have e1 : CallE Try.prog wr 24 _ _ := fun w _ => made_end hfe w
        rw [HK.out, HN.out] at e1
        have hbe := hb5.th hbr
        go_wp2_with fail
        refine region_any (by kernel_rfl) (by kernel_rfl) rfl (fun K hK => ?_)
        repeat (first | (refine seqr_skip (by rfl) (fun ρ => by rfl) ?_; (try simp only [Act.put, List.setIfInBounds_toArray, List.set_cons_zero, List.set_cons_succ])) | (refine seqr_pure (v := ?_) (by rfl) (fun ρ => by rfl) (fun ρ w hE hF => ?_) ?_; rotate_left 1; (· ((try simp only [fill, Act.put, List.setIfInBounds_toArray, List.set_cons_zero, List.set_cons_succ]); go_simp; try with_reducible rfl)); (try simp only [Act.put, List.setIfInBounds_toArray, List.set_cons_zero, List.set_cons_succ])) | (refine seqr_call0 (v := ?_) (f := ?_) (args := ?_) (by rfl) (fun ρ => by rfl) (fun ρ w => ?_) (fun w hE => ?_) ?_; rotate_left 3; (· ((try simp only [fill, Act.put, List.setIfInBounds_toArray, List.set_cons_zero, List.set_cons_succ]); go_simp; constructor <;> with_reducible rfl)); (· (with_reducible exact CallE.call (by assumption) hE)); (try simp only [Act.put, List.setIfInBounds_toArray, List.set_cons_zero, List.set_cons_succ])))
        refine seqr_done (fun ρ wN hEN hFN => ?_); (try simp only [fill, Act.put, List.setIfInBounds_toArray, List.set_cons_zero, List.set_cons_succ]); refine (show K _ _ from hK.out _ _ ?_); clear hK K
        go_wp2_with fail
        go_ret
        exact ⟨rfl, hbe.th hEN⟩
  · have hne' : ((len : Int) != (len2 : Int)) = true := by simp; omega
    have hsp := fun w => sumproduct_ne a len cap a2 len2 cap2 w hne
    have HSP := Lib.hid hsp
    clear hsp hne
    go_wp2_with fail
    refine (HSP.out _).mono ?_
    rintro e w4 ⟨rfl, hb4'⟩
    have hb4 := hb3.th hb4'
    obtain ⟨W, hW, hbW, hXW, hsW⟩ := start_x w4 4 2 { data := #[] }
    have HW := Lib.hid hW
    have hb5 := hb4.th hbW
    clear hW hb4' hb4 hvA hvB HSP
    obtain ⟨b0, b1, b2, b3⟩ := hXW
    simp only at b1 b2 b3
    have c0 := ext_cell b0 b1
    have c1 := ext_cell b0 b2
    have c2 := ext_cell b0 b3
    have e1 : CallE Try.prog W 18 _ _ := fun w _ => vfail_any 2 w
    go_wp2_with fail
    rw [HW.out]
    refine region_any (by kernel_rfl) (by kernel_rfl) rfl (fun K hK => ?_)
    repeat (first | (refine seqr_skip (by rfl) (fun ρ => by rfl) ?_; (try simp only [Act.put, List.setIfInBounds_toArray, List.set_cons_zero, List.set_cons_succ])) | (refine seqr_pure (v := ?_) (by rfl) (fun ρ => by rfl) (fun ρ w hE hF => ?_) ?_; rotate_left 1; (· ((try simp only [fill, Act.put, List.setIfInBounds_toArray, List.set_cons_zero, List.set_cons_succ]); go_simp; try with_reducible rfl)); (try simp only [Act.put, List.setIfInBounds_toArray, List.set_cons_zero, List.set_cons_succ])) | (refine seqr_call0 (v := ?_) (f := ?_) (args := ?_) (by rfl) (fun ρ => by rfl) (fun ρ w => ?_) (fun w hE => ?_) ?_; rotate_left 3; (· ((try simp only [fill, Act.put, List.setIfInBounds_toArray, List.set_cons_zero, List.set_cons_succ]); go_simp; constructor <;> with_reducible rfl)); (· (with_reducible exact CallE.call (by assumption) hE)); (try simp only [Act.put, List.setIfInBounds_toArray, List.set_cons_zero, List.set_cons_succ])))
    refine seqr_done (fun ρ wN hEN hFN => ?_); (try simp only [fill, Act.put, List.setIfInBounds_toArray, List.set_cons_zero, List.set_cons_succ]); refine (show K _ _ from hK.out _ _ ?_); clear hK K
    go_wp2_with fail
    go_ret
    exact ⟨rfl, hb5.th hEN⟩
end Go.Proofs.Ytpnnjmckjipacaa.listsProducts
