/-
  tree: Same: walk. Conditions: each theorem's own.
-/
import Derived.Test.YtdfgobnmcngkmaaDoorTreeP
import Derived.Test.YtdfgobnmcngkmaaDoorRegion
import Derived.Deep.CutBlock
import Derived.Deep.DeepCutAuto
namespace Go.Proofs.YtdfgobnmcngkmaaDoor
open Go.RowKit
set_option linter.unusedVariables false
set_option linter.unusedSimpArgs false

theorem not_b {x b : Bool} (h : (!x) = b) : x = !b := by cases x <;> cases b <;> simp_all
theorem exec_load_at {P : Program} {o : Oper} {a : Act} {w : World} (ty : TypeId) (x : Operand) (ho : o.op = .load ty x) {g off : Nat} (hx : a.eval x = .pointer (some ⟨g, off, none⟩)) {cs : Array Value} {d : TypeDesc} (hc : ∀ (j : Nat) v, cs[j]? = some v → w.cell? ⟨g, off + j, none⟩ = some v)
    (hu : P.underlying ty = some d) (hd : (match d with | .struct _ | .array _ _ => true | _ => false) = true) (hi : (P.info? ty).map (·.size) = some cs.size) : (execOp a.eval o).run P w = .ok (.value (.agg cs)) w := by
  unfold execOp
  simp only [ho, hx, Instr.loadAt, Instr.sureAddr, Sem.run_bind, Sem.run_pure, Result.andThen_ok, run_loadVar_at w g off ty cs d hc hu hd hi]
set_option maxRecDepth 100000 in
set_option maxHeartbeats 8000000 in
theorem same_any (n : Nat) : ∀ (t t' : Tr) (f f' : Fl) (B : Nat → Prop) (W : World), sizeT t ≤ n → Rep W B t f → Rep W B t' f' →
    Calls Tryd.prog 10 #[f.val, f'.val] W fun e w' => e = .returned (.bool (sameT t t')) ∧ Ext W w' := by
  induction n with
  | zero =>
    rintro ⟨s, l⟩ t' f f' B W h
    simp only [sizeT] at h
    omega
  | succ n ih =>
    rintro t t' f f' B W hsz ⟨s, ts, p, cap, fs, ho, hn, hl, hs, hk⟩ ⟨s', ts', p', cap', fs', ho', hn', hl', hs', hk'⟩
    have hSZ : sizeT (.mk s ts) = 1 + sizeL ts := by simp only [sizeT]
    rw [hSZ] at hsz
    clear hSZ
    obtain ⟨N, hN⟩ : ∃ N, ts.length = N := ⟨_, rfl⟩
    obtain ⟨N', hN'⟩ : ∃ N, ts'.length = N := ⟨_, rfl⟩
    have hST : sameT (.mk s ts) (.mk s' ts') = (eqS s s' && (N == N') && sameL ts ts') := by simp only [sameT, hN, hN']
    have HST := Lib.hid hST
    rw [hN] at hn ⊢
    rw [hN'] at hn' ⊢
    clear hST
    obtain ⟨k, op, vk, vn, vs, ⟨u1, u2, u3, u4, u5⟩, ⟨v1, v2, v3, v4, v5⟩, nm⟩ := s
    obtain ⟨k', op', vk', vn', vs', ⟨u1', u2', u3', u4', u5'⟩, ⟨v1', v2', v3', v4', v5'⟩, nm'⟩ := s'
    obtain ⟨W1, hW1, hE1, hG1, hL1, hS1⟩ := new_blk W #[.int .i64 k, .int .i64 op, .int .i64 vk, .int .i64 vn, .string vs, .int .i64 u1, .int .i64 u2, .int .i64 u3, .bool u4, .bool u5,
      .int .i64 v1, .int .i64 v2, .int .i64 v3, .bool v4, .bool v5, .string nm, .slice p N cap] 33
    obtain ⟨W2, hW2, hE2, hG2, hL2, hS2⟩ := new_blk W1 #[.int .i64 k', .int .i64 op', .int .i64 vk', .int .i64 vn', .string vs', .int .i64 u1', .int .i64 u2', .int .i64 u3', .bool u4', .bool u5',
      .int .i64 v1', .int .i64 v2', .int .i64 v3', .bool v4', .bool v5', .string nm', .slice p' N' cap'] 33
    rw [hS1] at hG2
    have HW1 := Lib.hid hW1
    have HW2 := Lib.hid hW2
    have HE2 := Lib.hid (hE1.trans hE2)
    have HB1 := Lib.hid (hE2.blk hG1)
    have HB2 := Lib.hid hG2
    have HK := Lib.hid hk
    have HS := Lib.hid hs
    have HL := Lib.hid hl
    have HKb := Lib.hid hk'
    have HSb := Lib.hid hs'
    have HLb := Lib.hid hl'
    have HSZ := Lib.hid hsz
    have HIH := Lib.hid ih
    have HN := Lib.hid hN
    have HNb := Lib.hid hN'
    have hNi : (N : Int) ≤ 1000 := by omega
    have hNi' : (N' : Int) ≤ 1000 := by omega
    have b1 := ext_blk (hE2.blk hG1)
    have b2 := ext_blk hG2
    have l1 := ext_lt (blk_lt (hE2.blk hG1))
    have l2 := ext_lt (blk_lt hG2)
    have hr := Ext.refl W2
    clear ho ho' hW1 hW2 hE1 hE2 hG1 hG2 hL1 hL2 hS1 hS2 hk hs hl hk' hs' hl' hsz ih hN hN' hn hn'
    change Calls _ _ #[.agg #[.int .i64 k, .int .i64 op, .int .i64 vk, .int .i64 vn, .string vs, .int .i64 u1, .int .i64 u2, .int .i64 u3, .bool u4, .bool u5,
      .int .i64 v1, .int .i64 v2, .int .i64 v3, .bool v4, .bool v5, .string nm, .slice p N cap], .agg #[.int .i64 k', .int .i64 op', .int .i64 vk', .int .i64 vn', .string vs', .int .i64 u1', .int .i64 u2', .int .i64 u3', .bool u4', .bool u5',
      .int .i64 v1', .int .i64 v2', .int .i64 v3', .bool v4', .bool v5', .string nm', .slice p' N' cap']] W _
    go_enter Tryd.func10, Tryd.ntmps10
    go_upto_region 1 with (fail)
    rw [HW1.out, HW2.out]
    clear HW1 HW2
    obtain ⟨bb0, hbb0⟩ : ∃ b, (!(eqS ⟨k, op, vk, vn, vs, ⟨u1, u2, u3, u4, u5⟩, ⟨v1, v2, v3, v4, v5⟩, nm⟩ ⟨k', op', vk', vn', vs', ⟨u1', u2', u3', u4', u5'⟩, ⟨v1', v2', v3', v4', v5'⟩, nm'⟩ && (N == N'))) = b := ⟨_, rfl⟩
    have HBB0 := Lib.hid hbb0
    clear hbb0
    go_cut [54] (fun s54 wx => s54 = .bool bb0 ∧ wx = W2)
    case first =>
      have qV := fun w => neq_val vk vn vk' vn' vs vs' w
      have qA := fun w => neq_refw u1 u2 u3 u1' u2' u3' u4 u5 u4' u5' w
      have qB := fun w => neq_refw v1 v2 v3 v1' v2' v3' v4 v5 v4' v5' w
      by_cases h0 : k = k'
      case neg =>
        have q0 : (k == k') = false := by simpa using h0
        obtain rfl : bb0 = true := by rw [← HBB0.out]; simp [eqS, h0]
        go_wp2_with fail
        go_meet
        case rel => exact ⟨rfl, rfl⟩
      subst h0
      by_cases h1 : op = op'
      case neg =>
        have q1 : (op == op') = false := by simpa using h1
        obtain rfl : bb0 = true := by rw [← HBB0.out]; simp [eqS, h1]
        go_wp2_with fail
        go_meet
        case rel => exact ⟨rfl, rfl⟩
      subst h1
      cases hV : (vk == vk' && (vn == vn' && vs.toList == vs'.toList))
      case false =>
        rw [hV] at qV
        obtain rfl : bb0 = true := by rw [← HBB0.out]; simp [eqS, hV]
        go_wp2_with fail
        go_meet
        case rel => exact ⟨rfl, rfl⟩
      rw [hV] at qV
      cases hA : eqR ⟨u1, u2, u3, u4, u5⟩ ⟨u1', u2', u3', u4', u5'⟩
      case false =>
        rw [hA] at qA
        obtain rfl : bb0 = true := by rw [← HBB0.out]; simp [eqS, hA]
        go_wp2_with fail
        go_meet
        case rel => exact ⟨rfl, rfl⟩
      rw [hA] at qA
      cases hB : eqR ⟨v1, v2, v3, v4, v5⟩ ⟨v1', v2', v3', v4', v5'⟩
      case false =>
        rw [hB] at qB
        obtain rfl : bb0 = true := by rw [← HBB0.out]; simp [eqS, hB]
        go_wp2_with fail
        go_meet
        case rel => exact ⟨rfl, rfl⟩
      rw [hB] at qB
      cases hM : (nm.toList == nm'.toList)
      case false =>
        obtain rfl : bb0 = true := by rw [← HBB0.out]; simp [eqS, hM]
        go_wp2_with fail
        go_meet
        case rel => exact ⟨rfl, rfl⟩
      by_cases h2 : N = N'
      case neg =>
        have q2 : ((N : Int) == (N' : Int)) = false := by simp; omega
        obtain rfl : bb0 = true := by rw [← HBB0.out]; simp [eqS, h2]
        go_wp2_with fail
        go_meet
        case rel => exact ⟨by simp only [bne, q2]; rfl, rfl⟩
      subst h2
      obtain rfl : bb0 = false := by rw [← HBB0.out]; simp [eqS, hV, hA, hB, hM]
      go_wp2_with fail
      go_meet
      case rel => exact ⟨rfl, rfl⟩
    case rest =>
      obtain ⟨rfl, rfl⟩ := hcut
      cases bb0
      case true =>
        have HR := Lib.hid (show (eqS ⟨k, op, vk, vn, vs, ⟨u1, u2, u3, u4, u5⟩, ⟨v1, v2, v3, v4, v5⟩, nm⟩ ⟨k', op', vk', vn', vs', ⟨u1', u2', u3', u4', u5'⟩, ⟨v1', v2', v3', v4', v5'⟩, nm'⟩ && (N == N') && sameL ts ts') = false by rw [show (eqS ⟨k, op, vk, vn, vs, ⟨u1, u2, u3, u4, u5⟩, ⟨v1, v2, v3, v4, v5⟩, nm⟩ ⟨k', op', vk', vn', vs', ⟨u1', u2', u3', u4', u5'⟩, ⟨v1', v2', v3', v4', v5'⟩, nm'⟩ && (N == N')) = false from not_b HBB0.out]; rfl)
        go_wp2_with fail
        go_ret
        exact ⟨by rw [HST.out, HR.out]; rfl, HE2.out⟩
      have HAB := Lib.hid (show (eqS ⟨k, op, vk, vn, vs, ⟨u1, u2, u3, u4, u5⟩, ⟨v1, v2, v3, v4, v5⟩, nm⟩ ⟨k', op', vk', vn', vs', ⟨u1', u2', u3', u4', u5'⟩, ⟨v1', v2', v3', v4', v5'⟩, nm'⟩ && (N == N')) = true from not_b HBB0.out)
      obtain rfl : N = N' := by have := HAB.out; simp only [Bool.and_eq_true, beq_iff_eq] at this; exact this.2
      have HS2 : Hid (sameT (.mk ⟨k, op, vk, vn, vs, ⟨u1, u2, u3, u4, u5⟩, ⟨v1, v2, v3, v4, v5⟩, nm⟩ ts) (.mk ⟨k', op', vk', vn', vs', ⟨u1', u2', u3', u4', u5'⟩, ⟨v1', v2', v3', v4', v5'⟩, nm'⟩ ts') = sameL ts ts') := Lib.hid (by rw [HST.out, HAB.out]; rfl)
      clear HST HBB0 HAB
      go_wp2_with fail
      go_loopw [5, 58] (fun _ si wr => ∃ k : Nat, k ≤ N ∧ si = .int .i64 (k : Int) ∧ Hid (sameL (ts.take k) (ts'.take k) = true) ∧ Hid (Ext wc wr)) (fun _ si _ => N - (intOf si).toNat)
      case atStart => exact ⟨0, Nat.zero_le _, rfl, Lib.hid (by simp [sameL]), Lib.hid hr⟩
      case round =>
        obtain ⟨k, hk, rfl, HRk, HX⟩ := hrel
        by_cases hkN : k = N
        · subst hkN
          have HV : Hid (sameL ts ts' = true) := Lib.hid (by
            have := HRk.out
            rwa [List.take_of_length_le (by rw [HN.out]; exact Nat.le_refl _), List.take_of_length_le (by rw [HNb.out]; exact Nat.le_refl _)] at this)
          go_wp2_with fail
          go_ret
          exact ⟨by rw [HS2.out, HV.out]; rfl, HE2.out.trans HX.out⟩
        have hkN' : (k : Int) < (N : Int) := by omega
        obtain ⟨t, ht⟩ : ∃ t, ts[k]? = some t := ⟨_, List.getElem?_eq_getElem (by rw [HN.out]; omega)⟩
        obtain ⟨f, hf⟩ : ∃ f, fs[k]? = some f := ⟨_, List.getElem?_eq_getElem (by rw [HL.out, HN.out]; omega)⟩
        obtain ⟨t', ht'⟩ : ∃ t, ts'[k]? = some t := ⟨_, List.getElem?_eq_getElem (by rw [HNb.out]; omega)⟩
        obtain ⟨f', hf'⟩ : ∃ f, fs'[k]? = some f := ⟨_, List.getElem?_eq_getElem (by rw [HLb.out, HNb.out]; omega)⟩
        obtain ⟨g, o, rfl, hB, hNA⟩ := HS.out k f hf
        obtain ⟨g', o', rfl, hB', hNA'⟩ := HSb.out k f' hf'
        have HNA := Lib.hid (hNA.keeps hB (.of_ext (HE2.out.trans HX.out)))
        have HNA' := Lib.hid (hNA'.keeps hB' (.of_ext (HE2.out.trans HX.out)))
        clear hNA hNA'
        go_wp2_with fail
        have hrr := Ext.refl wr
        have c16 : ∀ w, Ext wr w → w.cell? ⟨W.heap.size, 16, none⟩ = some (.slice (some ⟨g, o, none⟩) N cap) := ext_cell (Nat.lt_of_lt_of_le (blk_lt HB1.out) HX.out.size) (ext_cell (blk_lt HB1.out) (by rw [cell_of_row wc W.heap.size 16 _ _ _ HB1.out]; rfl) wr HX.out)
        have d16 : ∀ w, Ext wr w → w.cell? ⟨W.heap.size + 1, 16, none⟩ = some (.slice (some ⟨g', o', none⟩) N cap') := ext_cell (Nat.lt_of_lt_of_le (blk_lt HB2.out) HX.out.size) (ext_cell (blk_lt HB2.out) (by rw [cell_of_row wc (W.heap.size + 1) 16 _ _ _ HB2.out]; rfl) wr HX.out)
        have e71 : CallE Tryd.prog wr 10 #[.agg f.cells, .agg f'.cells] (.bool (sameT t t')) := fun w hE =>
          HIH.out t t' f f' B w (by have := HSZ.out; have := sizeL_mem ht; omega) ((HK.out k t f ht hf).ext ((HE2.out.trans HX.out).trans hE)) ((HKb.out k t' f' ht' hf').ext ((HE2.out.trans HX.out).trans hE))
        have HT := Lib.hid (sameL_take ht ht')
        have HT2 := Lib.hid (fun h => sameL_bad ht ht' h)
        have HK1 : Hid (k + 1 ≤ N) := Lib.hid (by omega)
        obtain ⟨bt, hbt⟩ : ∃ b, sameT t t' = b := ⟨_, rfl⟩
        have HBT := Lib.hid hbt
        rw [hbt] at e71
        clear ht hf ht' hf' hbt hk
        refine region_any (by kernel_rfl) (by kernel_rfl) rfl (fun K hK => ?_)
        (refine seqr_pure (v := ?_) (by rfl) (fun ρ => by rfl) (fun ρ w hE hF => ?_) ?_; rotate_left 1; (· ((try simp only [fill, Act.put, List.setIfInBounds_toArray, List.set_cons_zero, List.set_cons_succ]); go_simp; try with_reducible rfl)); (try simp only [Act.put, List.setIfInBounds_toArray, List.set_cons_zero, List.set_cons_succ]))
        (refine seqr_pure (v := ?_) (by rfl) (fun ρ => by rfl) (fun ρ w hE hF => ?_) ?_; rotate_left 1; (· ((try simp only [fill, Act.put, List.setIfInBounds_toArray, List.set_cons_zero, List.set_cons_succ]); go_simp; try with_reducible rfl)); (try simp only [Act.put, List.setIfInBounds_toArray, List.set_cons_zero, List.set_cons_succ]))
        (refine seqr_pure (v := ?_) (by rfl) (fun ρ => by rfl) (fun ρ w hE hF => ?_) ?_; rotate_left 1; (· ((try simp only [fill, Act.put, List.setIfInBounds_toArray, List.set_cons_zero, List.set_cons_succ]); go_simp; try with_reducible rfl)); (try simp only [Act.put, List.setIfInBounds_toArray, List.set_cons_zero, List.set_cons_succ]))
        (refine seqr_pure (v := ?_) (by rfl) (fun ρ => by rfl) (fun ρ w hE hF => ?_) ?_; rotate_left 1; (· ((try simp only [fill, Act.put, List.setIfInBounds_toArray, List.set_cons_zero, List.set_cons_succ]); go_simp; try with_reducible rfl)); (try simp only [Act.put, List.setIfInBounds_toArray, List.set_cons_zero, List.set_cons_succ]))
        refine seqr_pure (v := .agg f.cells) (by rfl) (fun ρ => by rfl) (fun ρ w hE hF => ?_) ?_
        · (try simp only [fill, Act.put, List.setIfInBounds_toArray, List.set_cons_zero, List.set_cons_succ])
          exact exec_load_at 33 _ rfl rfl (HNA.out.keeps hB (.of_ext hE)) Tryd.underlying33 rfl (by kernel_rfl)
        (try simp only [Act.put, List.setIfInBounds_toArray, List.set_cons_zero, List.set_cons_succ])
        (refine seqr_pure (v := ?_) (by rfl) (fun ρ => by rfl) (fun ρ w hE hF => ?_) ?_; rotate_left 1; (· ((try simp only [fill, Act.put, List.setIfInBounds_toArray, List.set_cons_zero, List.set_cons_succ]); go_simp; try with_reducible rfl)); (try simp only [Act.put, List.setIfInBounds_toArray, List.set_cons_zero, List.set_cons_succ]))
        (refine seqr_pure (v := ?_) (by rfl) (fun ρ => by rfl) (fun ρ w hE hF => ?_) ?_; rotate_left 1; (· ((try simp only [fill, Act.put, List.setIfInBounds_toArray, List.set_cons_zero, List.set_cons_succ]); go_simp; try with_reducible rfl)); (try simp only [Act.put, List.setIfInBounds_toArray, List.set_cons_zero, List.set_cons_succ]))
        (refine seqr_pure (v := ?_) (by rfl) (fun ρ => by rfl) (fun ρ w hE hF => ?_) ?_; rotate_left 1; (· ((try simp only [fill, Act.put, List.setIfInBounds_toArray, List.set_cons_zero, List.set_cons_succ]); go_simp; try with_reducible rfl)); (try simp only [Act.put, List.setIfInBounds_toArray, List.set_cons_zero, List.set_cons_succ]))
        (refine seqr_pure (v := ?_) (by rfl) (fun ρ => by rfl) (fun ρ w hE hF => ?_) ?_; rotate_left 1; (· ((try simp only [fill, Act.put, List.setIfInBounds_toArray, List.set_cons_zero, List.set_cons_succ]); go_simp; try with_reducible rfl)); (try simp only [Act.put, List.setIfInBounds_toArray, List.set_cons_zero, List.set_cons_succ]))
        refine seqr_pure (v := .agg f'.cells) (by rfl) (fun ρ => by rfl) (fun ρ w hE hF => ?_) ?_
        · (try simp only [fill, Act.put, List.setIfInBounds_toArray, List.set_cons_zero, List.set_cons_succ])
          exact exec_load_at 33 _ rfl rfl (HNA'.out.keeps hB' (.of_ext hE)) Tryd.underlying33 rfl (by kernel_rfl)
        (try simp only [Act.put, List.setIfInBounds_toArray, List.set_cons_zero, List.set_cons_succ])
        (refine seqr_call0 (v := ?_) (f := ?_) (args := ?_) (by rfl) (fun ρ => by rfl) (fun ρ w => ?_) (fun w hE => ?_) ?_; rotate_left 3; (· ((try simp only [fill, Act.put, List.setIfInBounds_toArray, List.set_cons_zero, List.set_cons_succ]); go_simp; constructor <;> with_reducible rfl)); (· (with_reducible exact CallE.call (by assumption) hE)); (try simp only [Act.put, List.setIfInBounds_toArray, List.set_cons_zero, List.set_cons_succ]))
        (refine seqr_pure (v := ?_) (by rfl) (fun ρ => by rfl) (fun ρ w hE hF => ?_) ?_; rotate_left 1; (· ((try simp only [fill, Act.put, List.setIfInBounds_toArray, List.set_cons_zero, List.set_cons_succ]); go_simp; try with_reducible rfl)); (try simp only [Act.put, List.setIfInBounds_toArray, List.set_cons_zero, List.set_cons_succ]))
        refine seqr_done (fun ρ wN hEN hFN => ?_); (try simp only [fill, Act.put, List.setIfInBounds_toArray, List.set_cons_zero, List.set_cons_succ]); refine (show K _ _ from hK.out _ _ ?_); clear hK K
        have HX3 := Lib.hid (HX.out.trans hEN)
        clear c16 d16 e71 hEN hFN hrr
        cases bt
        · go_wp2_with fail
          go_ret
          exact ⟨by rw [HS2.out, HT2.out HBT.out]; rfl, HE2.out.trans HX3.out⟩
        · go_wp2_with fail
          exact ⟨⟨k + 1, HK1.out, rfl, Lib.hid (by rw [HT.out, HRk.out, HBT.out]; rfl), HX3⟩, by simp [intOf]; omega⟩
end Go.Proofs.YtdfgobnmcngkmaaDoor
