/-
  tree: Same: walk. Conditions: each theorem's own.
-/
import Derived.Test.YtffogjhjgmohiaaDoorTreeG
import Derived.Laws.StructEq
import Derived.Test.YtffogjhjgmohiaaDoorRegion
import Derived.Deep.CutBlock
import Derived.Deep.DeepCutAuto
namespace Go.Proofs.YtffogjhjgmohiaaDoor
open Go.RowKit
set_option linter.unusedVariables false
set_option linter.unusedSimpArgs false

theorem Rf.eta (a : Rf) : a = ⟨a.s, a.c, a.r, a.x, a.y⟩ := rfl
/-- Are two nodes' own cells the same? -/
def eqR (a b : Rf) : Bool := (a.s == b.s && (a.c == b.c && a.r == b.r)) && (a.x == b.x && a.y == b.y)
def eqS (s u : Sc) : Bool := s.k == u.k && (s.op == u.op && ((s.vk == u.vk && (s.vn == u.vn && s.vs.toList == u.vs.toList)) && (eqR s.A u.A && (eqR s.B u.B && s.nm.toList == u.nm.toList))))
mutual
def sameT : Tr → Tr → Bool
  | .mk s l, .mk s' l' => eqS s s' && (l.length == l'.length) && sameL l l'
def sameL : List Tr → List Tr → Bool
  | [], _ => true
  | t :: l, [] => true
  | t :: l, t' :: l' => sameT t t' && sameL l l'
end
theorem sameL_take {l l' : List Tr} {k : Nat} {t t' : Tr} (h : l[k]? = some t) (h' : l'[k]? = some t') : sameL (l.take (k + 1)) (l'.take (k + 1)) = (sameL (l.take k) (l'.take k) && sameT t t') := by
  induction l generalizing l' k with
  | nil => cases h
  | cons u l ih =>
    cases l' with
    | nil => cases h'
    | cons u' l' =>
      cases k with
      | zero => cases h; cases h'; simp [sameL]
      | succ k => simp only [List.take_succ_cons, sameL, ih h h', Bool.and_assoc]
theorem sameL_bad {l l' : List Tr} {k : Nat} {t t' : Tr} (h : l[k]? = some t) (h' : l'[k]? = some t') (hb : sameT t t' = false) : sameL l l' = false := by
  induction l generalizing l' k with
  | nil => cases h
  | cons u l ih =>
    cases l' with
    | nil => cases h'
    | cons u' l' =>
      cases k with
      | zero => cases h; cases h'; simp [sameL, hb]
      | succ k => simp only [sameL, ih h h', Bool.and_false]
theorem eqR_iff (a b : Rf) : eqR a b = true ↔ a = b := by
  obtain ⟨s, c, r, x, y⟩ := a
  obtain ⟨s', c', r', x', y'⟩ := b
  simp [eqR, and_assoc]
theorem bytes_eq (a b : ByteArray) : a.toList = b.toList ↔ a = b := by
  rw [ByteArray.toList_eq, ByteArray.toList_eq]
  obtain ⟨⟨x⟩⟩ := a
  obtain ⟨⟨y⟩⟩ := b
  simp
theorem eqS_iff (s u : Sc) : eqS s u = true ↔ s = u := by
  obtain ⟨k, op, vk, vn, vs, A, B, nm⟩ := s
  obtain ⟨k', op', vk', vn', vs', A', B', nm'⟩ := u
  unfold eqS
  simp only [Bool.and_eq_true, eqR_iff, bytes_eq, beq_iff_eq, Sc.mk.injEq, and_assoc]
mutual
theorem sameT_iff : ∀ (t u : Tr), sameT t u = true ↔ t = u
  | .mk s l, .mk s' l' => by
    simp only [sameT, Bool.and_eq_true, beq_iff_eq, eqS_iff, Tr.mk.injEq]
    constructor
    · rintro ⟨⟨rfl, h⟩, h2⟩
      exact ⟨rfl, (sameL_iff l l' h).1 h2⟩
    · rintro ⟨rfl, rfl⟩
      exact ⟨⟨rfl, rfl⟩, (sameL_iff l l rfl).2 rfl⟩
theorem sameL_iff : ∀ (l l' : List Tr), l.length = l'.length → (sameL l l' = true ↔ l = l')
  | [], l', h => by
    cases l' with
    | nil => simp [sameL]
    | cons u l' => cases h
  | t :: l, l', h => by
    cases l' with
    | nil => cases h
    | cons u l' =>
      simp only [sameL, Bool.and_eq_true, List.cons.injEq]
      rw [sameT_iff t u, sameL_iff l l' (by simpa using h)]
end
theorem sameT_comm (t u : Tr) : sameT t u = sameT u t := by
  rw [Bool.eq_iff_iff, sameT_iff, sameT_iff]
  exact eq_comm
theorem sameT_self (t : Tr) : sameT t t = true := (sameT_iff t t).2 rfl
theorem neq_val (k n k' n' : Int) (s s' : ByteArray) (w : World) : Sem.run Tryd.prog (binOp .neq 26 (.agg #[.int .i64 k, .int .i64 n, .string s]) (.agg #[.int .i64 k', .int .i64 n', .string s'])) w = .ok (.bool (!(k == k' && (n == n' && s.toList == s'.toList)))) w := by
  by_cases h1 : k = k' <;> by_cases h2 : n = n' <;> by_cases h3 : s.toList = s'.toList <;> simp [go_sem, beq_toListBytes, *]
set_option maxHeartbeats 4000000 in
theorem neq_refw (s c r s' c' r' : Int) (x y x' y' : Bool) (w : World) : Sem.run Tryd.prog (binOp .neq 30 (.agg #[.int .i64 s, .int .i64 c, .int .i64 r, .bool x, .bool y]) (.agg #[.int .i64 s', .int .i64 c', .int .i64 r', .bool x', .bool y'])) w = .ok (.bool (!(eqR ⟨s, c, r, x, y⟩ ⟨s', c', r', x', y'⟩))) w := by
  unfold eqR
  by_cases h1 : s = s' <;> by_cases h2 : c = c' <;> by_cases h3 : r = r' <;> cases x <;> cases x' <;> cases y <;> cases y' <;> simp [go_sem, *]
theorem not_b {x b : Bool} (h : (!x) = b) : x = !b := by cases x <;> cases b <;> simp_all
theorem exec_load_at {P : Program} {o : Oper} {a : Act} {w : World} (ty : TypeId) (x : Operand) (ho : o.op = .load ty x) {g off : Nat} (hx : a.eval x = .pointer (some ⟨g, off, none⟩)) {cs : Array Value} {d : TypeDesc} (hc : ∀ (j : Nat) v, cs[j]? = some v → w.cell? ⟨g, off + j, none⟩ = some v)
    (hu : P.underlying ty = some d) (hd : (match d with | .struct _ | .array _ _ => true | _ => false) = true) (hi : (P.info? ty).map (·.size) = some cs.size) : (execOp a.eval o).run P w = .ok (.value (.agg cs)) w := by
  unfold execOp
  simp only [ho, hx, Instr.loadAt, Instr.sureAddr, Sem.run_bind, Sem.run_pure, Result.andThen_ok, run_loadVar_at w g off ty cs d hc hu hd hi]
set_option maxRecDepth 100000 in
set_option maxHeartbeats 8000000 in
theorem same_any (n : Nat) : ∀ (t t' : Tr) (f f' : Fl) (B : Nat → Prop) (W : World), sizeT t ≤ n → Rep W B t f → Rep W B t' f' →
    Calls Tryd.prog 15 #[f.val, f'.val] W fun e w' => e = .returned (.bool (sameT t t')) ∧ Ext W w' := by
  induction n with
  | zero =>
    rintro ⟨s, l⟩ t' f f' B W h
    simp only [sizeT] at h
    omega
  | succ n ih =>
    rintro t t' f f' B W hsz ⟨s, ts, p, cap, fs, ho, hn, hl, hs, hk⟩ ⟨s', ts', p', cap', fs', ho', hn', hl', hs', hk'⟩
    have hSZ : sizeT (.mk s ts) = 1 + sizeL ts := by simp only [sizeT]
    rw [hSZ] at hsz
    clear hSZ
    obtain ⟨N, hN⟩ : ∃ N, ts.length = N := ⟨_, rfl⟩
    obtain ⟨N', hN'⟩ : ∃ N, ts'.length = N := ⟨_, rfl⟩
    have hST : sameT (.mk s ts) (.mk s' ts') = (eqS s s' && (N == N') && sameL ts ts') := by simp only [sameT, hN, hN']
    have HST := Lib.hid hST
    rw [hN] at hn ⊢
    rw [hN'] at hn' ⊢
    clear hST
    obtain ⟨k, op, vk, vn, vs, ⟨u1, u2, u3, u4, u5⟩, ⟨v1, v2, v3, v4, v5⟩, nm⟩ := s
    obtain ⟨k', op', vk', vn', vs', ⟨u1', u2', u3', u4', u5'⟩, ⟨v1', v2', v3', v4', v5'⟩, nm'⟩ := s'
    obtain ⟨W1, hW1, hE1, hG1, hL1, hS1⟩ := new_blk W #[.int .i64 k, .int .i64 op, .int .i64 vk, .int .i64 vn, .string vs, .int .i64 u1, .int .i64 u2, .int .i64 u3, .bool u4, .bool u5,
      .int .i64 v1, .int .i64 v2, .int .i64 v3, .bool v4, .bool v5, .string nm, .slice p N cap] 33
    obtain ⟨W2, hW2, hE2, hG2, hL2, hS2⟩ := new_blk W1 #[.int .i64 k', .int .i64 op', .int .i64 vk', .int .i64 vn', .string vs', .int .i64 u1', .int .i64 u2', .int .i64 u3', .bool u4', .bool u5',
      .int .i64 v1', .int .i64 v2', .int .i64 v3', .bool v4', .bool v5', .string nm', .slice p' N' cap'] 33
    rw [hS1] at hG2
    have HW1 := Lib.hid hW1
    have HW2 := Lib.hid hW2
    have HE2 := Lib.hid (hE1.trans hE2)
    have HB1 := Lib.hid (hE2.blk hG1)
    have HB2 := Lib.hid hG2
    have HK := Lib.hid hk
    have HS := Lib.hid hs
    have HL := Lib.hid hl
    have HKb := Lib.hid hk'
    have HSb := Lib.hid hs'
    have HLb := Lib.hid hl'
    have HSZ := Lib.hid hsz
    have HIH := Lib.hid ih
    have HN := Lib.hid hN
    have HNb := Lib.hid hN'
    have hNi : (N : Int) ≤ 1000 := by omega
    have hNi' : (N' : Int) ≤ 1000 := by omega
    have b1 := ext_blk (hE2.blk hG1)
    have b2 := ext_blk hG2
    have l1 := ext_lt (blk_lt (hE2.blk hG1))
    have l2 := ext_lt (blk_lt hG2)
    have hr := Ext.refl W2
    clear ho ho' hW1 hW2 hE1 hE2 hG1 hG2 hL1 hL2 hS1 hS2 hk hs hl hk' hs' hl' hsz ih hN hN' hn hn'
    change Calls _ _ #[.agg #[.int .i64 k, .int .i64 op, .int .i64 vk, .int .i64 vn, .string vs, .int .i64 u1, .int .i64 u2, .int .i64 u3, .bool u4, .bool u5,
      .int .i64 v1, .int .i64 v2, .int .i64 v3, .bool v4, .bool v5, .string nm, .slice p N cap], .agg #[.int .i64 k', .int .i64 op', .int .i64 vk', .int .i64 vn', .string vs', .int .i64 u1', .int .i64 u2', .int .i64 u3', .bool u4', .bool u5',
      .int .i64 v1', .int .i64 v2', .int .i64 v3', .bool v4', .bool v5', .string nm', .slice p' N' cap']] W _
    go_enter Tryd.func15, Tryd.ntmps15
    go_upto_region 1 with (fail)
    rw [HW1.out, HW2.out]
    clear HW1 HW2
    obtain ⟨bb0, hbb0⟩ : ∃ b, (!(eqS ⟨k, op, vk, vn, vs, ⟨u1, u2, u3, u4, u5⟩, ⟨v1, v2, v3, v4, v5⟩, nm⟩ ⟨k', op', vk', vn', vs', ⟨u1', u2', u3', u4', u5'⟩, ⟨v1', v2', v3', v4', v5'⟩, nm'⟩ && (N == N'))) = b := ⟨_, rfl⟩
    have HBB0 := Lib.hid hbb0
    clear hbb0
    go_cut [54] (fun s54 wx => s54 = .bool bb0 ∧ wx = W2)
    case first =>
      have qV := fun w => neq_val vk vn vk' vn' vs vs' w
      have qA := fun w => neq_refw u1 u2 u3 u1' u2' u3' u4 u5 u4' u5' w
      have qB := fun w => neq_refw v1 v2 v3 v1' v2' v3' v4 v5 v4' v5' w
      by_cases h0 : k = k'
      case neg =>
        have q0 : (k == k') = false := by simpa using h0
        obtain rfl : bb0 = true := by rw [← HBB0.out]; simp [eqS, h0]
        go_wp2_with fail
        go_meet
        case rel => exact ⟨rfl, rfl⟩
      subst h0
      by_cases h1 : op = op'
      case neg =>
        have q1 : (op == op') = false := by simpa using h1
        obtain rfl : bb0 = true := by rw [← HBB0.out]; simp [eqS, h1]
        go_wp2_with fail
        go_meet
        case rel => exact ⟨rfl, rfl⟩
      subst h1
      cases hV : (vk == vk' && (vn == vn' && vs.toList == vs'.toList))
      case false =>
        rw [hV] at qV
        obtain rfl : bb0 = true := by rw [← HBB0.out]; simp [eqS, hV]
        go_wp2_with fail
        go_meet
        case rel => exact ⟨rfl, rfl⟩
      rw [hV] at qV
      cases hA : eqR ⟨u1, u2, u3, u4, u5⟩ ⟨u1', u2', u3', u4', u5'⟩
      case false =>
        rw [hA] at qA
        obtain rfl : bb0 = true := by rw [← HBB0.out]; simp [eqS, hA]
        go_wp2_with fail
        go_meet
        case rel => exact ⟨rfl, rfl⟩
      rw [hA] at qA
      cases hB : eqR ⟨v1, v2, v3, v4, v5⟩ ⟨v1', v2', v3', v4', v5'⟩
      case false =>
        rw [hB] at qB
        obtain rfl : bb0 = true := by rw [← HBB0.out]; simp [eqS, hB]
        go_wp2_with fail
        go_meet
        case rel => exact ⟨rfl, rfl⟩
      rw [hB] at qB
      cases hM : (nm.toList == nm'.toList)
      case false =>
        obtain rfl : bb0 = true := by rw [← HBB0.out]; simp [eqS, hM]
        go_wp2_with fail
        go_meet
        case rel => exact ⟨rfl, rfl⟩
      by_cases h2 : N = N'
      case neg =>
        have q2 : ((N : Int) == (N' : Int)) = false := by simp; omega
        obtain rfl : bb0 = true := by rw [← HBB0.out]; simp [eqS, h2]
        go_wp2_with fail
        go_meet
        case rel => exact ⟨by simp only [bne, q2]; rfl, rfl⟩
      subst h2
      obtain rfl : bb0 = false := by rw [← HBB0.out]; simp [eqS, hV, hA, hB, hM]
      go_wp2_with fail
      go_meet
      case rel => exact ⟨rfl, rfl⟩
    case rest =>
      obtain ⟨rfl, rfl⟩ := hcut
      cases bb0
      case true =>
        have HR := Lib.hid (show (eqS ⟨k, op, vk, vn, vs, ⟨u1, u2, u3, u4, u5⟩, ⟨v1, v2, v3, v4, v5⟩, nm⟩ ⟨k', op', vk', vn', vs', ⟨u1', u2', u3', u4', u5'⟩, ⟨v1', v2', v3', v4', v5'⟩, nm'⟩ && (N == N') && sameL ts ts') = false by rw [show (eqS ⟨k, op, vk, vn, vs, ⟨u1, u2, u3, u4, u5⟩, ⟨v1, v2, v3, v4, v5⟩, nm⟩ ⟨k', op', vk', vn', vs', ⟨u1', u2', u3', u4', u5'⟩, ⟨v1', v2', v3', v4', v5'⟩, nm'⟩ && (N == N')) = false from not_b HBB0.out]; rfl)
        go_wp2_with fail
        go_ret
        exact ⟨by rw [HST.out, HR.out]; rfl, HE2.out⟩
      have HAB := Lib.hid (show (eqS ⟨k, op, vk, vn, vs, ⟨u1, u2, u3, u4, u5⟩, ⟨v1, v2, v3, v4, v5⟩, nm⟩ ⟨k', op', vk', vn', vs', ⟨u1', u2', u3', u4', u5'⟩, ⟨v1', v2', v3', v4', v5'⟩, nm'⟩ && (N == N')) = true from not_b HBB0.out)
      obtain rfl : N = N' := by have := HAB.out; simp only [Bool.and_eq_true, beq_iff_eq] at this; exact this.2
      have HS2 : Hid (sameT (.mk ⟨k, op, vk, vn, vs, ⟨u1, u2, u3, u4, u5⟩, ⟨v1, v2, v3, v4, v5⟩, nm⟩ ts) (.mk ⟨k', op', vk', vn', vs', ⟨u1', u2', u3', u4', u5'⟩, ⟨v1', v2', v3', v4', v5'⟩, nm'⟩ ts') = sameL ts ts') := Lib.hid (by rw [HST.out, HAB.out]; rfl)
      clear HST HBB0 HAB
      go_wp2_with fail
      go_loopw [5, 58] (fun _ si wr => ∃ k : Nat, k ≤ N ∧ si = .int .i64 (k : Int) ∧ Hid (sameL (ts.take k) (ts'.take k) = true) ∧ Hid (Ext wc wr)) (fun _ si _ => N - (intOf si).toNat)
      case atStart => exact ⟨0, Nat.zero_le _, rfl, Lib.hid (by simp [sameL]), Lib.hid hr⟩
      case round =>
        obtain ⟨k, hk, rfl, HRk, HX⟩ := hrel
        by_cases hkN : k = N
        · subst hkN
          have HV : Hid (sameL ts ts' = true) := Lib.hid (by
            have := HRk.out
            rwa [List.take_of_length_le (by rw [HN.out]; exact Nat.le_refl _), List.take_of_length_le (by rw [HNb.out]; exact Nat.le_refl _)] at this)
          go_wp2_with fail
          go_ret
          exact ⟨by rw [HS2.out, HV.out]; rfl, HE2.out.trans HX.out⟩
        have hkN' : (k : Int) < (N : Int) := by omega
        obtain ⟨t, ht⟩ : ∃ t, ts[k]? = some t := ⟨_, List.getElem?_eq_getElem (by rw [HN.out]; omega)⟩
        obtain ⟨f, hf⟩ : ∃ f, fs[k]? = some f := ⟨_, List.getElem?_eq_getElem (by rw [HL.out, HN.out]; omega)⟩
        obtain ⟨t', ht'⟩ : ∃ t, ts'[k]? = some t := ⟨_, List.getElem?_eq_getElem (by rw [HNb.out]; omega)⟩
        obtain ⟨f', hf'⟩ : ∃ f, fs'[k]? = some f := ⟨_, List.getElem?_eq_getElem (by rw [HLb.out, HNb.out]; omega)⟩
        obtain ⟨g, o, rfl, hB, hNA⟩ := HS.out k f hf
        obtain ⟨g', o', rfl, hB', hNA'⟩ := HSb.out k f' hf'
        have HNA := Lib.hid (hNA.keeps hB (.of_ext (HE2.out.trans HX.out)))
        have HNA' := Lib.hid (hNA'.keeps hB' (.of_ext (HE2.out.trans HX.out)))
        clear hNA hNA'
        go_wp2_with fail
        have hrr := Ext.refl wr
        have c16 : ∀ w, Ext wr w → w.cell? ⟨W.heap.size, 16, none⟩ = some (.slice (some ⟨g, o, none⟩) N cap) := ext_cell (Nat.lt_of_lt_of_le (blk_lt HB1.out) HX.out.size) (ext_cell (blk_lt HB1.out) (by rw [cell_of_row wc W.heap.size 16 _ _ _ HB1.out]; rfl) wr HX.out)
        have d16 : ∀ w, Ext wr w → w.cell? ⟨W.heap.size + 1, 16, none⟩ = some (.slice (some ⟨g', o', none⟩) N cap') := ext_cell (Nat.lt_of_lt_of_le (blk_lt HB2.out) HX.out.size) (ext_cell (blk_lt HB2.out) (by rw [cell_of_row wc (W.heap.size + 1) 16 _ _ _ HB2.out]; rfl) wr HX.out)
        have e71 : CallE Tryd.prog wr 15 #[.agg f.cells, .agg f'.cells] (.bool (sameT t t')) := fun w hE =>
          HIH.out t t' f f' B w (by have := HSZ.out; have := sizeL_mem ht; omega) ((HK.out k t f ht hf).ext ((HE2.out.trans HX.out).trans hE)) ((HKb.out k t' f' ht' hf').ext ((HE2.out.trans HX.out).trans hE))
        have HT := Lib.hid (sameL_take ht ht')
        have HT2 := Lib.hid (fun h => sameL_bad ht ht' h)
        have HK1 : Hid (k + 1 ≤ N) := Lib.hid (by omega)
        obtain ⟨bt, hbt⟩ : ∃ b, sameT t t' = b := ⟨_, rfl⟩
        have HBT := Lib.hid hbt
        rw [hbt] at e71
        clear ht hf ht' hf' hbt hk
        refine region_any (by kernel_rfl) (by kernel_rfl) rfl (fun K hK => ?_)
        (refine seqr_pure (v := ?_) (by rfl) (fun ρ => by rfl) (fun ρ w hE hF => ?_) ?_; rotate_left 1; (· ((try simp only [fill, Act.put, List.setIfInBounds_toArray, List.set_cons_zero, List.set_cons_succ]); go_simp; try with_reducible rfl)); (try simp only [Act.put, List.setIfInBounds_toArray, List.set_cons_zero, List.set_cons_succ]))
        (refine seqr_pure (v := ?_) (by rfl) (fun ρ => by rfl) (fun ρ w hE hF => ?_) ?_; rotate_left 1; (· ((try simp only [fill, Act.put, List.setIfInBounds_toArray, List.set_cons_zero, List.set_cons_succ]); go_simp; try with_reducible rfl)); (try simp only [Act.put, List.setIfInBounds_toArray, List.set_cons_zero, List.set_cons_succ]))
        (refine seqr_pure (v := ?_) (by rfl) (fun ρ => by rfl) (fun ρ w hE hF => ?_) ?_; rotate_left 1; (· ((try simp only [fill, Act.put, List.setIfInBounds_toArray, List.set_cons_zero, List.set_cons_succ]); go_simp; try with_reducible rfl)); (try simp only [Act.put, List.setIfInBounds_toArray, List.set_cons_zero, List.set_cons_succ]))
        (refine seqr_pure (v := ?_) (by rfl) (fun ρ => by rfl) (fun ρ w hE hF => ?_) ?_; rotate_left 1; (· ((try simp only [fill, Act.put, List.setIfInBounds_toArray, List.set_cons_zero, List.set_cons_succ]); go_simp; try with_reducible rfl)); (try simp only [Act.put, List.setIfInBounds_toArray, List.set_cons_zero, List.set_cons_succ]))
        refine seqr_pure (v := .agg f.cells) (by rfl) (fun ρ => by rfl) (fun ρ w hE hF => ?_) ?_
        · (try simp only [fill, Act.put, List.setIfInBounds_toArray, List.set_cons_zero, List.set_cons_succ])
          exact exec_load_at 33 _ rfl rfl (HNA.out.keeps hB (.of_ext hE)) Tryd.underlying33 rfl (by kernel_rfl)
        (try simp only [Act.put, List.setIfInBounds_toArray, List.set_cons_zero, List.set_cons_succ])
        (refine seqr_pure (v := ?_) (by rfl) (fun ρ => by rfl) (fun ρ w hE hF => ?_) ?_; rotate_left 1; (· ((try simp only [fill, Act.put, List.setIfInBounds_toArray, List.set_cons_zero, List.set_cons_succ]); go_simp; try with_reducible rfl)); (try simp only [Act.put, List.setIfInBounds_toArray, List.set_cons_zero, List.set_cons_succ]))
        (refine seqr_pure (v := ?_) (by rfl) (fun ρ => by rfl) (fun ρ w hE hF => ?_) ?_; rotate_left 1; (· ((try simp only [fill, Act.put, List.setIfInBounds_toArray, List.set_cons_zero, List.set_cons_succ]); go_simp; try with_reducible rfl)); (try simp only [Act.put, List.setIfInBounds_toArray, List.set_cons_zero, List.set_cons_succ]))
        (refine seqr_pure (v := ?_) (by rfl) (fun ρ => by rfl) (fun ρ w hE hF => ?_) ?_; rotate_left 1; (· ((try simp only [fill, Act.put, List.setIfInBounds_toArray, List.set_cons_zero, List.set_cons_succ]); go_simp; try with_reducible rfl)); (try simp only [Act.put, List.setIfInBounds_toArray, List.set_cons_zero, List.set_cons_succ]))
        (refine seqr_pure (v := ?_) (by rfl) (fun ρ => by rfl) (fun ρ w hE hF => ?_) ?_; rotate_left 1; (· ((try simp only [fill, Act.put, List.setIfInBounds_toArray, List.set_cons_zero, List.set_cons_succ]); go_simp; try with_reducible rfl)); (try simp only [Act.put, List.setIfInBounds_toArray, List.set_cons_zero, List.set_cons_succ]))
        refine seqr_pure (v := .agg f'.cells) (by rfl) (fun ρ => by rfl) (fun ρ w hE hF => ?_) ?_
        · (try simp only [fill, Act.put, List.setIfInBounds_toArray, List.set_cons_zero, List.set_cons_succ])
          exact exec_load_at 33 _ rfl rfl (HNA'.out.keeps hB' (.of_ext hE)) Tryd.underlying33 rfl (by kernel_rfl)
        (try simp only [Act.put, List.setIfInBounds_toArray, List.set_cons_zero, List.set_cons_succ])
        (refine seqr_call0 (v := ?_) (f := ?_) (args := ?_) (by rfl) (fun ρ => by rfl) (fun ρ w => ?_) (fun w hE => ?_) ?_; rotate_left 3; (· ((try simp only [fill, Act.put, List.setIfInBounds_toArray, List.set_cons_zero, List.set_cons_succ]); go_simp; constructor <;> with_reducible rfl)); (· (with_reducible exact CallE.call (by assumption) hE)); (try simp only [Act.put, List.setIfInBounds_toArray, List.set_cons_zero, List.set_cons_succ]))
        (refine seqr_pure (v := ?_) (by rfl) (fun ρ => by rfl) (fun ρ w hE hF => ?_) ?_; rotate_left 1; (· ((try simp only [fill, Act.put, List.setIfInBounds_toArray, List.set_cons_zero, List.set_cons_succ]); go_simp; try with_reducible rfl)); (try simp only [Act.put, List.setIfInBounds_toArray, List.set_cons_zero, List.set_cons_succ]))
        refine seqr_done (fun ρ wN hEN hFN => ?_); (try simp only [fill, Act.put, List.setIfInBounds_toArray, List.set_cons_zero, List.set_cons_succ]); refine (show K _ _ from hK.out _ _ ?_); clear hK K
        have HX3 := Lib.hid (HX.out.trans hEN)
        clear c16 d16 e71 hEN hFN hrr
        cases bt
        · go_wp2_with fail
          go_ret
          exact ⟨by rw [HS2.out, HT2.out HBT.out]; rfl, HE2.out.trans HX3.out⟩
        · go_wp2_with fail
          exact ⟨⟨k + 1, HK1.out, rfl, Lib.hid (by rw [HT.out, HRk.out, HBT.out]; rfl), HX3⟩, by simp [intOf]; omega⟩
end Go.Proofs.YtffogjhjgmohiaaDoor
