/-
  parse: call: plain steps, what a round of its loop keeps. Conditions: each theorem's own.
-/
import Derived.Test.YtffogjhjgmohiaaDoorParK
import Derived.Test.YtffogjhjgmohiaaDoorTreeN
namespace Go.Proofs.YtffogjhjgmohiaaDoor
open Go.RowKit
set_option linter.unusedVariables false
set_option linter.unusedSimpArgs false

def noFn (s : List UInt8) : Prop := numOf s = 0 ∧ s ≠ [66, 76, 65, 78, 75]
theorem word_call {sh E n d : Nat} {t : Tok} {r r2 : List Tok} {R} (hi : isS [40] r = some r2) (h : wordF E sh (n + 1) d t r = some R) :
    (noFn t.s ∧ R = .error (5, t.p)) ∨ (¬ noFn t.s ∧ ∃ R1, argsF E sh n d [] r2 = some R1 ∧ R = R1.bind fun y => endP E (numOf t.s : Int) y.1 y.2) := by
  rw [wordF, hi] at h
  simp only [Bool.and_eq_true, beq_iff_eq, bne_iff_ne, ne_eq] at h
  by_cases hc : noFn t.s
  · rw [if_pos (show numOf t.s = 0 ∧ ¬ t.s = [66, 76, 65, 78, 75] from hc)] at h
    injection h with h
    exact .inl ⟨hc, h.symm⟩
  · rw [if_neg (show ¬ (numOf t.s = 0 ∧ ¬ t.s = [66, 76, 65, 78, 75]) from hc)] at h
    refine .inr ⟨hc, ?_⟩
    cases hx : argsF E sh n d [] r2 with
    | none => rw [hx] at h; cases h
    | some R1 =>
      rw [hx] at h
      rcases R1 with e | ⟨ar, ts'⟩
      · injection h with h; exact ⟨_, rfl, h.symm⟩
      · injection h with h; exact ⟨_, rfl, h.symm⟩
theorem args_shut {sh E n d : Nat} {ar : List Tr} {ts ts1 : List Tok} {R} (hi : isS [41] ts = some ts1) (h : argsF E sh n d ar ts = some R) : R = .ok (ar, ts1) := by
  cases n with
  | zero => simp [argsF] at h
  | succ n =>
    rw [argsF, hi] at h
    injection h with h
    exact h.symm
theorem args_more {sh E n d : Nat} {ar : List Tr} {ts : List Tok} {R} (hi : isS [41] ts = none) (h : argsF E sh n d ar ts = some R) :
    ∃ m, n = m + 1 ∧ ((ar ≠ [] ∧ isS [44] ts = none ∧ R = .error (2, posF E ts)) ∨ ∃ ts1, ((ar = [] ∧ ts1 = ts) ∨ (ar ≠ [] ∧ isS [44] ts = some ts1)) ∧
      ((d = 64 ∧ R = .error (3, posF E ts1)) ∨ (d ≠ 64 ∧ ∃ R1, exprF E sh m 0 (d + 1) ts1 = some R1 ∧ ((∃ e, R1 = .error e ∧ R = .error e) ∨ ∃ x r', R1 = .ok (x, r') ∧ argsF E sh m d (ar ++ [x]) r' = some R)))) := by
  cases n with
  | zero => simp [argsF] at h
  | succ m =>
    rw [argsF, hi] at h
    simp only [beq_iff_eq] at h
    refine ⟨m, rfl, ?_⟩
    have tail : ∀ ts1, (if d = 64 then some (Except.error (3, posF E ts1)) else match exprF E sh m 0 (d + 1) ts1 with
        | none => none
        | some (.error e) => some (.error e)
        | some (.ok (x, ts2)) => argsF E sh m d (ar ++ [x]) ts2) = some R →
        ((d = 64 ∧ R = .error (3, posF E ts1)) ∨ (d ≠ 64 ∧ ∃ R1, exprF E sh m 0 (d + 1) ts1 = some R1 ∧ ((∃ e, R1 = .error e ∧ R = .error e) ∨ ∃ x r', R1 = .ok (x, r') ∧ argsF E sh m d (ar ++ [x]) r' = some R))) := by
      intro ts1 h
      by_cases hd : d = 64
      · rw [if_pos hd] at h
        injection h with h
        exact .inl ⟨hd, h.symm⟩
      · rw [if_neg hd] at h
        refine .inr ⟨hd, ?_⟩
        cases hx : exprF E sh m 0 (d + 1) ts1 with
        | none => rw [hx] at h; cases h
        | some R1 =>
          rw [hx] at h
          rcases R1 with e | ⟨x, r'⟩
          · injection h with h; exact ⟨_, rfl, .inl ⟨e, rfl, h.symm⟩⟩
          · exact ⟨_, rfl, .inr ⟨x, r', rfl, h⟩⟩
    cases ar with
    | nil => exact .inr ⟨ts, .inl ⟨rfl, rfl⟩, tail ts h⟩
    | cons a l =>
      cases hj : isS [44] ts with
      | none =>
        simp only [List.isEmpty_cons, hj, Bool.false_eq_true, if_false] at h
        injection h with h
        exact .inl ⟨by simp, rfl, h.symm⟩
      | some ts1 =>
        simp only [List.isEmpty_cons, hj, Bool.false_eq_true, if_false] at h
        exact .inr ⟨ts1, .inr ⟨by simp, rfl⟩, tail ts1 h⟩
/-- A parser leans on its own block and on older ones. -/
theorem PAt.low {b sh E d : Nat} {ts : List Tok} {W w : World} (h : PAt b sh E d ts W) (hk : ∀ k, k ≤ b → w.heap[k]? = W.heap[k]?) : PAt b sh E d ts w := by
  obtain ⟨p, c, h⟩ := h
  refine ⟨p, c, by rw [hk b (Nat.le_refl _)]; exact h.blk, h.cap, fun i t ht => ?_, h.lim⟩
  obtain ⟨g', o, hp, hg', h3⟩ := h.tok i t ht
  refine ⟨g', o, hp, hg', fun j v hj => ?_⟩
  rw [← h3 j v hj]
  simp only [World.cell?, hk g' (by omega)]
/-- A round of the loop that gathers arguments: what stands behind it. -/
theorem args_round {b sh E d base : Nat} {W1 wr w7 w8 : World} {v v' : Value} {l : List Fl} {tr : List Tr} {f1 : Fl} {t1 : Tr} {ts : List Tok} (hB : b < base) (hbase : base ≤ W1.heap.size) (hlt : l.length = tr.length)
    (hOw : wr.ownsRow W1.heap.size 33 17 v l.length (fcells l))
    (hRp : ∀ (i : Nat) t f, tr[i]? = some t → l[i]? = some f → Rep wr (fun g => base ≤ g ∧ some g ≠ v.ownBlock) t f)
    (hX : ExtX b W1 wr) (h67 : ExtX b wr w7) (hP7 : PAt b sh E d ts w7) (hR1 : Rep w7 (fun g => wr.heap.size ≤ g) t1 f1)
    (hg8 : (w7.alloc (.cells f1.cells 33)).grownBy w8 v.ownBlock) (hl8 : v'.ownBlock = v.ownBlock ∨ v'.ownBlock = some (w7.heap.size + 1)) :
    (∀ (i : Nat) t f, (tr ++ [t1])[i]? = some t → (l ++ [f1])[i]? = some f → Rep w8 (fun g => base ≤ g ∧ some g ≠ v'.ownBlock) t f) ∧ ExtX b W1 w8 ∧ PAt b sh E d ts w8 := by
  have h78 : w7.grownBy w8 v.ownBlock := ⟨hg8.os, hg8.tape, hg8.output, Nat.le_trans (by simp) hg8.size, fun k hk hne => (hg8.block k (by simp; omega) hne).trans (heap_alloc_old w7 (.cells f1.cells 33) hk)⟩
  have hvk : ∀ k, v.ownBlock = some k → W1.heap.size ≤ k ∧ k < wr.heap.size := hOw.lt
  have hs2 := h67.size
  have hs3 := hX.size
  have hb7 : b < w7.heap.size := by omega
  refine ⟨fun i t f ht hf => ?_, (hX.trans h67).grownTo h78 (fun k hk => (hvk k hk).1), hP7.low (fun k hk => h78.block k (by omega) (fun e => by have := (hvk k e.symm).1; omega))⟩
  by_cases hi : i < l.length
  · rw [List.getElem?_append_left (by omega)] at ht
    rw [List.getElem?_append_left hi] at hf
    have hr : Rep wr (fun g => (base ≤ g ∧ some g ≠ v.ownBlock) ∧ g < wr.heap.size) t f := (hRp i t f ht hf).imp' (fun g hg hl => ⟨hg, hl⟩)
    refine (hr.keeps (w := w8) (fun k hk hl => ?_)).imp' (fun g hg _ => ⟨hg.1.1, ?_⟩)
    · exact (h78.block k (by omega) hk.1.2).trans (h67.block k (by omega) hl)
    · rcases hl8 with h | h
      · rw [h]; exact hg.1.2
      · rw [h]; intro e; cases e; omega
  · have hi' : i = l.length := by
      have := (List.getElem?_eq_some_iff.1 hf).1
      rw [List.length_append, List.length_singleton] at this
      omega
    subst hi'
    rw [List.getElem?_append_right (Nat.le_refl _), Nat.sub_self] at hf
    rw [hlt, List.getElem?_append_right (Nat.le_refl _), Nat.sub_self] at ht
    cases hf
    cases ht
    have hr : Rep w7 (fun g => wr.heap.size ≤ g ∧ g < w7.heap.size) t1 f1 := hR1.imp' (fun g hg hl => ⟨hg, hl⟩)
    refine (hr.keeps (w := w8) (fun k hk hl => h78.block k hl (fun e => by have := (hvk k e.symm).2; omega))).imp' (fun g hg _ => ⟨by omega, ?_⟩)
    rcases hl8 with h | h
    · rw [h]; intro e; have := (hvk g e.symm).2; omega
    · rw [h]; intro e; cases e; omega
set_option maxRecDepth 100000 in
set_option maxHeartbeats 8000000 in
theorem call_w (sh E n : Nat) (hX : ∀ m, m ≤ n → ExprS sh E m) : CallS sh E (n + 1) := by
  intro b d t r r2 R W hi hR h hE hb
  obtain ⟨W0, hW0, hE0, hG0, hL0, hS0⟩ := new_blk W #[.pointer (some ⟨b, 0, none⟩)] 53
  obtain ⟨Wt, hWt, hEt, hGt, hLt, hSt⟩ := new_blk W0 (tokC t.k t.s t.p) 61
  obtain ⟨W1, hW1, hE1, hG1, hL1, hS1⟩ := new_blk Wt zN 33
  rw [hSt, hS0] at hG1
  rw [hS0] at hGt
  have HP1 := Lib.hid (h.ext ((hE0.trans hEt).trans hE1))
  have HW0 := Lib.hid hW0
  have HWt := Lib.hid hWt
  have HW1 := Lib.hid hW1
  have HE1 := Lib.hid ((hE0.trans hEt).trans hE1)
  have HG0 := Lib.hid (hE1.blk (hEt.blk hG0))
  have HGt := Lib.hid (hE1.blk hGt)
  have HG1 := Lib.hid hG1
  have HSZ : Hid (W1.heap.size = W.heap.size + 3) := Lib.hid (by omega)
  have HENV := Lib.hid hE
  have HLOW := Lib.hid hb
  have HB := Lib.hid h.deep.2.2
  have HXX := Lib.hid hX
  have HRR := Lib.hid (word_call hi hR)
  have HII := Lib.hid hi
  have HLIM := Lib.hid h.lims
  have hc := cell_of_row W1 W.heap.size 0 _ _ _ HG0.out
  have ht1 := cell_of_row W1 (W.heap.size + 1) 1 _ _ _ HGt.out
  unfold tokC at ht1 HWt
  simp only [List.getElem?_toArray, List.getElem?_cons_zero, List.getElem?_cons_succ] at hc ht1
  have NN := Lib.hid (number_any (mk t.s) W1 ((HENV.out.ext HE1.out).1.1))
  rw [mk_list] at NN
  clear h hW0 hE0 hG0 hL0 hS0 hWt hEt hGt hLt hSt hW1 hE1 hG1 hL1 hS1 hE hb hX hR hi
  unfold zN at HW1
  unfold tokC
  go_enter Tryd.func62, Tryd.ntmps62
  go_upto_region 1 with (fail)
  rw [HW0.out, HWt.out, HW1.out]
  clear HW0 HWt HW1
  obtain ⟨F, hF⟩ : ∃ F, numOf t.s = F := ⟨_, rfl⟩
  rw [hF] at NN
  have HF := Lib.hid hF
  clear hF
  go_wp2_with fail
  refine NN.out.mono ?_
  rintro e w2 ⟨rfl, hE2⟩
  have HE2 := Lib.hid (HE1.out.trans hE2)
  have HP2 := Lib.hid (HP1.out.ext hE2)
  have HG02 := Lib.hid (hE2.blk HG0.out)
  have HGt2 := Lib.hid (hE2.blk HGt.out)
  have HG12 := Lib.hid (hE2.blk HG1.out)
  have HSZ2 : Hid (W.heap.size + 3 ≤ w2.heap.size) := Lib.hid (by have := hE2.size; have := HSZ.out; omega)
  clear hE2 hc ht1 NN
  have hc := cell_of_row w2 W.heap.size 0 _ _ _ HG02.out
  have ht1 := cell_of_row w2 (W.heap.size + 1) 1 _ _ _ HGt2.out
  unfold tokC at ht1
  simp only [List.getElem?_toArray, List.getElem?_cons_zero, List.getElem?_cons_succ] at hc ht1
  rcases HRR.out with ⟨hno, hRe⟩ | ⟨hyes, R1, hAr, hRe⟩
  · have HF5 := Lib.hid (fail_at b sh E d (t :: r) 5 w2 HP2.out)
    obtain rfl : F = 0 := by rw [← HF.out]; exact hno.1
    have q1 := toks_ne hno.2
    have q2 := toks_nb hno.2
    clear hno
    go_wp2_with fail
    refine HF5.out.mono ?_
    rintro e w3 ⟨rfl, rfl⟩
    exact ⟨rfl, .inr ⟨5, _, by first | exact hRe | rfl, rfl, .of_ext HE2.out⟩⟩
  have HAr := Lib.hid hAr
  have HRe := Lib.hid hRe
  go_upto_region 2 with (fail)
  go_cut [16] (fun s16 wx => s16 = .bool false ∧ wx = w2)
  case first =>
    by_cases hF0 : F = 0
    · subst hF0
      have hbl : t.s = [66, 76, 65, 78, 75] := by
        by_cases e : t.s = [66, 76, 65, 78, 75]
        · exact e
        · exact absurd ⟨HF.out, e⟩ hyes
      have q1 : ((mk t.s).toList == [66, 76, 65, 78, 75]) = true := by rw [toks_eq, hbl]; rfl
      have q2 : (mk t.s).toList = [66, 76, 65, 78, 75] := by rw [toks_eq, hbl]
      clear hbl hyes hAr hRe
      go_wp2_with fail
      go_meet
      case rel => exact ⟨rfl, rfl⟩
    · have hfq : ((F : Int) == 0) = false := by rw [beq_eq_false_iff_ne]; omega
      have hfq' : ¬ ((F : Int) = 0) := by omega
      clear hF0 hyes hAr hRe
      go_wp2_with fail
      go_meet
      case rel => exact ⟨rfl, rfl⟩
  case rest =>
  obtain ⟨rfl, rfl⟩ := hcut
  clear hyes hAr hRe ht1
  obtain ⟨p, cap, h⟩ := HP2.out
  obtain ⟨u, r', rfl⟩ : ∃ u r', r = u :: r' := by
    cases r with
    | nil => have := HII.out; cases this
    | cons u r' => exact ⟨u, r', rfl⟩
  obtain rfl : r' = r2 := by
    have := HII.out
    simp only [isS] at this
    split at this
    · injection this
    · cases this
  obtain ⟨N, hN⟩ : ∃ N, r'.length = N := ⟨_, rfl⟩
  obtain ⟨g, o, rfl, hg, c0, d0, d1, d2, hcap⟩ := h.read (N := N + 1) (by rw [List.length_cons, hN])
  have hpos : (0 : Int) < (N : Int) + 1 + 1 := by omega
  have hpos2 : (2 : Int) ≤ (N : Int) + 1 + 1 := by omega
  have hcI : (N : Int) + 1 + 1 ≤ (cap : Int) := by omega
  have f0 : wc.frozen? ⟨b, 0, none⟩ = false := frozen_of_row wc b 0 _ _ h.blk
  have HPS := Lib.hid h
  have HN := Lib.hid hN
  have HCAP := Lib.hid hcap
  have HLT := Lib.hid h.lt
  have hr := Ext.refl wc
  have z0 := ext_cell (World.block_lt_of_cell? _ _ hc) hc
  have z1 := ext_cell h.lt c0
  have z2 := ext_frozen h.lt f0
  clear h hN d0 d1 d2 hcap c0 hc f0
  go_upto_region 4 with (fail)
  refine region_any (by kernel_rfl) (by kernel_rfl) rfl (fun K hK => ?_)
  repeat (first | (refine seqr_skip (by rfl) (fun ρ => by rfl) ?_; (try simp only [Act.put, List.setIfInBounds_toArray, List.set_cons_zero, List.set_cons_succ])) | (refine seqr_pure (v := ?_) (by rfl) (fun ρ => by rfl) (fun ρ w hE hF => ?_) ?_; rotate_left 1; (· ((try simp only [fill, Act.put, List.setIfInBounds_toArray, List.set_cons_zero, List.set_cons_succ]); go_simp; try with_reducible rfl)); (try simp only [Act.put, List.setIfInBounds_toArray, List.set_cons_zero, List.set_cons_succ])) | (refine seqr_call0 (v := ?_) (f := ?_) (args := ?_) (by rfl) (fun ρ => by rfl) (fun ρ w => ?_) (fun w hE => ?_) ?_; rotate_left 3; (· ((try simp only [fill, Act.put, List.setIfInBounds_toArray, List.set_cons_zero, List.set_cons_succ]); go_simp; constructor <;> with_reducible rfl)); (· (with_reducible exact CallE.call (by assumption) hE)); (try simp only [Act.put, List.setIfInBounds_toArray, List.set_cons_zero, List.set_cons_succ])))
  refine seqr_tails (by kernel_rfl) (fun ρ wN hEN hFN hAN => ?_); (try simp only [fill, Act.put, List.setIfInBounds_toArray, List.set_cons_zero, List.set_cons_succ])
  have f0N := z2 wN hEN
  have c0N := z1 wN hEN
  have HEN := Lib.hid hEN
  clear z0 z1 z2 hEN hFN hAN hr
  obtain ⟨p', hp'⟩ : ∃ p', (if cap = 2 then (some ⟨g, o, none⟩ : Option Addr) else some ⟨g, o + 6, none⟩) = p' := ⟨_, rfl⟩
  rw [hp']
  go_wp2_with fail
  refine (show K _ _ from hK.out _ _ ?_); clear hK K
  obtain ⟨W4, hW4⟩ : ∃ W4, wN.setCell ⟨b, 0, none⟩ (.slice p' N (cap - 2)) = W4 := ⟨_, rfl⟩
  have HP4 : Hid (PAt b sh E d r' W4) := Lib.hid (by
    rw [← hW4]
    refine ⟨p', cap - 2, (HPS.out.ext HEN.out).next 2 p' (cap - 2) N HN.out ?_ ?_⟩
    · intro h0
      have := HCAP.out
      rw [← hp', if_neg (by omega)]
    · have := HCAP.out
      omega)
  have HX4 : Hid (ExtX b wc W4) := Lib.hid (by rw [← hW4]; exact (ExtX.of_ext HEN.out).trans (set_ext _ _))
  rw [hW4]
  clear hW4 hp' f0N c0N
  have HX04 := Lib.hid ((ExtX.of_ext HE2.out).trans HX4.out)
  have HG04 := Lib.hid (HX4.out.blk HG02.out (by have := HB.out; omega))
  have HS4 : Hid (W.heap.size + 3 ≤ W4.heap.size) := Lib.hid (by have := HSZ2.out; have := HX4.out.size; omega)
  go_wp2_with fail
  go_loopw [6] (fun v wr => ∃ m l tr ts'', Hid (m ≤ n) ∧ Hid (argsF E sh m d tr ts'' = some R1) ∧ Hid (l.length = tr.length) ∧ Hid (l.length + ts''.length ≤ 1000) ∧ Hid (wr.ownsRow W4.heap.size 33 17 v l.length (fcells l)) ∧
      Hid (∀ (i : Nat) t f, tr[i]? = some t → l[i]? = some f → Rep wr (fun g => W.heap.size + 3 ≤ g ∧ some g ≠ v.ownBlock) t f) ∧ Hid (ExtX b W4 wr) ∧ Hid (PAt b sh E d ts'' wr)) (fun _ wr => leftAt b wr)
  case atStart => exact ⟨n, [], [], r', Lib.hid (Nat.le_refl _), HAr, Lib.hid rfl, Lib.hid (by have := HP4.out.lims.1; simp only [List.length_nil]; omega), Lib.hid (World.ownsRow_nil _ _ _ _), Lib.hid (fun i t f h => by cases h), Lib.hid (ExtX.refl _ _), HP4⟩
  case round =>
    obtain ⟨m, l, tr, ts'', HM, HAm, HLT2, HSUM, HOw, HRp, HXr, HPr⟩ := hrel
    obtain ⟨p5, cap5, rfl⟩ := owned_form HOw.out
    have hbx := HXr.out.blk HG04.out (by have := HB.out; omega)
    have HBX := Lib.hid hbx
    have hcr := cell_of_row wr W.heap.size 0 _ _ _ hbx
    simp only [List.getElem?_toArray, List.getElem?_cons_zero] at hcr
    have HX0r := Lib.hid (HX04.out.trans HXr.out)
    have HSr : Hid (W.heap.size + 3 ≤ wr.heap.size) := Lib.hid (by have := HS4.out; have := HXr.out.size; omega)
    clear hbx
    go_wp2_with fail
    refine (is_any b sh E d ts'' [41] wr HPr.out).mono ?_
    rintro e w5 (⟨ts1, hi, rfl, hP5, hX5⟩ | ⟨hi, rfl, rfl⟩)
    · have hR1 := args_shut hi HAm.out
      have HRE : Hid (R = endP E (F : Int) tr ts1) := Lib.hid (by rw [HRe.out, hR1, HF.out]; rfl)
      have HP5 := Lib.hid hP5
      have HX5 := Lib.hid hX5
      have HX05 := Lib.hid (HX0r.out.trans hX5)
      have HOw5 : Hid (w5.ownsRow W4.heap.size 33 17 (.slice p5 l.length cap5) l.length (fcells l)) := Lib.hid (hX5.owns HOw.out (by have := HB.out; have := HS4.out; omega))
      have HRp5 : Hid (∀ (i : Nat) t f, tr[i]? = some t → l[i]? = some f → Rep w5 (fun g => W.heap.size + 3 ≤ g) t f) := Lib.hid (fun i t f h1 h2 => ((HRp.out i t f h1 h2).keeps (hX5.keeps (by have := HB.out; omega))).imp' (fun g hg _ => hg.1))
      clear hi hR1 hP5 hX5 hcr
      go_upto_region 10 with (fail)
      go_cut [47] (fun s47 wx => s47 = .bool (decide (F = 0 ∧ l = [])) ∧ wx = w5)
      case first =>
        by_cases hF0 : F = 0
        · subst hF0
          by_cases hl0 : l = []
          · subst hl0
            go_wp2_with fail
            go_meet
            case rel => exact ⟨rfl, rfl⟩
          · have hlp : ((l.length : Int) == 0) = false := by
              rw [beq_eq_false_iff_ne]
              intro e
              exact hl0 (List.length_eq_zero_iff.1 (by omega))
            have hlp' : ¬ l = [] := hl0
            go_wp2_with fail
            go_meet
            case rel => exact ⟨by simp [hl0], rfl⟩
        · have hfq : ((F : Int) == 0) = false := by rw [beq_eq_false_iff_ne]; omega
          have hfq' : ¬ ((F : Int) = 0) := by omega
          go_wp2_with fail
          go_meet
          case rel => exact ⟨by simp [hF0], rfl⟩
      case rest =>
      obtain ⟨rfl, rfl⟩ := hcut
      have hgR : wc.heap[W.heap.size + 1 + 1]? = some (.cells zN 33 (0, 0)) := HX5.out.blk (HXr.out.blk (HX4.out.blk HG12.out (by have := HB.out; omega)) (by have := HB.out; omega)) (by have := HB.out; omega)
      have HGR := Lib.hid hgR
      by_cases hz : F = 0 ∧ l = []
      · have HRE2 : Hid (R = .ok (litT 0 0 [], ts1)) := Lib.hid (by
          rw [HRE.out, endP]
          obtain ⟨h1, h2⟩ := hz
          have htr : tr = [] := List.length_eq_zero_iff.1 (by rw [← HLT2.out, h2]; rfl)
          rw [h1, htr]
          rfl)
        rw [decide_eq_true hz]
        clear hz hgR
        go_wp2_with fail
        refine (tval_any 0 0 ⟨#[]⟩ _).mono ?_
        rintro e w8 ⟨rfl, hE8⟩
        have HE8 := Lib.hid hE8
        have hgR := hE8.blk HGR.out
        clear hE8
        unfold zN at hgR
        unfold Fl.val
        go_wp2_with (first | ((with_reducible refine wpl_guard (isStore 33) ?_ ?_); (· rfl); refine wpl_store (t := ?_) (old := ?_) (w' := ?_) rfl 33 _ _ rfl rfl rfl ?_ ?_ ?_ ?_ ?_ ?_; rotate_left 2; (· (first | (with_reducible assumption) | (simp (disch := (first | omega | (simp only [World.size_alloc, World.size_setCell, World.size_drew, size_setRow]; done) | (simp only [World.size_alloc, World.size_setCell, World.size_drew, size_setRow]; omega))) only [hq_at, hq_past, hq_drew, hq_drewN, hq_cell, hq_row, hq_same, rowOf_cells, Option.map_some, *]; rfl) | (simp (disch := (first | omega | (simp only [World.size_alloc, World.size_setCell, World.size_drew, size_setRow]; done) | (simp only [World.size_alloc, World.size_setCell, World.size_drew, size_setRow]; omega))) only [hq_at, hq_past, hq_drew, hq_drewN, hq_cell, hq_row, hq_same, rowOf_cells, Option.map_some, *]))); (· kernel_rfl); (· rfl); (· rfl); rotate_left 1; (· (first | (simp (disch := (first | omega | (simp only [World.size_alloc, World.size_setCell, World.size_drew, size_setRow]; done) | (simp only [World.size_alloc, World.size_setCell, World.size_drew, size_setRow]; omega))) only [setRow_at, setRow_past, setRow_drew]; rfl) | rfl))))
        exact par_end rfl HB.out (Nat.le_add_right _ 2) (HX05.out.trans (.of_ext HE8.out)) (HP5.out.ext HE8.out) hgR (rep_lit ⟨by omega, by omega⟩ (by show 0 ≤ _; omega)) HRE2.out rfl rfl
      rw [decide_eq_false hz]
      have HZ := Lib.hid hz
      have CF := Lib.hid (fits_any (F : Int) (l.length : Int) wc ((HENV.out.extX HLOW.out HX05.out).1.1))
      clear hz hgR
      go_wp2_with fail
      refine CF.out.mono ?_
      rintro e w6 ⟨rfl, hE6⟩
      have hzz : ((F : Int) == 0 && tr.isEmpty) = false := by
        rw [Bool.and_eq_false_iff]
        by_cases hF0 : F = 0
        · right
          cases tr with
          | nil => exact absurd ⟨hF0, List.length_eq_zero_iff.1 HLT2.out⟩ HZ.out
          | cons => rfl
        · left
          rw [beq_eq_false_iff_ne]
          omega
      have HE6 := Lib.hid hE6
      have HB6 := Lib.hid (hE6.blk (HX5.out.blk HBX.out (by have := HB.out; omega)))
      have hc6 := cell_of_row w6 W.heap.size 0 _ _ _ HB6.out
      simp only [List.getElem?_toArray, List.getElem?_cons_zero] at hc6
      cases hf : fitsOf (F : Int) (l.length : Int)
      · have HRE2 : Hid (R = .error (2, posF E ts1)) := Lib.hid (by
          rw [HRE.out, endP, hzz, ← HLT2.out, hf]
          rfl)
        have HF6 := Lib.hid (fail_at b sh E d ts1 2 w6 (HP5.out.ext hE6))
        clear hf hE6 hzz
        go_wp2_with fail
        refine HF6.out.mono ?_
        rintro e w7 ⟨rfl, rfl⟩
        exact ⟨rfl, .inr ⟨2, _, HRE2.out, rfl, HX05.out.trans (.of_ext HE6.out)⟩⟩
      · have HRE2 : Hid (R = .ok (.mk (parS 8 (F : Int)) tr, ts1)) := Lib.hid (by
          rw [HRE.out, endP, hzz, ← HLT2.out, hf]
          rfl)
        have AP := Lib.hid (apply_any (F : Int) (.slice p5 l.length cap5) l tr W4.heap.size (fun g => W.heap.size + 3 ≤ g) w6 ((ExtX.of_ext (b := b) hE6).owns HOw5.out (by have := HB.out; have := HS4.out; omega)) HLT2.out (by have := HSUM.out; omega) (fun i t f h1 h2 => (HRp5.out i t f h1 h2).ext hE6) (fun g hg => by have := HSr.out; have := HX5.out.size; have := hE6.size; omega))
        clear hf hE6 hzz
        go_wp2_with fail
        refine AP.out.mono ?_
        rintro e w7 ⟨⟨f7, rfl, hR7⟩, hE7⟩
        have HR7 := Lib.hid hR7
        have HE7 := Lib.hid (HE6.out.trans hE7)
        have hgR := HE7.out.blk HGR.out
        clear hR7 hE7
        unfold zN at hgR
        unfold Fl.val
        go_wp2_with (first | ((with_reducible refine wpl_guard (isStore 33) ?_ ?_); (· rfl); refine wpl_store (t := ?_) (old := ?_) (w' := ?_) rfl 33 _ _ rfl rfl rfl ?_ ?_ ?_ ?_ ?_ ?_; rotate_left 2; (· (first | (with_reducible assumption) | (simp (disch := (first | omega | (simp only [World.size_alloc, World.size_setCell, World.size_drew, size_setRow]; done) | (simp only [World.size_alloc, World.size_setCell, World.size_drew, size_setRow]; omega))) only [hq_at, hq_past, hq_drew, hq_drewN, hq_cell, hq_row, hq_same, rowOf_cells, Option.map_some, *]; rfl) | (simp (disch := (first | omega | (simp only [World.size_alloc, World.size_setCell, World.size_drew, size_setRow]; done) | (simp only [World.size_alloc, World.size_setCell, World.size_drew, size_setRow]; omega))) only [hq_at, hq_past, hq_drew, hq_drewN, hq_cell, hq_row, hq_same, rowOf_cells, Option.map_some, *]))); (· kernel_rfl); (· rfl); (· rfl); rotate_left 1; (· (first | (simp (disch := (first | omega | (simp only [World.size_alloc, World.size_setCell, World.size_drew, size_setRow]; done) | (simp only [World.size_alloc, World.size_setCell, World.size_drew, size_setRow]; omega))) only [setRow_at, setRow_past, setRow_drew]; rfl) | rfl))))
        exact par_end rfl HB.out (Nat.le_add_right _ 2) (HX05.out.trans (.of_ext HE7.out)) (HP5.out.ext HE7.out) hgR (HR7.out.imp' (fun k hk _ => by omega)) HRE2.out rfl rfl
    · obtain ⟨m', rfl, hmore⟩ := args_more hi HAm.out
      have HMORE := Lib.hid hmore
      clear hi hmore
      go_upto_if 32 with (fail)
      go_cut [34] (fun _ wx => ∃ ts1, Hid ((tr = [] ∧ ts1 = ts'') ∨ (tr ≠ [] ∧ isS [44] ts'' = some ts1)) ∧ Hid (PAt b sh E d ts1 wx) ∧ Hid (ExtX b w5 wx))
      case first =>
        by_cases hl0 : l = []
        · subst hl0
          have htr : tr = [] := List.length_eq_zero_iff.1 (by rw [← HLT2.out]; rfl)
          clear hcr
          go_wp2_with fail
          go_meet
          case rel => exact ⟨ts'', Lib.hid (.inl ⟨htr, rfl⟩), HPr, Lib.hid (ExtX.refl _ _)⟩
        · have hlp : (0 : Int) < (l.length : Int) := by
            have : l.length ≠ 0 := fun e => hl0 (List.length_eq_zero_iff.1 e)
            omega
          have htr : tr ≠ [] := fun e => by
            have := HLT2.out
            rw [e] at this
            exact hl0 (List.length_eq_zero_iff.1 this)
          have HTR := Lib.hid htr
          have HW := Lib.hid (want_any b sh E d ts'' [44] w5 HPr.out)
          clear hl0 htr
          go_wp2_with fail
          refine HW.out.mono ?_
          rintro e w6 (⟨ts1, hj, rfl, hP6, hX6⟩ | ⟨hj, rfl, rfl⟩)
          · have H1 := Lib.hid hj
            have H2 := Lib.hid hP6
            have H3 := Lib.hid hX6
            clear hj hP6 hX6
            go_wp2_with fail
            go_meet
            case rel => exact ⟨ts1, Lib.hid (.inr ⟨HTR.out, H1.out⟩), H2, H3⟩
          · have hRR : R1 = .error (2, posF E ts'') := by
              rcases HMORE.out with ⟨-, -, h⟩ | ⟨ts1, h | h, -⟩
              · exact h
              · exact absurd h.1 HTR.out
              · rw [hj] at h; cases h.2
            exact ⟨rfl, .inr ⟨2, _, by rw [HRe.out, hRR]; rfl, rfl, HX0r.out⟩⟩
      case rest =>
      obtain ⟨ts1, HTS, HP6, HX6⟩ := hcut
      have htail : (d = 64 ∧ R1 = .error (3, posF E ts1)) ∨ (d ≠ 64 ∧ ∃ R2, exprF E sh m' 0 (d + 1) ts1 = some R2 ∧ ((∃ e, R2 = .error e ∧ R1 = .error e) ∨ ∃ x r', R2 = .ok (x, r') ∧ argsF E sh m' d (tr ++ [x]) r' = some R1)) := by
        rcases HMORE.out with ⟨h1, h2, -⟩ | ⟨ts2, h, ht⟩
        · rcases HTS.out with h | h
          · exact absurd h.1 h1
          · rw [h2] at h; cases h.2
        · have e : ts2 = ts1 := by
            rcases HTS.out with h' | h' <;> rcases h with h | h
            · rw [h.2, h'.2]
            · exact absurd h'.1 h.1
            · exact absurd h.1 h'.1
            · have := h.2.symm.trans h'.2; injection this
          rw [← e]; exact ht
      have HTL : Hid (ts1.length ≤ ts''.length) := Lib.hid (by
        rcases HTS.out with h | h
        · rw [h.2]; exact Nat.le_refl _
        · have := isS_len h.2; omega)
      have HX06 := Lib.hid (HX0r.out.trans HX6.out)
      have HBX6 := Lib.hid (HX6.out.blk HBX.out (by have := HB.out; omega))
      have hc6 := cell_of_row wc W.heap.size 0 _ _ _ HBX6.out
      simp only [List.getElem?_toArray, List.getElem?_cons_zero] at hc6
      go_wp2_with fail
      rcases htail with ⟨rfl, hR1⟩ | ⟨hd, R2, hx, hR1⟩
      · refine (inside_deep b sh E ts1 _ _ _ wc HP6.out).mono ?_
        rintro e w7 hpost
        rcases hpost.ext HX06.out with ⟨x, ts', f, hR, -⟩ | ⟨c, p, hR, rfl, hX⟩
        · cases hR
        · injection hR with hR
          exact ⟨rfl, .inr ⟨c, p, by rw [HRe.out, hR1, hR]; rfl, rfl, hX⟩⟩
      have hd64 : d < 64 := by have := HP6.out.lims.2.2.2.2; omega
      have HR1 := Lib.hid hR1
      have HXE := Lib.hid hx
      have HIN := Lib.hid (inside_any b sh E d ts1 69 #[] #[.pointer (some ⟨W.heap.size, 0, none⟩)] R2 wc HP6.out hd64 call1_enter (fun W2 hPP hXX => call1_any sh E m' W.heap.size b (d + 1) ts1 R2 W2 (HXX.out m' (by have := HM.out; omega)) HXE.out hPP (HENV.out.extX HLOW.out (HX06.out.trans hXX)) HLOW.out (hXX.blk HBX6.out (by have := HB.out; omega))))
      clear hx hR1 hd hd64
      refine HIN.out.mono ?_
      rintro e w7 (⟨x, r9, f, rfl, rfl, hRep, hP7, hX7⟩ | ⟨c, p, rfl, rfl, hX7⟩)
      case inr =>
        rcases HR1.out with ⟨e, he, hRe1⟩ | ⟨_, _, he, _⟩
        · injection he with he
          exact ⟨rfl, .inr ⟨c, p, by rw [HRe.out, hRe1, he]; rfl, rfl, HX06.out.trans hX7⟩⟩
        · cases he
      have hAr : argsF E sh m' d (tr ++ [x]) r9 = some R1 := by
        rcases HR1.out with ⟨e, he, -⟩ | ⟨_, _, he, h⟩
        · cases he
        · injection he with he; injection he with he1 he2; rw [he1, he2]; exact h
      have HAr2 := Lib.hid hAr
      have HLEN := Lib.hid ((used E sh m').expr _ _ _ _ _ HXE.out)
      have HRep := Lib.hid hRep
      have HP7 := Lib.hid hP7
      have HX57 := Lib.hid (HX6.out.trans hX7)
      have HOw7 : Hid (w7.ownsRow W4.heap.size 33 17 (.slice p5 l.length cap5) l.length (fcells l)) := Lib.hid (HX57.out.owns HOw.out (by have := HB.out; have := HS4.out; omega))
      have HLE7 : Hid (W4.heap.size ≤ w7.heap.size) := Lib.hid (Nat.le_trans HXr.out.size HX57.out.size)
      have hbs := bs1 f w7
      have HLEFT := Lib.hid HPr.out.left
      clear hAr hRep hP7 hX7 hc6 hcr
      unfold Fl.val
      go_wp2_with (first
        | ((with_reducible refine wpl_guard isBS ?_ ?_); (· rfl); refine wpl_bs rfl _ _ _ rfl ?_ (hbs) ?_; (· rfl))
        | ((with_reducible refine wpl_guard isApp ?_ ?_); (· rfl); refine app_node rfl _ _ rfl _ l rfl HOw7.out HLE7.out f rfl rfl (by have := HSUM.out; omega) (fun v8 w8 hOw8 hg8 hl8 => ?_)))
      obtain ⟨p8, cap8, rfl⟩ := owned_form hOw8
      have HR8 := Lib.hid (args_round (base := W.heap.size + 3) (by have := HB.out; omega) HS4.out HLT2.out HOw.out HRp.out HXr.out HX57.out HP7.out (HRep.out.imp' (fun k hk _ => Nat.le_trans HX6.out.size hk)) hg8 hl8)
      have HOw8 := Lib.hid hOw8
      obtain ⟨n8', hn8'⟩ : ∃ n, (l ++ [f]).length = n := ⟨_, rfl⟩
      have HN8 := Lib.hid hn8'
      rw [hn8']
      rw [hn8'] at HOw8 HR8
      clear hOw8 hg8 hl8 hn8' hbs
      go_wp2_with fail
      exact ⟨⟨m', l ++ [f], tr ++ [x], r9, Lib.hid (by have := HM.out; omega), HAr2, Lib.hid (by rw [List.length_append, List.length_append, HLT2.out]; rfl), Lib.hid (by rw [List.length_append, List.length_singleton]; have := HSUM.out; have := HLEN.out; have := HTL.out; omega), Lib.hid (by rw [HN8.out]; exact HOw8.out), Lib.hid HR8.out.1, Lib.hid HR8.out.2.1, Lib.hid HR8.out.2.2⟩, by
        rw [HR8.out.2.2.left, HLEFT.out]
        have := HLEN.out
        have := HTL.out
        omega⟩
open Go.RowKit
set_option linter.unusedVariables false

theorem par_all (sh E : Nat) : ∀ n, (∀ m, m ≤ n → ExprS sh E m) ∧ UnaryS sh E n ∧ PrimS sh E n ∧ WordS sh E n
  | 0 => by
    refine ⟨fun m hm => ?_, fun b d ts R W h => by simp [unaryF] at h, fun b d ts R W h => by simp [primF] at h, fun b d t r R W h => by simp [wordF] at h⟩
    obtain rfl : m = 0 := by omega
    exact fun b d lvl ts R W h => by simp [exprF] at h
  | n + 1 => by
    obtain ⟨hX, hU, hP, hW⟩ := par_all sh E n
    have hX' : ExprS sh E (n + 1) := expr_w sh E n hX hU
    refine ⟨fun m hm => ?_, unary_w sh E n hU hP unary_enter, fun b d ts R W hR h hE hb => ?_, word_w sh E n (call_w sh E n hX)⟩
    · by_cases h : m = n + 1
      · rw [h]; exact hX'
      · exact hX m (by omega)
    · cases hi : isS [40] ts with
      | some ts1 => exact prim_par_w sh E n (hX n (Nat.le_refl _)) b d ts ts1 R W hi hR h hE hb
      | none => exact prim_no_w sh E n hW b d ts R W hi hR h hE hb
/-- **A formula's parser.** -/
theorem expr_any (sh E n : Nat) : ExprS sh E n := (par_all sh E n).1 n (Nat.le_refl _)
open Go.RowKit
set_option linter.unusedVariables false

/-- With so much fuel, each function answers. -/
structure Ends (E sh n : Nat) : Prop where
  expr : ∀ lvl d ts, lvl ≤ 4 → 12 * ts.length + 12 - lvl ≤ n → exprF E sh n lvl d ts ≠ none
  loop : ∀ lvl d x ts, lvl ≤ 3 → 12 * ts.length + 12 ≤ n → loopF E sh n lvl d x ts ≠ none
  unary : ∀ d ts, 12 * ts.length + 2 ≤ n → unaryF E sh n d ts ≠ none
  prim : ∀ d ts, 12 * ts.length + 1 ≤ n → primF E sh n d ts ≠ none
  word : ∀ d t ts, 12 * ts.length + 2 ≤ n → wordF E sh n d t ts ≠ none
  args : ∀ d ar ts, 12 * ts.length + 13 ≤ n → argsF E sh n d ar ts ≠ none
theorem ends (E sh : Nat) : ∀ n, Ends E sh n
  | 0 => ⟨fun _ _ _ _ h => by omega, fun _ _ _ _ _ h => by omega, fun _ _ h => by omega, fun _ _ h => by omega, fun _ _ _ h => by omega, fun _ _ _ h => by omega⟩
  | n + 1 => by
    have ih := ends E sh n
    have us := used E sh n
    refine ⟨fun lvl d ts hl hn => ?_, fun lvl d x ts hl hn => ?_, fun d ts hn => ?_, fun d ts hn => ?_, fun d t ts hn => ?_, fun d ar ts hn => ?_⟩
    · rw [exprF]
      split
      · rename_i h4
        have : lvl = 4 := by simpa using h4
        exact ih.unary _ _ (by omega)
      · rename_i h4
        have h4 : lvl ≠ 4 := by simpa using h4
        have h1 := ih.expr (lvl + 1) d ts (by omega) (by omega)
        cases hx : exprF E sh n (lvl + 1) d ts with
        | none => exact absurd hx h1
        | some R =>
          rcases R with e | ⟨y, ts'⟩
          · simp
          · have := us.expr _ _ _ _ _ hx
            exact ih.loop _ _ _ _ (by omega) (by omega)
    · rw [loopF]
      cases ho : opF lvl ts with
      | none => simp
      | some q =>
        obtain ⟨op, ts1⟩ := q
        have h0 := op_len ho
        have h1 := ih.expr (lvl + 1) d ts1 (by omega) (by omega)
        simp only
        cases hx : exprF E sh n (lvl + 1) d ts1 with
        | none => exact absurd hx h1
        | some R =>
          rcases R with e | ⟨y, ts'⟩
          · simp
          · have := us.expr _ _ _ _ _ hx
            exact ih.loop _ _ _ _ (by omega) (by omega)
    · rw [unaryF]
      cases hi : isS [45] ts with
      | some ts1 =>
        have h0 := isS_len hi
        simp only
        split
        · simp
        · have h1 := ih.unary (d + 1) ts1 (by omega)
          cases hx : unaryF E sh n (d + 1) ts1 with
          | none => exact absurd hx h1
          | some R => rcases R with e | ⟨y, ts'⟩ <;> simp
      | none =>
        simp only
        have h1 := ih.prim d ts (by omega)
        cases hx : primF E sh n d ts with
        | none => exact absurd hx h1
        | some R => rcases R with e | ⟨y, ts'⟩ <;> simp
    · rw [primF.eq_def]
      cases hi : isS [40] ts with
      | some ts1 =>
        have h0 := isS_len hi
        simp only [hi]
        split
        · simp
        · have h1 := ih.expr 0 (d + 1) ts1 (by omega) (by omega)
          cases hx : exprF E sh n 0 (d + 1) ts1 with
          | none => exact absurd hx h1
          | some R =>
            rcases R with e | ⟨y, ts'⟩
            · simp
            · simp only
              split <;> simp
      | none =>
        simp only [hi]
        cases ts with
        | nil => simp
        | cons t r =>
          simp only
          split
          · simp
          · split
            · exact ih.word _ _ _ (by simp only [List.length_cons] at hn; omega)
            · simp
    · rw [wordF]
      cases hi : isS [40] ts with
      | none => simp
      | some r2 =>
        have h0 := isS_len hi
        simp only
        split
        · simp
        · have h1 := ih.args d [] r2 (by omega)
          cases hx : argsF E sh n d [] r2 with
          | none => exact absurd hx h1
          | some R => rcases R with e | ⟨y, ts'⟩ <;> simp
    · rw [argsF]
      cases hi : isS [41] ts with
      | some ts1 => simp
      | none =>
        simp only
        have key : ∀ ts1, (if ar.isEmpty then some ts else isS [44] ts) = some ts1 → ts1.length ≤ ts.length := by
          intro ts1 hk
          split at hk
          · injection hk with hk; rw [hk]; exact Nat.le_refl _
          · have := isS_len hk; omega
        cases hk : (if ar.isEmpty then some ts else isS [44] ts) with
        | none => simp
        | some ts1 =>
          have h0 := key ts1 hk
          simp only
          split
          · simp
          · have h1 := ih.expr 0 (d + 1) ts1 (by omega) (by omega)
            cases hx : exprF E sh n 0 (d + 1) ts1 with
            | none => exact absurd hx h1
            | some R =>
              rcases R with e | ⟨y, ts'⟩
              · simp
              · have := us.expr _ _ _ _ _ hx
                exact ih.args _ _ _ (by omega)
/-- A text has a formula or an error. -/
theorem parse_ends (s : List UInt8) (sh : Nat) : parseF s sh ≠ none := by
  unfold parseF
  split
  · simp
  · cases lexAll s with
    | error i => simp
    | ok ts =>
      simp only
      have h1 := (ends s.length sh (12 * ts.length + 12)).expr 0 0 ts (by omega) (by omega)
      cases hx : exprF s.length sh (12 * ts.length + 12) 0 0 ts with
      | none => exact absurd hx h1
      | some R =>
        rcases R with e | ⟨y, ts'⟩
        · simp
        · cases ts' <;> simp
end Go.Proofs.YtffogjhjgmohiaaDoor
