/-
  show: text: walks, node by node. Conditions: each theorem's own.
-/
import Derived.Test.YtbnebiobahajjaaGreatDoorShE
import Derived.Deep.RegionHeld3
import Derived.Laws.MakeOwn
namespace Go.Proofs.YtbnebiobahajjaaGreatDoor
open Go.RowKit
set_option linter.unusedVariables false
set_option linter.unusedSimpArgs false

/-- What text is to hand back, of a tree. -/
def TextS (p : Int) (t : Tr) : Prop := ∀ (least : Nat) (f : Fl) (S : Nat → Prop) (W : World), least ≤ 5 → Rep W S t f → EnvQ W →
  Calls Tryz.prog 26 #[f.val, .int .i64 p, .int .i64 (least : Int)] W fun e w' => e = .returned (.string (mk (shT p least t))) ∧ Ext W w'
theorem len1 {α : Type} {l : List α} (h : l.length = 1) : ∃ a, l = [a] := by
  match l, h with
  | [a], _ => exact ⟨a, rfl⟩
theorem Rep.open1 {W : World} {S : Nat → Prop} {s : Sc} {t : Tr} {f : Fl} (h : Rep W S (.mk s [t]) f) : ∃ g o cap f0, f = s.fl (some ⟨g, o, none⟩) 1 cap ∧ NodeAt W g o f0 ∧ Rep W S t f0 := by
  cases h with
  | mk s ts p cap fs ho hn hl hs hk =>
    obtain ⟨f0, rfl⟩ := len1 hl
    obtain ⟨g, o, hp, hS, hN⟩ := hs 0 f0 rfl
    subst hp
    exact ⟨g, o, cap, f0, rfl, by simpa using hN, hk 0 t f0 rfl rfl⟩
theorem rep_k {W : World} {S : Nat → Prop} {t : Tr} {f : Fl} (h : Rep W S t f) : f.k = t.s.k := by
  cases h with
  | mk s ts p cap fs => rfl
theorem exec_bin' {P : Program} {o : Oper} {a : Act} {w : World} (t t' : TypeId) (x y : Operand) (ho : o.op = .binOp .add t x y t') {vx vy v : Value} (hx : a.eval x = vx) (hy : a.eval y = vy) (h : Sem.run P (binOp .add t vx vy) w = .ok v w) : (execOp a.eval o).run P w = .ok (.value v) w := by
  unfold execOp
  simp only [ho, hx, hy]
  simp [eqGuard, Sem.run_bind, h]
theorem add_run' (x y : ByteArray) (h : (x.size : Int) + (y.size : Int) ≤ 4000000000000000000) (w : World) : Sem.run Tryz.prog (binOp .add 9 (.string x) (.string y)) w = .ok (.string (x ++ y)) w := by
  have h2 : x.size + y.size ≤ 9223372036854775807 := by omega
  simp [go_sem, h2]
  done
set_option maxRecDepth 100000 in
set_option maxHeartbeats 8000000 in
theorem text_lit (p k n : Int) (s : ByteArray) (h : vr k n s = true) (hn : -9223372036854775808 ≤ n ∧ n ≤ 9223372036854775807) : TextS p (.mk (litS k n s) []) := by
  intro least f S W hl hr hE
  obtain ⟨q, cap, hf⟩ := hr.own
  obtain rfl : f = (litS k n s).fl q 0 cap := hf
  obtain ⟨W1, hW1, hE1, hG1, hL1, hS1⟩ := new_blk W ((litS k n s).fl q 0 cap).cells 33
  have HW1 := Lib.hid hW1
  have HX1 := Lib.hid hE1
  have HQ1 := Lib.hid (hE.ext hE1)
  have HG1 := Lib.hid hG1
  have c0 : W1.cell? ⟨W.heap.size, 0, none⟩ = some (.int .i64 1) := by rw [cell_of_row W1 W.heap.size 0 _ _ _ hG1]; rfl
  have c2 : W1.cell? ⟨W.heap.size, 2, none⟩ = some (.int .i64 k) := by rw [cell_of_row W1 W.heap.size 2 _ _ _ hG1]; rfl
  have c3 : W1.cell? ⟨W.heap.size, 3, none⟩ = some (.int .i64 n) := by rw [cell_of_row W1 W.heap.size 3 _ _ _ hG1]; rfl
  have c4 : W1.cell? ⟨W.heap.size, 4, none⟩ = some (.string s) := by rw [cell_of_row W1 W.heap.size 4 _ _ _ hG1]; rfl
  have HL := Lib.hid (literal_any k n s W1 h hn HQ1.out)
  have HV : Hid (shT p least (.mk (litS k n s) []) = src (litP k n s.data.toList)) := Lib.hid (by unfold shT; rw [pcs_lit])
  clear hW1 hE1 hG1 hL1 hS1 hr hE h hn
  unfold Fl.val
  go_enter Tryz.func26, Tryz.ntmps26
  go_upto_region 1 with (fail)
  rw [HW1.out]
  clear HW1
  go_wp2_with fail
  refine HL.out.mono ?_
  rintro e w2 ⟨rfl, hX2⟩
  have HX2 := Lib.hid hX2
  clear hX2
  go_wp2_with fail
  go_ret
  exact ⟨by rw [HV.out]; rfl, HX1.out.trans HX2.out⟩
set_option maxRecDepth 100000 in
set_option maxHeartbeats 8000000 in
theorem text_one (p : Int) (r : Rf) (h : insV r.s r.c r.r = true) : TextS p (.mk (oneS r) []) := by
  intro least f S W hl hr hE
  obtain ⟨q, cap, hf⟩ := hr.own
  obtain rfl : f = (oneS r).fl q 0 cap := hf
  obtain ⟨W1, hW1, hE1, hG1, hL1, hS1⟩ := new_blk W ((oneS r).fl q 0 cap).cells 33
  have HW1 := Lib.hid hW1
  have HX1 := Lib.hid hE1
  have HQ1 := Lib.hid (hE.ext hE1)
  have HG1 := Lib.hid hG1
  have c0 : W1.cell? ⟨W.heap.size, 0, none⟩ = some (.int .i64 2) := by rw [cell_of_row W1 W.heap.size 0 _ _ _ hG1]; rfl
  have c5 : W1.cell? ⟨W.heap.size, 5, none⟩ = some (.int .i64 r.s) := by rw [cell_of_row W1 W.heap.size 5 _ _ _ hG1]; rfl
  have c6 : W1.cell? ⟨W.heap.size, 6, none⟩ = some (.int .i64 r.c) := by rw [cell_of_row W1 W.heap.size 6 _ _ _ hG1]; rfl
  have c7 : W1.cell? ⟨W.heap.size, 7, none⟩ = some (.int .i64 r.r) := by rw [cell_of_row W1 W.heap.size 7 _ _ _ hG1]; rfl
  have c8 : W1.cell? ⟨W.heap.size, 8, none⟩ = some (.bool r.x) := by rw [cell_of_row W1 W.heap.size 8 _ _ _ hG1]; rfl
  have c9 : W1.cell? ⟨W.heap.size, 9, none⟩ = some (.bool r.y) := by rw [cell_of_row W1 W.heap.size 9 _ _ _ hG1]; rfl
  have HL := Lib.hid (pref_any r p W1 h)
  have HV : Hid (shT p least (.mk (oneS r) []) = refL r p) := Lib.hid (by unfold shT; rw [pcs_one, src_one]; rfl)
  clear hW1 hE1 hG1 hL1 hS1 hr hE h
  unfold Fl.val
  go_enter Tryz.func26, Tryz.ntmps26
  go_upto_region 1 with (fail)
  rw [HW1.out]
  clear HW1
  go_wp2_with fail
  refine HL.out.mono ?_
  rintro e w2 ⟨rfl, hX2⟩
  have HX2 := Lib.hid hX2
  clear hX2
  go_wp2_with fail
  go_ret
  exact ⟨by rw [HV.out]; rfl, HX1.out.trans HX2.out⟩
set_option maxRecDepth 100000 in
set_option maxHeartbeats 8000000 in
theorem text_word (p : Int) (l : List UInt8) : TextS p (wordT l) := by
  intro least f S W hl hr hE
  unfold wordT at hr
  obtain ⟨q, cap, hf⟩ := hr.own
  obtain rfl : f = ((⟨4, 0, 0, 0, ⟨#[]⟩, rf0, rf0, mk l⟩ : Sc)).fl q 0 cap := hf
  obtain ⟨W1, hW1, hE1, hG1, hL1, hS1⟩ := new_blk W (((⟨4, 0, 0, 0, ⟨#[]⟩, rf0, rf0, mk l⟩ : Sc)).fl q 0 cap).cells 33
  have HW1 := Lib.hid hW1
  have HX1 := Lib.hid hE1
  have HQ1 := Lib.hid (hE.ext hE1)
  have HG1 := Lib.hid hG1
  have c0 : W1.cell? ⟨W.heap.size, 0, none⟩ = some (.int .i64 4) := by rw [cell_of_row W1 W.heap.size 0 _ _ _ hG1]; rfl
  have c15 : W1.cell? ⟨W.heap.size, 15, none⟩ = some (.string (mk l)) := by rw [cell_of_row W1 W.heap.size 15 _ _ _ hG1]; rfl
  have HV : Hid (shT p least (wordT l) = l) := Lib.hid (by unfold shT; rw [pcs_word, src_one]; rfl)
  clear hW1 hE1 hG1 hL1 hS1 hr hE
  unfold Fl.val
  go_enter Tryz.func26, Tryz.ntmps26
  go_upto_region 1 with (fail)
  rw [HW1.out]
  clear HW1
  go_wp2_with fail
  go_ret
  exact ⟨by rw [HV.out]; rfl, HX1.out⟩
set_option maxRecDepth 100000 in
set_option maxHeartbeats 8000000 in
theorem text_area (p : Int) (a b : Rf) (h : insV a.s a.c a.r = true) (h' : insV b.s b.c b.r = true) : TextS p (.mk (areaS a b) []) := by
  intro least f S W hl hr hE
  obtain ⟨q, cap, hf⟩ := hr.own
  obtain rfl : f = (areaS a b).fl q 0 cap := hf
  obtain ⟨W1, hW1, hE1, hG1, hL1, hS1⟩ := new_blk W ((areaS a b).fl q 0 cap).cells 33
  have HW1 := Lib.hid hW1
  have HX1 := Lib.hid hE1
  have HQ1 := Lib.hid (hE.ext hE1)
  have HG1 := Lib.hid hG1
  have c0 : W1.cell? ⟨W.heap.size, 0, none⟩ = some (.int .i64 3) := by rw [cell_of_row W1 W.heap.size 0 _ _ _ hG1]; rfl
  obtain ⟨A, hA⟩ : ∃ A, mk (refL a p) = A := ⟨_, rfl⟩
  obtain ⟨B, hB⟩ : ∃ B, mk (refL b b.s) = B := ⟨_, rfl⟩
  have hAs : (A.size : Int) ≤ 8 := by rw [← hA, mk_size]; have := ref_len p h; omega
  have hBs : (B.size : Int) ≤ 8 := by rw [← hB, mk_size]; have := ref_len b.s h'; omega
  have e1 : CallE Tryz.prog W1 34 #[.agg #[.int .i64 a.s, .int .i64 a.c, .int .i64 a.r, .bool a.x, .bool a.y], .int .i64 p] (.string A) := fun w _ => by rw [← hA]; exact pref_any a p w h
  have e2 : CallE Tryz.prog W1 34 #[.agg #[.int .i64 b.s, .int .i64 b.c, .int .i64 b.r, .bool b.x, .bool b.y], .int .i64 b.s] (.string B) := fun w _ => by rw [← hB]; exact pref_any b b.s w h'
  have HV : Hid (mk (shT p least (.mk (areaS a b) [])) = A ++ ⟨#[58]⟩ ++ B) := Lib.hid (by
    show _ = A ++ mk [58] ++ B
    rw [← hA, ← hB, mk_both, mk_both]
    unfold shT
    rw [pcs_area]
    simp [src, wordP, signP])
  have hG2 : W1.heap[W.heap.size]? = some (.cells #[.int .i64 3, .int .i64 0, .int .i64 0, .int .i64 0, .string ⟨#[]⟩, .int .i64 a.s, .int .i64 a.c, .int .i64 a.r, .bool a.x, .bool a.y, .int .i64 b.s, .int .i64 b.c, .int .i64 b.r, .bool b.x, .bool b.y, .string ⟨#[]⟩, .slice q 0 cap] 33 (0, 0)) := hG1
  have b1 := ext_blk hG2
  have l1 := ext_lt (blk_lt hG2)
  have j1 := fun w => add_run' A ⟨#[58]⟩ (by have : (⟨#[58]⟩ : ByteArray).size = 1 := rfl; omega) w
  have j2 := fun w => add_run' (A ++ ⟨#[58]⟩) B (by have : (⟨#[58]⟩ : ByteArray).size = 1 := rfl; rw [ByteArray.size_append]; omega) w
  clear hW1 hE1 hG1 hL1 hS1 hr hE h h' hA hB hG2
  unfold Fl.val
  go_enter Tryz.func26, Tryz.ntmps26
  go_upto_region 1 with (fail)
  rw [HW1.out]
  clear HW1
  go_upto_region 10 with (fail)
  clear c0
  (try simp only [Act.put, List.setIfInBounds_toArray, List.set_cons_zero, List.set_cons_succ])
  refine region_any (by kernel_rfl) (by kernel_rfl) rfl (fun K hK => ?_)
  repeat (first | (refine seqr_skip (by rfl) (fun ρ => by rfl) ?_; (try simp only [Act.put, List.setIfInBounds_toArray, List.set_cons_zero, List.set_cons_succ])) | (refine seqr_pure (v := ?_) (by rfl) (fun ρ => by rfl) (fun ρ w hE hF => ?_) ?_; rotate_left 1; (· ((try simp only [fill, Act.put, List.setIfInBounds_toArray, List.set_cons_zero, List.set_cons_succ]); go_simp; try with_reducible rfl)); (try simp only [Act.put, List.setIfInBounds_toArray, List.set_cons_zero, List.set_cons_succ])) | (refine seqr_call0 (v := ?_) (f := ?_) (args := ?_) (by rfl) (fun ρ => by rfl) (fun ρ w => ?_) (fun w hE => ?_) ?_; rotate_left 3; (· ((try simp only [fill, Act.put, List.setIfInBounds_toArray, List.set_cons_zero, List.set_cons_succ]); go_simp; constructor <;> with_reducible rfl)); (· (with_reducible exact CallE.call (by assumption) hE)); (try simp only [Act.put, List.setIfInBounds_toArray, List.set_cons_zero, List.set_cons_succ])))
  refine seqr_pure (v := .string (A ++ ⟨#[58]⟩)) (by rfl) (fun ρ => by rfl) (fun ρ w hE hF => ?_) ?_
  · (try simp only [fill, Act.put, List.setIfInBounds_toArray, List.set_cons_zero, List.set_cons_succ])
    exact exec_bin' _ _ _ _ rfl rfl rfl (j1 w)
  (try simp only [Act.put, List.setIfInBounds_toArray, List.set_cons_zero, List.set_cons_succ])
  repeat (first | (refine seqr_skip (by rfl) (fun ρ => by rfl) ?_; (try simp only [Act.put, List.setIfInBounds_toArray, List.set_cons_zero, List.set_cons_succ])) | (refine seqr_pure (v := ?_) (by rfl) (fun ρ => by rfl) (fun ρ w hE hF => ?_) ?_; rotate_left 1; (· ((try simp only [fill, Act.put, List.setIfInBounds_toArray, List.set_cons_zero, List.set_cons_succ]); go_simp; try with_reducible rfl)); (try simp only [Act.put, List.setIfInBounds_toArray, List.set_cons_zero, List.set_cons_succ])) | (refine seqr_call0 (v := ?_) (f := ?_) (args := ?_) (by rfl) (fun ρ => by rfl) (fun ρ w => ?_) (fun w hE => ?_) ?_; rotate_left 3; (· ((try simp only [fill, Act.put, List.setIfInBounds_toArray, List.set_cons_zero, List.set_cons_succ]); go_simp; constructor <;> with_reducible rfl)); (· (with_reducible exact CallE.call (by assumption) hE)); (try simp only [Act.put, List.setIfInBounds_toArray, List.set_cons_zero, List.set_cons_succ])))
  refine seqr_pure (v := .string (A ++ ⟨#[58]⟩ ++ B)) (by rfl) (fun ρ => by rfl) (fun ρ w hE hF => ?_) ?_
  · (try simp only [fill, Act.put, List.setIfInBounds_toArray, List.set_cons_zero, List.set_cons_succ])
    exact exec_bin' _ _ _ _ rfl rfl rfl (j2 w)
  (try simp only [Act.put, List.setIfInBounds_toArray, List.set_cons_zero, List.set_cons_succ])
  repeat (first | (refine seqr_skip (by rfl) (fun ρ => by rfl) ?_; (try simp only [Act.put, List.setIfInBounds_toArray, List.set_cons_zero, List.set_cons_succ])) | (refine seqr_pure (v := ?_) (by rfl) (fun ρ => by rfl) (fun ρ w hE hF => ?_) ?_; rotate_left 1; (· ((try simp only [fill, Act.put, List.setIfInBounds_toArray, List.set_cons_zero, List.set_cons_succ]); go_simp; try with_reducible rfl)); (try simp only [Act.put, List.setIfInBounds_toArray, List.set_cons_zero, List.set_cons_succ])) | (refine seqr_call0 (v := ?_) (f := ?_) (args := ?_) (by rfl) (fun ρ => by rfl) (fun ρ w => ?_) (fun w hE => ?_) ?_; rotate_left 3; (· ((try simp only [fill, Act.put, List.setIfInBounds_toArray, List.set_cons_zero, List.set_cons_succ]); go_simp; constructor <;> with_reducible rfl)); (· (with_reducible exact CallE.call (by assumption) hE)); (try simp only [Act.put, List.setIfInBounds_toArray, List.set_cons_zero, List.set_cons_succ])))
  refine seqr_done (fun ρ wN hEN hFN => ?_); (try simp only [fill, Act.put, List.setIfInBounds_toArray, List.set_cons_zero, List.set_cons_succ]); refine (show K _ _ from hK.out _ _ ?_); clear hK K
  have HX2 := Lib.hid hEN
  clear hEN hFN e1 e2 b1 l1
  go_wp2_with fail
  go_ret
  exact ⟨by rw [HV.out]; rfl, HX1.out.trans HX2.out⟩
theorem brk_txt (b : Bool) (l : List Pc) (X : ByteArray) (hX : mk (src l) = X) : mk (src (brk b l)) = if b = true then ⟨#[40]⟩ ++ X ++ ⟨#[41]⟩ else X := by
  cases b
  · simpa [brk] using hX
  · show _ = mk [40] ++ X ++ mk [41]
    rw [← hX, mk_both, mk_both]
    simp [brk, src, signP]
set_option maxRecDepth 100000 in
set_option maxHeartbeats 8000000 in
theorem text_neg (p : Int) (t : Tr) (ht : GT t) (hz : sizeT t ≤ 1000000000) (it : TextS p t) : TextS p (.mk (parS 5 0) [t]) := by
  intro least f S W hl hr hE
  obtain ⟨g, o, cap, f0, rfl, hN0, hR0⟩ := hr.open1
  obtain ⟨W1, hW1, hE1, hG1, hL1, hS1⟩ := new_blk W ((parS 5 0).fl (some ⟨g, o, none⟩) 1 cap).cells 33
  have HW1 := Lib.hid hW1
  have HX1 := Lib.hid hE1
  have HQ1 := Lib.hid (hE.ext hE1)
  have HG1 := Lib.hid hG1
  have c0 : W1.cell? ⟨W.heap.size, 0, none⟩ = some (.int .i64 5) := by rw [cell_of_row W1 W.heap.size 0 _ _ _ hG1]; rfl
  have c16 : W1.cell? ⟨W.heap.size, 16, none⟩ = some (.slice (some ⟨g, o, none⟩) 1 cap) := by rw [cell_of_row W1 W.heap.size 16 _ _ _ hG1]; rfl
  have hna : NodeAt W1 g o f0 := hN0.ext hE1
  obtain ⟨A, hA⟩ : ∃ A, mk (shT p 4 t) = A := ⟨_, rfl⟩
  have hAs : (A.size : Int) ≤ 300000000000 := by rw [← hA, mk_size]; have := sh_len p ht 4; omega
  have HC : Hid (Calls Tryz.prog 26 #[.agg f0.cells, .int .i64 p, .int .i64 4] W1 fun e w' => e = .returned (.string A) ∧ Ext W1 w') := Lib.hid (by rw [← hA]; exact it 4 f0 S W1 (by decide) (hR0.ext hE1) (HQ1.out))
  obtain ⟨X, hX⟩ : ∃ X, (⟨#[45]⟩ : ByteArray) ++ A = X := ⟨_, rfl⟩
  have HX := Lib.hid hX
  have hXs : (X.size : Int) ≤ 400000000000 := by rw [← hX, ByteArray.size_append]; have : (⟨#[45]⟩ : ByteArray).size = 1 := rfl; omega
  have HV : Hid (mk (shT p least (.mk (parS 5 0) [t])) = if (4 : Int) < (least : Int) then ⟨#[40]⟩ ++ X ++ ⟨#[41]⟩ else X) := Lib.hid (by
    unfold shT
    rw [pcs_neg, brk_txt _ _ X (by rw [← hX, ← hA]; show _ = mk [45] ++ _; rw [mk_both]; simp [src, signP, shT])]
    by_cases h4 : 4 < least <;> simp [h4] <;> omega)
  clear hW1 hE1 hG1 hL1 hS1 hr hE hN0 hR0 hA hX it ht hz hl
  unfold Fl.val
  go_enter Tryz.func26, Tryz.ntmps26
  go_upto_region 1 with (fail)
  rw [HW1.out]
  clear HW1
  by_cases hlt : (4 : Int) < (least : Int)
  · rw [if_pos hlt] at HV
    go_wp2_with ((with_reducible refine wpl_guard (isLoad 33) ?_ ?_); (· rfl); refine wpl_load_node rfl 33 _ rfl rfl hna Tryz.underlying33 rfl ?_ ?_; (· kernel_rfl); (try dsimp only [Act.put, List.setIfInBounds_toArray, List.set_cons_zero, List.set_cons_succ]))
    refine HC.out.mono ?_
    rintro e w2 ⟨rfl, hX2⟩
    have HX2 := Lib.hid hX2
    clear hX2
    go_upto_region 23 with (fail)
    rw [HX.out]
    go_wp2_with fail
    go_ret
    exact ⟨by rw [HV.out]; rfl, HX1.out.trans HX2.out⟩
  · rw [if_neg hlt] at HV
    go_wp2_with ((with_reducible refine wpl_guard (isLoad 33) ?_ ?_); (· rfl); refine wpl_load_node rfl 33 _ rfl rfl hna Tryz.underlying33 rfl ?_ ?_; (· kernel_rfl); (try dsimp only [Act.put, List.setIfInBounds_toArray, List.set_cons_zero, List.set_cons_succ]))
    refine HC.out.mono ?_
    rintro e w2 ⟨rfl, hX2⟩
    have HX2 := Lib.hid hX2
    clear hX2
    go_upto_region 23 with (fail)
    rw [HX.out]
    go_wp2_with fail
    go_ret
    exact ⟨by rw [HV.out]; rfl, HX1.out.trans HX2.out⟩
set_option maxRecDepth 100000 in
set_option maxHeartbeats 8000000 in
theorem text_pct (p : Int) (t : Tr) (ht : GT t) (hz : sizeT t ≤ 1000000000) (it : TextS p t) : TextS p (.mk (parS 6 0) [t]) := by
  intro least f S W hl hr hE
  obtain ⟨g, o, cap, f0, rfl, hN0, hR0⟩ := hr.open1
  obtain ⟨W1, hW1, hE1, hG1, hL1, hS1⟩ := new_blk W ((parS 6 0).fl (some ⟨g, o, none⟩) 1 cap).cells 33
  have HW1 := Lib.hid hW1
  have HX1 := Lib.hid hE1
  have HQ1 := Lib.hid (hE.ext hE1)
  have HG1 := Lib.hid hG1
  have c0 : W1.cell? ⟨W.heap.size, 0, none⟩ = some (.int .i64 6) := by rw [cell_of_row W1 W.heap.size 0 _ _ _ hG1]; rfl
  have c16 : W1.cell? ⟨W.heap.size, 16, none⟩ = some (.slice (some ⟨g, o, none⟩) 1 cap) := by rw [cell_of_row W1 W.heap.size 16 _ _ _ hG1]; rfl
  have hna : NodeAt W1 g o f0 := hN0.ext hE1
  have HNA := Lib.hid hna
  have hl5 : ¬ (5 : Int) < (least : Int) := by omega
  obtain ⟨A, hA⟩ : ∃ A, mk (shT p 5 t) = A := ⟨_, rfl⟩
  have hAs : (A.size : Int) ≤ 300000000000 := by rw [← hA, mk_size]; have := sh_len p ht 5; omega
  have HC : Hid (Calls Tryz.prog 26 #[.agg f0.cells, .int .i64 p, .int .i64 5] W1 fun e w' => e = .returned (.string A) ∧ Ext W1 w') := Lib.hid (by rw [← hA]; exact it 5 f0 S W1 (by decide) (hR0.ext hE1) (HQ1.out))
  obtain ⟨B, hB⟩ : ∃ B, mk (shT p 0 t) = B := ⟨_, rfl⟩
  have hBs : (B.size : Int) ≤ 300000000000 := by rw [← hB, mk_size]; have := sh_len p ht 0; omega
  have HD : Hid (∀ w, Ext W1 w → Calls Tryz.prog 26 #[.agg f0.cells, .int .i64 p, .int .i64 0] w fun e w' => e = .returned (.string B) ∧ Ext w w') := Lib.hid (fun w hEw => by rw [← hB]; exact it 0 f0 S w (by decide) ((hR0.ext hE1).ext hEw) (HQ1.out.ext hEw))
  have HK : Hid (f0.k = t.s.k) := Lib.hid (rep_k hR0)
  have HV : Hid (mk (shT p least (.mk (parS 6 0) [t])) = A ++ ⟨#[37]⟩) := Lib.hid (by
    show _ = A ++ mk [37]
    rw [← hA, mk_both]
    unfold shT
    rw [pcs_pct]
    simp [src, signP])
  have HV5 : t.s.k = 5 → mk (shT p least (.mk (parS 6 0) [t])) = ⟨#[40]⟩ ++ B ++ ⟨#[41, 37]⟩ := fun hk => by
    show _ = mk [40] ++ B ++ mk [41, 37]
    rw [← hB, mk_both, mk_both]
    unfold shT
    rw [pcs_pct]
    cases ht with
    | neg u hu => simp [pcs_neg, brk, src, signP]
    | _ => exact absurd hk (by simp [Tr.s, litS, oneS, areaS, wordT, parS])
  have HV5' := Lib.hid HV5
  clear hW1 hE1 hG1 hL1 hS1 hr hE hN0 hR0 hA hB it ht hz hl HV5
  unfold Fl.val
  go_enter Tryz.func26, Tryz.ntmps26
  go_upto_region 1 with (fail)
  rw [HW1.out]
  clear HW1
  go_wp2_with ((with_reducible refine wpl_guard (isLoad 33) ?_ ?_); (· rfl); refine wpl_load_node rfl 33 _ rfl rfl hna Tryz.underlying33 rfl ?_ ?_; (· kernel_rfl); (try dsimp only [Act.put, List.setIfInBounds_toArray, List.set_cons_zero, List.set_cons_succ]))
  refine HC.out.mono ?_
  rintro e w2 ⟨rfl, hX2⟩
  have HX2 := Lib.hid hX2
  have d16 : w2.cell? ⟨W.heap.size, 16, none⟩ = some (.slice (some ⟨g, o, none⟩) 1 cap) := by rw [cell_of_row w2 W.heap.size 16 _ _ _ (hX2.blk HG1.out)]; rfl
  have hnb : NodeAt w2 g o f0 := HNA.out.ext hX2
  have dk : w2.cell? ⟨g, o, none⟩ = some (.int .i64 f0.k) := hnb.k
  rw [HK.out] at dk
  clear hX2 c0 c16 hna
  by_cases hk : t.s.k = 5
  · rw [hk] at dk
    have HVV := Lib.hid (HV5'.out hk)
    clear hk
    go_wp2_with ((with_reducible refine wpl_guard (isLoad 33) ?_ ?_); (· rfl); refine wpl_load_node rfl 33 _ rfl rfl hnb Tryz.underlying33 rfl ?_ ?_; (· kernel_rfl); (try dsimp only [Act.put, List.setIfInBounds_toArray, List.set_cons_zero, List.set_cons_succ]))
    refine (HD.out w2 HX2.out).mono ?_
    rintro e w3 ⟨rfl, hX3⟩
    have HX3 := Lib.hid hX3
    clear hX3
    go_wp2_with fail
    go_ret
    exact ⟨by rw [HVV.out]; rfl, HX1.out.trans (HX2.out.trans HX3.out)⟩
  · go_wp2_with fail
    go_ret
    exact ⟨by rw [HV.out]; rfl, HX1.out.trans HX2.out⟩
theorem brk_txt2 (b : Bool) (l : List Pc) (X : ByteArray) (hX : mk (src l) = X) : mk (src (brk b l)) = if b = true then ⟨#[40]⟩ ++ X ++ ⟨#[41]⟩ else X := by
  cases b
  · simpa [brk] using hX
  · show _ = mk [40] ++ X ++ mk [41]
    rw [← hX, mk_both, mk_both]
    simp [brk, src, signP]
theorem exec_index {P : Program} {o : Oper} {a : Act} {w : World} (t : TypeId) (x i : Operand) (ho : o.op = .indexAddr t x i) {vx vi v : Value} (hx : a.eval x = vx) (hi : a.eval i = vi)
    (hr : (Instr.indexAt t vx vi).run P w = .ok v w) : (execOp a.eval o).run P w = .ok (.value v) w := by
  unfold execOp
  simp only [ho, hx, hi, Sem.run_bind, hr, Result.andThen_ok, Sem.run_pure]
theorem exec_load_one {P : Program} {o : Oper} {a : Act} {w : World} (t : TypeId) (x : Operand) (ho : o.op = .load t x) {vx v : Value} (hx : a.eval x = vx) (hr : (Instr.loadAt t vx).run P w = .ok v w) : (execOp a.eval o).run P w = .ok (.value v) w := by
  unfold execOp
  simp only [ho, hx, Sem.run_bind, hr, Result.andThen_ok, Sem.run_pure]
theorem at_op (g : Nat) (k : Nat) (hk : k < 11) (w : World) : (Instr.indexAt 70 (.slice (some ⟨g, 0, none⟩) 11 11) (.int .i64 (k : Int))).run Tryz.prog w = .ok (.pointer (some ⟨g, k, none⟩)) w := by
  rw [run_indexAt_slice (P := Tryz.prog) w 70 ⟨g, 0, none⟩ 11 11 .i64 (k : Int) (by kernel_rfl), if_pos ⟨by omega, by omega⟩]
  have hz : (sizeOf (Tryz.prog.elem 70)).run Tryz.prog w = .ok 1 w := by kernel_rfl
  have hadd : (⟨g, 0, none⟩ : Addr).add (k * 1) = ⟨g, k, none⟩ := by unfold Addr.add; split <;> simp_all
  rw [hz]
  simp only [Result.andThen_ok, Int.toNat_natCast, hadd]
/-- The signs' texts in a slice; where one lies. -/
def opsRow : Obj := .cells (opsLit.map fun l => Value.string ⟨l.toArray⟩).toArray 9 (0, 0)
def OpsV : Value → World → Prop := fun v w => ∃ b, v = .slice (some ⟨b, 0, none⟩) 11 11 ∧ w.heap[b]? = some opsRow
theorem OpsV.lasts : Lasts OpsV := fun v w w' ⟨b, hv, h⟩ hE => ⟨b, hv, hE.blk h⟩
def OpsA (k : Nat) : Value → World → Prop := fun v w => ∃ b, v = .pointer (some ⟨b, k, none⟩) ∧ w.heap[b]? = some opsRow
theorem OpsA.lasts (k : Nat) : Lasts (OpsA k) := fun v w w' ⟨b, hv, h⟩ hE => ⟨b, hv, hE.blk h⟩
theorem ops_at {k : Nat} (hk : k < 11) : (opsLit.map fun l => Value.string ⟨l.toArray⟩)[k]? = some (.string (mk (opsLit.getD k []))) := by
  rw [List.getElem?_map, List.getD_eq_getElem?_getD, List.getElem?_eq_getElem (show k < opsLit.length from hk)]
  rfl
theorem fields_ops (w : World) (h : Tab w) : Calls Tryz.prog 32 #[.string opsTxt] w fun e w' => ∃ v, e = .returned v ∧ Ext w w' ∧ OpsV v w' := by
  refine (ops_fields w h).mono ?_
  rintro e w' ⟨rfl, hw⟩
  exact ⟨_, rfl, by rw [hw]; exact below_alloc1 _ _, _, rfl, by rw [hw]; exact hq_at _ _ rfl⟩
set_option maxRecDepth 100000 in
set_option maxHeartbeats 8000000 in
theorem text_bin (p op : Int) (t u : Tr) (h : 1 ≤ op ∧ op ≤ 11) (ht : GT t) (hu : GT u) (hz : sizeT t ≤ 1000000000 ∧ sizeT u ≤ 1000000000) (it : TextS p t) (iu : TextS p u) : TextS p (.mk (parS 7 op) [t, u]) := by
  obtain ⟨k, rfl⟩ : ∃ k : Nat, op = (k : Int) + 1 := ⟨op.toNat - 1, by omega⟩
  intro least f S W hl hr hE
  obtain ⟨g, o, cap, f0, f1, rfl, -, hN0, hN1, hR0, hR1⟩ := hr.open2
  obtain ⟨W1, hW1, hE1, hG1, hL1, hS1⟩ := new_blk W ((parS 7 ((k : Int) + 1)).fl (some ⟨g, o, none⟩) 2 cap).cells 33
  have HW1 := Lib.hid hW1
  have HX1 := Lib.hid hE1
  have HQ1 := Lib.hid (hE.ext hE1)
  have HG1 := Lib.hid hG1
  have c0 : W1.cell? ⟨W.heap.size, 0, none⟩ = some (.int .i64 7) := by rw [cell_of_row W1 W.heap.size 0 _ _ _ hG1]; rfl
  have c1 : W1.cell? ⟨W.heap.size, 1, none⟩ = some (.int .i64 ((k : Int) + 1)) := by rw [cell_of_row W1 W.heap.size 1 _ _ _ hG1]; rfl
  have c16 : W1.cell? ⟨W.heap.size, 16, none⟩ = some (.slice (some ⟨g, o, none⟩) 2 cap) := by rw [cell_of_row W1 W.heap.size 16 _ _ _ hG1]; rfl
  have hna : NodeAt W1 g o f0 := hN0.ext hE1
  have hnb : NodeAt W1 g (o + 17) f1 := hN1.ext hE1
  have HNA := Lib.hid hna
  have HNB := Lib.hid hnb
  have HLV := Lib.hid (level_any ((k : Int) + 1) W1 h)
  have hl3 := lvlOf_le ((k : Int) + 1)
  obtain ⟨n, hn⟩ : ∃ n, lvlOf ((k : Int) + 1) = n := ⟨_, rfl⟩
  rw [hn] at HLV hl3
  have hk11 : k < 11 := by omega
  have HK11 := Lib.hid hk11
  obtain ⟨O, hO⟩ : ∃ O, mk (opL ((k : Int) + 1)) = O := ⟨_, rfl⟩
  have HOL : Hid (mk (opsLit.getD k []) = O) := Lib.hid (by rw [← hO, opL, show ((k : Int) + 1).toNat - 1 = k by omega])
  have hOs : (O.size : Int) ≤ 2 := by rw [← hO, mk_size]; have := op_len' ((k : Int) + 1); omega
  obtain ⟨A, hA⟩ : ∃ A, mk (shT p n t) = A := ⟨_, rfl⟩
  have hAs : (A.size : Int) ≤ 300000000000 := by rw [← hA, mk_size]; have := sh_len p ht n; omega
  obtain ⟨B, hB⟩ : ∃ B, mk (shT p (n + 1) u) = B := ⟨_, rfl⟩
  have hBs : (B.size : Int) ≤ 300000000000 := by rw [← hB, mk_size]; have := sh_len p hu (n + 1); omega
  have e1 : CallE Tryz.prog W1 26 #[.agg f0.cells, .int .i64 p, .int .i64 (n : Int)] (.string A) := fun w hEw => by rw [← hA]; exact it n f0 S w (by omega) ((hR0.ext hE1).ext hEw) (HQ1.out.ext hEw)
  have e2 : CallE Tryz.prog W1 26 #[.agg f1.cells, .int .i64 p, .int .i64 ((n : Int) + 1)] (.string B) := fun w hEw => by rw [← hB]; have := iu (n + 1) f1 S w (by omega) ((hR1.ext hE1).ext hEw) (HQ1.out.ext hEw); rw [show ((n + 1 : Nat) : Int) = (n : Int) + 1 from by omega] at this; exact this
  obtain ⟨X, hX⟩ : ∃ X, A ++ O ++ B = X := ⟨_, rfl⟩
  have HX := Lib.hid hX
  have hXs : (X.size : Int) ≤ 900000000000 := by rw [← hX, ByteArray.size_append, ByteArray.size_append]; omega
  have HV : Hid (mk (shT p least (.mk (parS 7 ((k : Int) + 1)) [t, u])) = if (n : Int) < (least : Int) then ⟨#[40]⟩ ++ X ++ ⟨#[41]⟩ else X) := Lib.hid (by
    unfold shT
    rw [pcs_bin, hn, brk_txt2 _ _ X (by rw [← hX, ← hA, ← hO, ← hB, mk_both, mk_both]; simp [src, signP, shT])]
    by_cases h4 : n < least <;> simp [h4] <;> omega)
  have j1 := fun w => add_run' A O (by omega) w
  have j2 := fun w => add_run' (A ++ O) B (by rw [ByteArray.size_append]; omega) w
  rw [hX] at j2
  have hk0 : (0 : Int) ≤ (k : Int) := by omega
  have hkI : (k : Int) < 11 := by omega
  have hnI : (n : Int) ≤ 3 := by omega
  have hn0 : (0 : Int) ≤ (n : Int) := by omega
  have b1 := ext_blk (show W1.heap[W.heap.size]? = some (.cells #[.int .i64 7, .int .i64 ((k : Int) + 1), .int .i64 0, .int .i64 0, .string ⟨#[]⟩, .int .i64 0, .int .i64 0, .int .i64 0, .bool false, .bool false, .int .i64 0, .int .i64 0, .int .i64 0, .bool false, .bool false, .string ⟨#[]⟩, .slice (some ⟨g, o, none⟩) 2 cap] 33 (0, 0)) from hG1)
  have l1 := ext_lt hL1
  have x1 := ext_cell hL1 c1
  have x16 := ext_cell hL1 c16
  clear hW1 hE1 hG1 hL1 hS1 hr hE hN0 hR0 hN1 hR1 hA hB hO hX it iu ht hu hz hl hna hnb hn h hl3 hk11
  unfold Fl.val
  go_enter Tryz.func26, Tryz.ntmps26
  go_upto_region 1 with (fail)
  rw [HW1.out]
  clear HW1
  go_wp2_with fail
  refine HLV.out.mono ?_
  rintro e w2 ⟨rfl, rfl⟩
  go_upto_region 4 with (fail)
  clear c0
  (try simp only [Act.put, List.setIfInBounds_toArray, List.set_cons_zero, List.set_cons_succ])
  refine region_any (by kernel_rfl) (by kernel_rfl) rfl (fun K hK => ?_)
  repeat (first | (refine seqr_skip (by rfl) (fun ρ => by rfl) ?_; (try simp only [Act.put, List.setIfInBounds_toArray, List.set_cons_zero, List.set_cons_succ])) | (refine seqr_pure (v := ?_) (by rfl) (fun ρ => by rfl) (fun ρ w hE hF => ?_) ?_; rotate_left 1; (· ((try simp only [fill, Act.put, List.setIfInBounds_toArray, List.set_cons_zero, List.set_cons_succ]); go_simp; try with_reducible rfl)); (try simp only [Act.put, List.setIfInBounds_toArray, List.set_cons_zero, List.set_cons_succ])) | (refine seqr_call0 (v := ?_) (f := ?_) (args := ?_) (by rfl) (fun ρ => by rfl) (fun ρ w => ?_) (fun w hE => ?_) ?_; rotate_left 3; (· ((try simp only [fill, Act.put, List.setIfInBounds_toArray, List.set_cons_zero, List.set_cons_succ]); go_simp; constructor <;> with_reducible rfl)); (· (with_reducible exact CallE.call (by assumption) hE)); (try simp only [Act.put, List.setIfInBounds_toArray, List.set_cons_zero, List.set_cons_succ])))
  refine seqr_pure (v := .agg f0.cells) (by rfl) (fun ρ => by rfl) (fun ρ w hE hF => ?_) ?_
  · (try simp only [fill, Act.put, List.setIfInBounds_toArray, List.set_cons_zero, List.set_cons_succ])
    exact exec_load_at 33 _ rfl rfl (HNA.out.ext hE) Tryz.underlying33 rfl (by kernel_rfl)
  (try simp only [Act.put, List.setIfInBounds_toArray, List.set_cons_zero, List.set_cons_succ])
  repeat (first | (refine seqr_skip (by rfl) (fun ρ => by rfl) ?_; (try simp only [Act.put, List.setIfInBounds_toArray, List.set_cons_zero, List.set_cons_succ])) | (refine seqr_pure (v := ?_) (by rfl) (fun ρ => by rfl) (fun ρ w hE hF => ?_) ?_; rotate_left 1; (· ((try simp only [fill, Act.put, List.setIfInBounds_toArray, List.set_cons_zero, List.set_cons_succ]); go_simp; try with_reducible rfl)); (try simp only [Act.put, List.setIfInBounds_toArray, List.set_cons_zero, List.set_cons_succ])) | (refine seqr_call0 (v := ?_) (f := ?_) (args := ?_) (by rfl) (fun ρ => by rfl) (fun ρ w => ?_) (fun w hE => ?_) ?_; rotate_left 3; (· ((try simp only [fill, Act.put, List.setIfInBounds_toArray, List.set_cons_zero, List.set_cons_succ]); go_simp; constructor <;> with_reducible rfl)); (· (with_reducible exact CallE.call (by assumption) hE)); (try simp only [Act.put, List.setIfInBounds_toArray, List.set_cons_zero, List.set_cons_succ])))
  refine seqr_rel OpsV OpsV.lasts rfl (by rfl) (fun ρ => by rfl) (fun ρ w hE hF => ?_) ?_
  · refine outcome_call (f := 32) (args := #[.string opsTxt]) ?_ (fields_ops w (HQ1.out.ext hE).1)
    (try simp only [fill, Act.put, List.setIfInBounds_toArray, List.set_cons_zero, List.set_cons_succ])
    unfold opsTxt
    go_simp
  (try simp only [Act.put, List.setIfInBounds_toArray, List.set_cons_zero, List.set_cons_succ])
  (refine seqr_pure (v := ?_) (by rfl) (fun ρ => by rfl) (fun ρ w hE hF => ?_) ?_; rotate_left 1; (· ((try simp only [fill, Act.put, List.setIfInBounds_toArray, List.set_cons_zero, List.set_cons_succ]); go_simp; try with_reducible rfl)); (try simp only [Act.put, List.setIfInBounds_toArray, List.set_cons_zero, List.set_cons_succ]))
  (refine seqr_pure (v := ?_) (by rfl) (fun ρ => by rfl) (fun ρ w hE hF => ?_) ?_; rotate_left 1; (· ((try simp only [fill, Act.put, List.setIfInBounds_toArray, List.set_cons_zero, List.set_cons_succ]); go_simp; try with_reducible rfl)); (try simp only [Act.put, List.setIfInBounds_toArray, List.set_cons_zero, List.set_cons_succ]))
  refine seqr_pure (v := .int .i64 (k : Int)) (by rfl) (fun ρ => by rfl) (fun ρ w hE hF => ?_) ?_
  · (try simp only [fill, Act.put, List.setIfInBounds_toArray, List.set_cons_zero, List.set_cons_succ])
    have hw : IntKind.i64.wrap (k : Int) = (k : Int) := IntWalk.i64_in _ ⟨by omega, by omega⟩
    go_simp
    try simp only [hw]
    try omega
  (try simp only [Act.put, List.setIfInBounds_toArray, List.set_cons_zero, List.set_cons_succ])
  refine seqr_rel (OpsA k) (OpsA.lasts k) rfl (by rfl) (fun ρ => by rfl) (fun ρ w hE hF => ?_) ?_
  · obtain ⟨b, hv, hb⟩ := hF.get (.head _) (by rfl)
    refine outcome_value ?_ (Ext.refl w) ⟨b, rfl, hb⟩
    (try simp only [fill, Act.put, List.setIfInBounds_toArray, List.set_cons_zero, List.set_cons_succ])
    exact exec_index 70 _ _ rfl (by simp only [Act.eval]; exact hv) rfl (at_op b k HK11.out w)
  (try simp only [Act.put, List.setIfInBounds_toArray, List.set_cons_zero, List.set_cons_succ])
  refine seqr_pure (v := .string O) (by rfl) (fun ρ => by rfl) (fun ρ w hE hF => ?_) ?_
  · obtain ⟨b, hv, hb⟩ := hF.get (.head _) (by rfl)
    have hc : w.cell? ⟨b, k, none⟩ = some (.string O) := by
      rw [cell_of_row w b k _ _ _ hb, List.getElem?_toArray, ops_at HK11.out, HOL.out]
    (try simp only [fill, Act.put, List.setIfInBounds_toArray, List.set_cons_zero, List.set_cons_succ])
    exact exec_load_one 9 _ rfl (by simp only [Act.eval]; exact hv) (by go_simp)
  (try simp only [Act.put, List.setIfInBounds_toArray, List.set_cons_zero, List.set_cons_succ])
  refine seqr_pure (v := .string (A ++ O)) (by rfl) (fun ρ => by rfl) (fun ρ w hE hF => ?_) ?_
  · (try simp only [fill, Act.put, List.setIfInBounds_toArray, List.set_cons_zero, List.set_cons_succ])
    exact exec_bin' _ _ _ _ rfl rfl rfl (j1 w)
  (try simp only [Act.put, List.setIfInBounds_toArray, List.set_cons_zero, List.set_cons_succ])
  repeat (first | (refine seqr_skip (by rfl) (fun ρ => by rfl) ?_; (try simp only [Act.put, List.setIfInBounds_toArray, List.set_cons_zero, List.set_cons_succ])) | (refine seqr_pure (v := ?_) (by rfl) (fun ρ => by rfl) (fun ρ w hE hF => ?_) ?_; rotate_left 1; (· ((try simp only [fill, Act.put, List.setIfInBounds_toArray, List.set_cons_zero, List.set_cons_succ]); go_simp; try with_reducible rfl)); (try simp only [Act.put, List.setIfInBounds_toArray, List.set_cons_zero, List.set_cons_succ])) | (refine seqr_call0 (v := ?_) (f := ?_) (args := ?_) (by rfl) (fun ρ => by rfl) (fun ρ w => ?_) (fun w hE => ?_) ?_; rotate_left 3; (· ((try simp only [fill, Act.put, List.setIfInBounds_toArray, List.set_cons_zero, List.set_cons_succ]); go_simp; constructor <;> with_reducible rfl)); (· (with_reducible exact CallE.call (by assumption) hE)); (try simp only [Act.put, List.setIfInBounds_toArray, List.set_cons_zero, List.set_cons_succ])))
  refine seqr_pure (v := .agg f1.cells) (by rfl) (fun ρ => by rfl) (fun ρ w hE hF => ?_) ?_
  · (try simp only [fill, Act.put, List.setIfInBounds_toArray, List.set_cons_zero, List.set_cons_succ])
    exact exec_load_at 33 _ rfl rfl (HNB.out.ext hE) Tryz.underlying33 rfl (by kernel_rfl)
  (try simp only [Act.put, List.setIfInBounds_toArray, List.set_cons_zero, List.set_cons_succ])
  (refine seqr_pure (v := ?_) (by rfl) (fun ρ => by rfl) (fun ρ w hE hF => ?_) ?_; rotate_left 1; (· ((try simp only [fill, Act.put, List.setIfInBounds_toArray, List.set_cons_zero, List.set_cons_succ]); go_simp; try with_reducible rfl)); (try simp only [Act.put, List.setIfInBounds_toArray, List.set_cons_zero, List.set_cons_succ]))
  (refine seqr_pure (v := ?_) (by rfl) (fun ρ => by rfl) (fun ρ w hE hF => ?_) ?_; rotate_left 1; (· ((try simp only [fill, Act.put, List.setIfInBounds_toArray, List.set_cons_zero, List.set_cons_succ]); go_simp; try with_reducible rfl)); (try simp only [Act.put, List.setIfInBounds_toArray, List.set_cons_zero, List.set_cons_succ]))
  refine seqr_pure (v := .int .i64 ((n : Int) + 1)) (by rfl) (fun ρ => by rfl) (fun ρ w hE hF => ?_) ?_
  · (try simp only [fill, Act.put, List.setIfInBounds_toArray, List.set_cons_zero, List.set_cons_succ])
    have hw : IntKind.i64.wrap ((n : Int) + 1) = (n : Int) + 1 := IntWalk.i64_in _ ⟨by omega, by omega⟩
    go_simp
    try simp only [hw]
    try omega
  (try simp only [Act.put, List.setIfInBounds_toArray, List.set_cons_zero, List.set_cons_succ])
  repeat (first | (refine seqr_skip (by rfl) (fun ρ => by rfl) ?_; (try simp only [Act.put, List.setIfInBounds_toArray, List.set_cons_zero, List.set_cons_succ])) | (refine seqr_pure (v := ?_) (by rfl) (fun ρ => by rfl) (fun ρ w hE hF => ?_) ?_; rotate_left 1; (· ((try simp only [fill, Act.put, List.setIfInBounds_toArray, List.set_cons_zero, List.set_cons_succ]); go_simp; try with_reducible rfl)); (try simp only [Act.put, List.setIfInBounds_toArray, List.set_cons_zero, List.set_cons_succ])) | (refine seqr_call0 (v := ?_) (f := ?_) (args := ?_) (by rfl) (fun ρ => by rfl) (fun ρ w => ?_) (fun w hE => ?_) ?_; rotate_left 3; (· ((try simp only [fill, Act.put, List.setIfInBounds_toArray, List.set_cons_zero, List.set_cons_succ]); go_simp; constructor <;> with_reducible rfl)); (· (with_reducible exact CallE.call (by assumption) hE)); (try simp only [Act.put, List.setIfInBounds_toArray, List.set_cons_zero, List.set_cons_succ])))
  refine seqr_pure (v := .string X) (by rfl) (fun ρ => by rfl) (fun ρ w hE hF => ?_) ?_
  · (try simp only [fill, Act.put, List.setIfInBounds_toArray, List.set_cons_zero, List.set_cons_succ])
    exact exec_bin' _ _ _ _ rfl rfl rfl (j2 w)
  (try simp only [Act.put, List.setIfInBounds_toArray, List.set_cons_zero, List.set_cons_succ])
  repeat (first | (refine seqr_skip (by rfl) (fun ρ => by rfl) ?_; (try simp only [Act.put, List.setIfInBounds_toArray, List.set_cons_zero, List.set_cons_succ])) | (refine seqr_pure (v := ?_) (by rfl) (fun ρ => by rfl) (fun ρ w hE hF => ?_) ?_; rotate_left 1; (· ((try simp only [fill, Act.put, List.setIfInBounds_toArray, List.set_cons_zero, List.set_cons_succ]); go_simp; try with_reducible rfl)); (try simp only [Act.put, List.setIfInBounds_toArray, List.set_cons_zero, List.set_cons_succ])) | (refine seqr_call0 (v := ?_) (f := ?_) (args := ?_) (by rfl) (fun ρ => by rfl) (fun ρ w => ?_) (fun w hE => ?_) ?_; rotate_left 3; (· ((try simp only [fill, Act.put, List.setIfInBounds_toArray, List.set_cons_zero, List.set_cons_succ]); go_simp; constructor <;> with_reducible rfl)); (· (with_reducible exact CallE.call (by assumption) hE)); (try simp only [Act.put, List.setIfInBounds_toArray, List.set_cons_zero, List.set_cons_succ])))
  refine seqr_done (fun ρ wN hEN hFN => ?_); (try simp only [fill, Act.put, List.setIfInBounds_toArray, List.set_cons_zero, List.set_cons_succ]); refine (show K _ _ from hK.out _ _ ?_); clear hK K
  have HX2 := Lib.hid hEN
  clear hEN hFN e1 e2 b1 l1 x1 x16 j1 j2 c1 c16
  by_cases hlt : (n : Int) < (least : Int)
  · rw [if_pos hlt] at HV
    go_wp2_with fail
    go_ret
    exact ⟨by rw [HV.out]; rfl, HX1.out.trans HX2.out⟩
  · rw [if_neg hlt] at HV
    go_wp2_with fail
    go_ret
    exact ⟨by rw [HV.out]; rfl, HX1.out.trans HX2.out⟩
def isMakeS : Op → Bool
  | .makeSlice .. => true
  | _ => false
section
variable {P : Program} {ops : Array Oper} {rest : List Oper} {o : Oper} {a : Act} {w : World} {Q : Exit → Act → World → Prop}
theorem wpl_makeS (hgd : o.guard = none) (t : TypeId) (x y : Operand) (ho : o.op = .makeSlice t x y) {vx vy : Value} (hx : a.eval x = vx) (hy : a.eval y = vy)
    {v : Value} {w' : World} (hr : (Instr.makeSlice t vx vy).run P w = .ok v w') (h : wpList P ops Q rest (a.put o.dst v) w') : wpList P ops Q (o :: rest) a w :=
  wpList_plain hgd fun _ hK => by
    unfold Oper.wp execOp
    simp only [ho, hx, hy, Sem.run_bind, hr, Result.andThen_ok]
    exact hK _ _ h
end
theorem str_info : (Tryz.prog.info? 9).map (fun i => (i.zero, i.size, i.bytes)) = some (some (.string ⟨#[]⟩), 1, 16) := by kernel_rfl
theorem mk_strs (n : Nat) (hn : n ≤ 1000) (w : World) : ∃ cs : Array Value, cs.size = n ∧ (Instr.makeSlice 70 (.int .i64 (n : Int)) (.int .i64 (n : Int))).run Tryz.prog w = .ok (.slice (some ⟨w.heap.size, 0, none⟩) n n) (w.alloc (.cells cs 9)) := by
  obtain ⟨i0, hi, hz0, hz1, hz2⟩ := info_parts str_info
  have h := run_make (P := Tryz.prog) w 70 9 i0 _ Tryz.underlying70 hi hz0 .i64 .i64 (n : Int) (n : Int) (by omega) (Int.le_refl _) (by rw [hz2]; omega) (by omega)
  rw [Int.toNat_natCast, hz1, Nat.mul_one] at h
  exact ⟨_, size_madeCells _ _, h⟩
theorem row_put {w : World} {V k : Nat} {l : List ByteArray} {rest : List Value} {s : ByteArray} (hl : l.length = k) (h : w.heap[V]? = some (.cells (l.map Value.string ++ rest).toArray 9 (0, 0))) (hr : 0 < rest.length) :
    (w.setCell ⟨V, k, none⟩ (.string s)).heap[V]? = some (.cells ((l ++ [s]).map Value.string ++ rest.tail).toArray 9 (0, 0)) := by
  obtain ⟨r, rs, rfl⟩ : ∃ r rs, rest = r :: rs := by
    cases rest with
    | nil => simp at hr
    | cons r rs => exact ⟨r, rs, rfl⟩
  subst hl
  rw [hq_put rfl, h]
  simp [setIn, List.set_append]
theorem row_cell {w : World} {V k : Nat} {l : List ByteArray} {rest : List Value} (hl : l.length = k) (h : w.heap[V]? = some (.cells (l.map Value.string ++ rest).toArray 9 (0, 0))) (hr : 0 < rest.length) : ∃ old, w.cell? ⟨V, k, none⟩ = some old := by
  obtain ⟨r, rs, rfl⟩ : ∃ r rs, rest = r :: rs := by
    cases rest with
    | nil => simp at hr
    | cons r rs => exact ⟨r, rs, rfl⟩
  subst hl
  exact ⟨r, by rw [cell_of_row w V _ _ _ _ h, List.getElem?_toArray, List.getElem?_append_right (by simp)]; simp⟩
def textsOf (p : Int) (ts : List Tr) : List ByteArray := ts.map fun t => mk (shT p 0 t)
theorem textsOf_take {p : Int} {ts : List Tr} {k : Nat} {t : Tr} (h : ts[k]? = some t) : textsOf p (ts.take (k + 1)) = textsOf p (ts.take k) ++ [mk (shT p 0 t)] := by
  simp [textsOf, List.take_add_one, h]
theorem join_call (p : Int) (ts : List Tr) (V : Nat) (w : World) (h : w.heap[V]? = some (.cells ((textsOf p ts).map Value.string).toArray 9 (0, 0))) (hn : ts.length ≤ 1000) (hs : (src (joinP (ts.map (pcs p 0)))).length ≤ 300000000000) :
    Calls Tryz.prog 36 #[.slice (some ⟨V, 0, none⟩) ts.length ts.length, .string ⟨#[44]⟩] w fun e w' => e = .returned (.string (mk (src (joinP (ts.map (pcs p 0)))))) ∧ Ext w w' := by
  have hj : Lib.join ((textsOf p ts).map (·.data.toList)) ((⟨#[44]⟩ : ByteArray).data.toList) = src (joinP (ts.map (pcs p 0))) := by
    rw [← join_src]
    congr 1
    rw [textsOf, List.map_map, List.map_map]
    refine List.map_congr_left fun t _ => ?_
    simp [mk_list, shT]
  have hl : (textsOf p ts).length = ts.length := by simp [textsOf]
  have := Tryz.strings_Join V 0 ts.length (textsOf p ts) ⟨#[44]⟩ w (fun j x hx => by
    rw [cell_of_row w V _ _ _ _ h, List.getElem?_toArray, List.getElem?_map, Nat.zero_add, hx]
    rfl) (blk_lt h) (by omega) (by omega) (by rw [hj]; omega)
  rw [hl, hj] at this
  exact this
set_option maxRecDepth 100000 in
set_option maxHeartbeats 8000000 in
theorem text_call (p fn : Int) (ts : List Tr) (h : fitsOf fn ts.length = true) (ht : ∀ t ∈ ts, GT t) (hz : sizeT (.mk (parS 8 fn) ts) ≤ 1000000000) (it : ∀ t ∈ ts, TextS p t) : TextS p (.mk (parS 8 fn) ts) := by
  intro least f S W hl hr hE
  obtain ⟨N, hN⟩ : ∃ N, ts.length = N := ⟨_, rfl⟩
  obtain ⟨q, cap, fs, hn, hls, hs, hk, rfl⟩ : ∃ (q : Option Addr) (cap : Nat) (fs : List Fl), ts.length ≤ 1000 ∧ fs.length = ts.length ∧ (∀ (i : Nat) f, fs[i]? = some f → ∃ g o, q = some ⟨g, o, none⟩ ∧ S g ∧ NodeAt W g (o + i * 17) f) ∧ (∀ (i : Nat) t f, ts[i]? = some t → fs[i]? = some f → Rep W S t f) ∧ f = (parS 8 fn).fl q ts.length cap := by
    cases hr with
    | mk s ts q cap fs ho hn hl hs hk => exact ⟨q, cap, fs, hn, hl, hs, hk, rfl⟩
  have hlen := sh_len p (GT.call fn ts h ht) least
  have hb : (nameOf fn).length ≤ 300000000000 ∧ (src (joinP (ts.map (pcs p 0)))).length ≤ 300000000000 := by
    unfold shT at hlen
    rw [pcs_call, src_len_cons, src_len_cons, src_len_app] at hlen
    have : (wordP (nameOf fn)).2.2.length = (nameOf fn).length := rfl
    omega
  have HJ : Hid (∀ (V : Nat) (w : World), w.heap[V]? = some (.cells ((textsOf p ts).map Value.string).toArray 9 (0, 0)) → Calls Tryz.prog 36 #[.slice (some ⟨V, 0, none⟩) N N, .string ⟨#[44]⟩] w fun e w' => e = .returned (.string (mk (src (joinP (ts.map (pcs p 0)))))) ∧ Ext w w') := Lib.hid (fun V w hV => by rw [← hN]; exact join_call p ts V w hV hn hb.2)
  have HNM : Hid (∀ w, Tab w → Calls Tryz.prog 35 #[.int .i64 fn] w fun e w' => e = .returned (.string (mk (nameOf fn))) ∧ Ext w w') := Lib.hid (fun w ht => name_any fn w ht)
  have HV : Hid (mk (shT p least (.mk (parS 8 fn) ts)) = mk (nameOf fn) ++ ⟨#[40]⟩ ++ mk (src (joinP (ts.map (pcs p 0)))) ++ ⟨#[41]⟩) := Lib.hid (by
    show _ = mk (nameOf fn) ++ mk [40] ++ mk (src (joinP (ts.map (pcs p 0)))) ++ mk [41]
    rw [mk_both, mk_both, mk_both]
    unfold shT
    rw [pcs_call]
    simp [src, signP, wordP])
  obtain ⟨A, hA⟩ : ∃ A, mk (nameOf fn) = A := ⟨_, rfl⟩
  obtain ⟨J, hJ⟩ : ∃ J, mk (src (joinP (ts.map (pcs p 0)))) = J := ⟨_, rfl⟩
  have hAs : (A.size : Int) ≤ 300000000000 := by rw [← hA, mk_size]; omega
  have hJs : (J.size : Int) ≤ 300000000000 := by rw [← hJ, mk_size]; omega
  rw [hA, hJ] at HV
  rw [hA] at HNM
  rw [hJ] at HJ
  rw [hN]
  obtain ⟨W1, hW1, hE1, hG1, hL1, hS1⟩ := new_blk W ((parS 8 fn).fl q N cap).cells 33
  have HW1 := Lib.hid hW1
  have HX1 := Lib.hid hE1
  have HQ1 := Lib.hid (hE.ext hE1)
  have HG1 := Lib.hid hG1
  have HN := Lib.hid hN
  have HLS := Lib.hid hls
  have HN1 : Hid (N ≤ 1000) := Lib.hid (by omega)
  have hN' : (N : Int) ≤ 1000 := by omega
  have HSN : Hid (∀ (i : Nat) f, fs[i]? = some f → ∃ g o, q = some ⟨g, o, none⟩ ∧ NodeAt W1 g (o + i * 17) f) := Lib.hid (fun i f hf => by
    obtain ⟨g, o, hq, -, hNA⟩ := hs i f hf
    exact ⟨g, o, hq, hNA.ext hE1⟩)
  have HTX : Hid (∀ (i : Nat) t f w, ts[i]? = some t → fs[i]? = some f → Ext W1 w → Calls Tryz.prog 26 #[.agg f.cells, .int .i64 p, .int .i64 0] w fun e w' => e = .returned (.string (mk (shT p 0 t))) ∧ Ext w w') := Lib.hid (fun i t f w hti hfi hEw => it t (List.mem_of_getElem? hti) 0 f S w (by decide) (((hk i t f hti hfi).ext hE1).ext hEw) (HQ1.out.ext hEw))
  have c0 : W1.cell? ⟨W.heap.size, 0, none⟩ = some (.int .i64 8) := by rw [cell_of_row W1 W.heap.size 0 _ _ _ hG1]; rfl
  have c16 : W1.cell? ⟨W.heap.size, 16, none⟩ = some (.slice q N cap) := by rw [cell_of_row W1 W.heap.size 16 _ _ _ hG1]; rfl
  obtain ⟨cs0, hcs0, hmk⟩ := mk_strs N HN1.out W1
  obtain ⟨W2, hW2, hE2, hG2, hL2, hS2⟩ := new_blk W1 cs0 9
  rw [hW2] at hmk
  have HG2 := Lib.hid hG2
  have HE2 := Lib.hid hE2
  have HCS := Lib.hid hcs0
  have c16' : W2.cell? ⟨W.heap.size, 16, none⟩ = some (.slice q N cap) := ext_cell hL1 c16 W2 hE2
  clear hW1 hE1 hG1 hL1 hS1 hW2 hE2 hG2 hL2 hS2 hcs0 hr hE hs hk hA hJ it ht hz hl h hn hls hlen hb hN
  unfold Fl.val
  go_enter Tryz.func26, Tryz.ntmps26
  go_upto_region 1 with (fail)
  rw [HW1.out]
  clear HW1
  go_wp2_with (first | ((with_reducible refine wpl_guard isMakeS ?_ ?_); (· rfl); refine wpl_makeS rfl _ _ _ rfl rfl rfl hmk ?_))
  go_loopw [79] (fun si wr => ∃ (k : Nat) (rest : List Value), si = .int .i64 (k : Int) ∧ k ≤ N ∧ Hid (rest.length + k = N) ∧ Hid (wr.heap[W1.heap.size]? = some (.cells ((textsOf p (ts.take k)).map Value.string ++ rest).toArray 9 (0, 0))) ∧ Hid (Ext W1 wr)) (fun si _ => N - (intOf si).toNat)
  case atStart => exact ⟨0, cs0.toList, rfl, Nat.zero_le _, Lib.hid (by rw [Array.length_toList, HCS.out]; rfl), Lib.hid (by simpa [textsOf] using HG2.out), HE2⟩
  case round =>
    obtain ⟨k, rest, rfl, hk, HR, HB, HX⟩ := hrel
    clear c0 c16 c16' hmk
    by_cases hkN : k = N
    · subst hkN
      have HBB : Hid (wr.heap[W1.heap.size]? = some (.cells ((textsOf p ts).map Value.string).toArray 9 (0, 0))) := Lib.hid (by
        have h0 := HB.out
        have hr0 : rest = [] := List.length_eq_zero_iff.1 (by have := HR.out; omega)
        rw [hr0, List.append_nil, List.take_of_length_le (by rw [HN.out]; exact Nat.le_refl _)] at h0
        exact h0)
      have d1 : wr.cell? ⟨W.heap.size, 1, none⟩ = some (.int .i64 fn) := by rw [cell_of_row wr W.heap.size 1 _ _ _ (HX.out.blk HG1.out)]; rfl
      have HT := Lib.hid (HQ1.out.ext HX.out).1
      go_wp2_with fail
      refine (HNM.out wr HT.out).mono ?_
      rintro e w4 ⟨rfl, hX4⟩
      have HX4 := Lib.hid hX4
      clear hX4
      go_wp2_with fail
      refine (HJ.out _ w4 (HX4.out.blk HBB.out)).mono ?_
      rintro e w5 ⟨rfl, hX5⟩
      have HX5 := Lib.hid hX5
      clear hX5
      go_wp2_with fail
      go_ret
      exact ⟨by rw [HV.out]; rfl, HX1.out.trans (HX.out.trans (HX4.out.trans HX5.out))⟩
    have hkN' : (k : Int) < (N : Int) := by omega
    obtain ⟨t, hti⟩ : ∃ t, ts[k]? = some t := ⟨_, List.getElem?_eq_getElem (by rw [HN.out]; omega)⟩
    obtain ⟨f, hf⟩ : ∃ f, fs[k]? = some f := ⟨_, List.getElem?_eq_getElem (by rw [HLS.out, HN.out]; omega)⟩
    obtain ⟨g, o, rfl, hNA⟩ := HSN.out k f hf
    have hna := hNA.ext HX.out
    have HTI := Lib.hid hti
    have HF := Lib.hid hf
    have HKN : Hid (k < N) := Lib.hid (by omega)
    clear hNA hti hf
    go_wp2_with (first | ((with_reducible refine wpl_guard (isLoad 33) ?_ ?_); (· rfl); refine wpl_load_node rfl 33 _ rfl rfl hna Tryz.underlying33 rfl ?_ ?_; (· kernel_rfl); (try dsimp only [Act.put, List.setIfInBounds_toArray, List.set_cons_zero, List.set_cons_succ])) | ((with_reducible refine wpl_guard (isLoad 33) ?_ ?_); (· rfl); refine wpl_load (t := ?_) (cs := ?_) (fr := ?_) rfl 33 _ rfl rfl ?_ Tryz.underlying33 rfl ?_ ?_; rotate_left 3; (· (first | (with_reducible assumption) | (simp (disch := (first | omega | (simp only [World.size_alloc, World.size_setCell, World.size_drew, size_setRow]; done) | (simp only [World.size_alloc, World.size_setCell, World.size_drew, size_setRow]; omega))) only [hq_at, hq_past, hq_drew, hq_drewN, hq_cell, hq_row, hq_same, rowOf_cells, Option.map_some, *]; rfl) | (simp (disch := (first | omega | (simp only [World.size_alloc, World.size_setCell, World.size_drew, size_setRow]; done) | (simp only [World.size_alloc, World.size_setCell, World.size_drew, size_setRow]; omega))) only [hq_at, hq_past, hq_drew, hq_drewN, hq_cell, hq_row, hq_same, rowOf_cells, Option.map_some, *]))); (· kernel_rfl); (try dsimp only [Act.put, List.setIfInBounds_toArray, List.set_cons_zero, List.set_cons_succ])) | ((with_reducible refine wpl_guard (isStore 33) ?_ ?_); (· rfl); refine wpl_store (t := ?_) (old := ?_) (w' := ?_) rfl 33 _ _ rfl rfl rfl ?_ ?_ ?_ ?_ ?_ ?_; rotate_left 2; (· (first | (with_reducible assumption) | (simp (disch := (first | omega | (simp only [World.size_alloc, World.size_setCell, World.size_drew, size_setRow]; done) | (simp only [World.size_alloc, World.size_setCell, World.size_drew, size_setRow]; omega))) only [hq_at, hq_past, hq_drew, hq_drewN, hq_cell, hq_row, hq_same, rowOf_cells, Option.map_some, *]; rfl) | (simp (disch := (first | omega | (simp only [World.size_alloc, World.size_setCell, World.size_drew, size_setRow]; done) | (simp only [World.size_alloc, World.size_setCell, World.size_drew, size_setRow]; omega))) only [hq_at, hq_past, hq_drew, hq_drewN, hq_cell, hq_row, hq_same, rowOf_cells, Option.map_some, *]))); (· kernel_rfl); (· rfl); (· rfl); rotate_left 1; (· (first | (simp (disch := (first | omega | (simp only [World.size_alloc, World.size_setCell, World.size_drew, size_setRow]; done) | (simp only [World.size_alloc, World.size_setCell, World.size_drew, size_setRow]; omega))) only [setRow_at, setRow_past, setRow_drew]; rfl) | rfl))))
    have hX2 := HX.out.trans (below_alloc1 wr (.cells f.cells 33))
    refine (HTX.out k t f _ HTI.out HF.out hX2).mono ?_
    rintro e w3 ⟨rfl, hE3⟩
    have hX3 := hX2.trans hE3
    have hB3 := ((below_alloc1 wr (.cells f.cells 33)).trans hE3).blk HB.out
    have hlk : (textsOf p (ts.take k)).length = k := by
      have := HN.out
      simp [textsOf]; omega
    obtain ⟨old, ho⟩ := row_cell hlk hB3 (by have := HR.out; omega)
    have fz : w3.frozen? ⟨W1.heap.size, k, none⟩ = false := frozen_of_row w3 W1.heap.size k _ _ hB3
    have HB4 : Hid ((w3.setCell ⟨W1.heap.size, k, none⟩ (.string (mk (shT p 0 t)))).heap[W1.heap.size]? = some (.cells ((textsOf p (ts.take (k + 1))).map Value.string ++ rest.tail).toArray 9 (0, 0))) := Lib.hid (by
      rw [textsOf_take HTI.out]
      exact row_put hlk hB3 (by have := HR.out; omega))
    have HX4 : Hid (Ext W1 (w3.setCell ⟨W1.heap.size, k, none⟩ (.string (mk (shT p 0 t))))) := Lib.hid (ext_set hX3 (Nat.le_refl _))
    have HR4 : Hid (rest.tail.length + (k + 1) = N) := Lib.hid (by have := HR.out; rw [List.length_tail]; omega)
    clear hX2 hE3 hX3 hB3 hlk hna hk hkN
    go_wp2_with fail
    exact ⟨⟨k + 1, rest.tail, rfl, HKN.out, HR4, HB4, HX4⟩, by simp [intOf]; omega⟩
end Go.Proofs.YtbnebiobahajjaaGreatDoor
