/-
  ShiftNames: walk. Conditions: the arguments' own.
-/
import Derived.Test.YtdfgobnmcngkmaaShiftI
import Derived.Test.YtdfgobnmcngkmaaPut
import Derived.Test.YtdfgobnmcngkmaaShiftH
import Derived.Test.YtdfgobnmcngkmaaArgC
import Derived.Laws.StructEq
import Derived.Deep.DeepCutAuto
namespace Go.Proofs.Ytdfgobnmcngkmaa.shiftNames
open Go.RowKit
set_option linter.unusedVariables false
set_option linter.unusedSimpArgs false

theorem ins_bd {s c r : Int} (h : insV s c r = true) : (0 ≤ s ∧ s < 3) ∧ (0 ≤ c ∧ c < 26) ∧ 0 ≤ r ∧ r < 99 := by
  simp only [insV, Bool.and_eq_true, decide_eq_true_eq] at h; omega
theorem cel_bd (es : Int) (ec ed : Bool) (ea s1 c1 r1 : Int) (h : insV s1 c1 r1 = true) (hb : 0 ≤ ea ∧ ea ≤ 7) (hk : celB es ec ed ea s1 c1 r1 = true) : insV s1 (celC es ec ed ea s1 c1) (celR es ec ed ea s1 r1) = true := by
  by_cases hs : s1 = es
  · subst hs
    cases ec <;> cases ed
    all_goals
      simp only [celB, celC, celR, oneB, oneV, insV, if_true, Bool.false_eq_true, if_false, Bool.and_eq_true, decide_eq_true_eq] at h hk ⊢
      split at hk
      · simp_all
      · rename_i hlt
        rw [if_neg hlt]
        simp only [decide_eq_true_eq] at hk
        omega
  · simpa [celB, celC, celR, hs] using h
theorem built_ref (s c r : Int) (x : Bool) : Try.prog.built 33 [(0, .agg #[.int .i64 s, .int .i64 c, .int .i64 r]), (1, .bool x)] = some #[.int .i64 s, .int .i64 c, .int .i64 r, .bool x, .bool false] := by kernel_rfl
theorem eql_cell (s c r s' c' r' : Int) (w : World) : Sem.run Try.prog (binOp .eql 23 (ceV s c r) (ceV s' c' r')) w = .ok (.bool (s == s' && (c == c' && r == r'))) w := by
  by_cases h1 : s = s' <;> by_cases h2 : c = c' <;> by_cases h3 : r = r' <;> simp [go_sem, *]
theorem leaf_at (es : Int) (ec ed : Bool) (ea s c r : Int) (x : Bool) : (leafV es ec ed ea (oneF ⟨s, c, r, x, false⟩)).val = if celB es ec ed ea s c r then (oneF ⟨s, celC es ec ed ea s c, celR es ec ed ea s r, x, false⟩).val else goneF.val := by
  unfold leafV
  rw [if_pos (show (oneF _).k = 2 from rfl)]
  by_cases h : celB es ec ed ea s c r = true
  · have h' : celB es ec ed ea (oneF ⟨s, c, r, x, false⟩).A.s (oneF ⟨s, c, r, x, false⟩).A.c (oneF ⟨s, c, r, x, false⟩).A.r = true := h
    rw [if_pos h, if_pos h']; rfl
  · have h' : ¬ celB es ec ed ea (oneF ⟨s, c, r, x, false⟩).A.s (oneF ⟨s, c, r, x, false⟩).A.c (oneF ⟨s, c, r, x, false⟩).A.r = true := h
    rw [if_neg h, if_neg h']
abbrev ndV (k vk vn s c r : Int) (x : Bool) : Value := .agg #[.int .i64 k, .int .i64 0, .int .i64 vk, .int .i64 vn, .string ⟨#[]⟩, .int .i64 s, .int .i64 c, .int .i64 r, .bool x, .bool false, .int .i64 0, .int .i64 0, .int .i64 0, .bool false, .bool false, .string ⟨#[]⟩, .slice none 0 0]
set_option maxHeartbeats 4000000 in
set_option maxRecDepth 100000 in
theorem walk0 (n m s c r : Int) (w : World) :
    Calls Try.prog 5 #[.int .i64 n, .int .i64 m, ceV s c r] w fun e w' => e = .returned (.bool true) ∧ Ext w w' := by
  obtain ⟨W1, hW1, hE1, hG1, hL1, hS1⟩ := new_blk w #[.int .i64 s, .int .i64 c, .int .i64 r] 23
  obtain ⟨ds, hds⟩ : ∃ ds, edS n = ds := ⟨_, rfl⟩
  obtain ⟨dc, hdc⟩ : ∃ dc, edC n = dc := ⟨_, rfl⟩
  obtain ⟨dd, hdd⟩ : ∃ dd, edD n = dd := ⟨_, rfl⟩
  obtain ⟨da, hda⟩ : ∃ da, edA n = da := ⟨_, rfl⟩
  obtain ⟨es, hes⟩ : ∃ es, edS m = es := ⟨_, rfl⟩
  obtain ⟨ec, hec⟩ : ∃ ec, edC m = ec := ⟨_, rfl⟩
  obtain ⟨ed, hed⟩ : ∃ ed, edD m = ed := ⟨_, rfl⟩
  obtain ⟨ea, hea⟩ : ∃ ea, edA m = ea := ⟨_, rfl⟩
  have hbd := ed_bd n
  have hbe := ed_bd m
  have ced := fun w => edit_any n w
  have cee := fun w => edit_any m w
  rw [hds, hdc, hdd, hda] at ced
  rw [hes, hec, hed, hea] at cee
  rw [hds, hda] at hbd
  rw [hes, hea] at hbe
  have CED := Lib.hid ced
  have CEE := Lib.hid cee
  have HW1 := Lib.hid hW1
  have HBD := Lib.hid hbd
  have HBE := Lib.hid hbe
  have HG1 := Lib.hid hG1
  have HE1 := Lib.hid hE1
  have b1 := ext_blk hG1
  have l1 := ext_lt (blk_lt hG1)
  clear hds hdc hdd hda hes hec hed hea hW1 hbd hbe ced cee hE1 hL1 hS1 hG1
  go_enter Try.func5, Try.ntmps5
  go_wp2_with fail
  rw [HW1.out]
  refine (fit_any _).mono ?_
  rintro e w3 ⟨rfl, hE3⟩
  clear HW1
  obtain ⟨bad, hbad⟩ : ∃ b, (!insV s c r) = b := ⟨_, rfl⟩
  have HBAD := Lib.hid hbad
  clear hbad
  go_upto_region 3 with (fail)
  go_cut [41] (fun v wx => v = .bool bad ∧ w3 = wx)
  case first =>
    go_wp2_with fail
    all_goals go_meet
    all_goals
      case rel =>
        refine ⟨congrArg Value.bool ?_, rfl⟩
        rw [← HBAD.out, Bool.eq_iff_iff]
        simp only [insV, Bool.or_eq_true, Bool.not_eq_true', Bool.and_eq_false_iff, decide_eq_true_eq, decide_eq_false_iff_not, true_iff, Bool.false_eq_true, false_iff, Bool.true_eq_false]
        omega
  case rest =>
  obtain ⟨rfl, rfl⟩ := hcut
  cases bad
  rotate_left 1
  · clear CED CEE HBD HBE
    go_wp2_with fail
    go_ret
    exact ⟨rfl, HE1.out.trans hE3⟩
  have hI : insV s c r = true := by simpa using HBAD.out
  obtain ⟨⟨h1, h2⟩, ⟨h3, h4⟩, h5, h6⟩ := ins_bd hI
  have HI := Lib.hid hI
  have HB := Lib.hid (And.intro (And.intro h1 h2) (And.intro (And.intro h3 h4) (And.intro h5 h6)))
  clear h1 h2 h3 h4 h5 h6
  go_wp2_with fail
  refine (CED.out _).mono ?_
  rintro e w4 ⟨rfl, hE4⟩
  go_wp2_with fail
  refine (CEE.out _).mono ?_
  rintro e w5 ⟨rfl, hE5⟩
  clear CED CEE
  obtain ⟨W6, hW6, hE6, hG6, hL6, hS6⟩ := new_blk w5 #[.int .i64 ds, .bool dc, .bool dd, .int .i64 da] 26
  obtain ⟨W7, hW7, hE7, hG7, hL7, hS7⟩ := new_blk W6 #[.int .i64 es, .bool ec, .bool ed, .int .i64 ea] 26
  have HW6 := Lib.hid hW6
  have HW7 := Lib.hid hW7
  have E17 := Ext.trans (Ext.trans (Ext.trans (Ext.trans hE3 hE4) hE5) hE6) hE7
  have k1 := Lib.hid (E17.blk HG1.out)
  have k7 := Lib.hid (hE7.blk hG6)
  rw [hS6] at hG7
  have k8 := Lib.hid hG7
  clear b1 l1 hW6 hW7 hE3 hE4 hE5 hE6 hE7 hG6 hG7 hL6 hL7 hS6 hS7
  go_upto_region 6 with (fail)
  rw [HW6.out, HW7.out]
  clear HW6 HW7
  generalize w5.heap.size = g7 at *
  have hr7 := Ext.refl W7
  have b1 := ext_blk k1.out
  have l1 := ext_lt (blk_lt k1.out)
  have b7 := ext_blk k7.out
  have l7 := ext_lt (blk_lt k7.out)
  have b8 := ext_blk k8.out
  have l8 := ext_lt (blk_lt k8.out)
  have e1 : CallE Try.prog W7 13 #[.agg #[.int .i64 s, .int .i64 c, .int .i64 r, .bool true, .bool false]] (ndV 2 0 0 s c r true) := fun w' _ => tcell_any ⟨s, c, r, true, false⟩ w'
  have hrb := fun s c r x => built_ref s c r x
  have e2 : CallE Try.prog W7 12 #[edV ds dc dd da, ndV 2 0 0 s c r true] (leafV ds dc dd da (oneF ⟨s, c, r, true, false⟩)).val := fun w' _ => formula_leaf ds da dc dd (oneF ⟨s, c, r, true, false⟩) w' rfl rfl (by have := HB.out; exact ⟨by simp only [oneF]; omega, by simp only [oneF]; omega⟩) (show Rf.ok rf0 from ⟨by decide, by decide⟩)
  have hcb := cel_bd ds dc dd da s c r hI HBD.out.2
  have e5 : CallE Try.prog W7 9 #[edV ds dc dd da, ceV s c r] (celV ds dc dd da s c r) := fun w' _ => cel_any ds da s c r dc dd w' (by have := HB.out; omega) (by have := HB.out; omega)
  have hl2 := leaf_at ds dc dd da s c r true
  rw [hl2] at e2
  clear hl2
  unfold celV at e5
  obtain ⟨B1, hB1⟩ : ∃ b, celB ds dc dd da s c r = b := ⟨_, rfl⟩
  obtain ⟨C1, hC1⟩ : ∃ b, celC ds dc dd da s c = b := ⟨_, rfl⟩
  obtain ⟨R1, hR1⟩ : ∃ b, celR ds dc dd da s r = b := ⟨_, rfl⟩
  rw [hB1, hC1, hR1] at e5 e2 hcb
  clear hB1 hC1 hR1
  cases B1
  · rw [if_neg Bool.false_ne_true] at e2
    have e2 : CallE Try.prog W7 12 #[edV ds dc dd da, ndV 2 0 0 s c r true] (ndV 1 4 3 0 0 0 false) := e2
    have e3 : CallE Try.prog W7 12 #[edV es ec ed ea, ndV 1 4 3 0 0 0 false] (ndV 1 4 3 0 0 0 false) := fun w' _ => formula_leaf es ea ec ed goneF w' rfl rfl ⟨by decide, by decide⟩ ⟨by decide, by decide⟩
    clear hcb hI HB HBD HBE HBAD HI
    go_wp2_with fail
    refine region_own [9] (by intro d hd; simp only [List.mem_cons, List.not_mem_nil, or_false] at hd; rcases hd with rfl <;> rfl) (by kernel_rfl) (by kernel_rfl) rfl (fun K hK => ?_)
    repeat (first | (refine seqr_skip (by rfl) (fun ρ => by rfl) ?_; (try simp only [Act.put, List.setIfInBounds_toArray, List.set_cons_zero, List.set_cons_succ])) | (refine seqr_pure (v := ?_) (by rfl) (fun ρ => by rfl) (fun ρ w hE hF => ?_) ?_; rotate_left 1; (· ((try simp only [fill, Act.put, List.setIfInBounds_toArray, List.set_cons_zero, List.set_cons_succ]); go_simp; try with_reducible rfl)); (try simp only [Act.put, List.setIfInBounds_toArray, List.set_cons_zero, List.set_cons_succ])) | (refine seqr_call0 (v := ?_) (f := ?_) (args := ?_) (by rfl) (fun ρ => by rfl) (fun ρ w => ?_) (fun w hE => ?_) ?_; rotate_left 3; (· ((try simp only [fill, Act.put, List.setIfInBounds_toArray, List.set_cons_zero, List.set_cons_succ]); go_simp; constructor <;> with_reducible rfl)); (· (with_reducible exact CallE.call (by assumption) hE)); (try simp only [Act.put, List.setIfInBounds_toArray, List.set_cons_zero, List.set_cons_succ])))
    (refine seqr_own 38 (#[.int .i64 0, .int .i64 0, .int .i64 0, .int .i64 0, .string ⟨#[]⟩, .int .i64 0, .int .i64 0, .int .i64 0, .bool false, .bool false, .int .i64 0, .int .i64 0, .int .i64 0, .bool false, .bool false, .string ⟨#[]⟩, .slice none 0 0]) rfl (by decide) (by rfl) (fun ρ => by rfl) (fun ρ w hE hF => ?_) ?_; (· ((try simp only [fill, Act.put, List.setIfInBounds_toArray, List.set_cons_zero, List.set_cons_succ]); go_simp; try rfl)); (try simp only [Act.put, List.setIfInBounds_toArray, List.set_cons_zero, List.set_cons_succ]))
    refine seqr_tails (by kernel_rfl) (fun ρ wN hEN hFN hAN => ?_); (try simp only [fill, Act.put, List.setIfInBounds_toArray, List.set_cons_zero, List.set_cons_succ])
    obtain ⟨g9, hp9, hl9, hb9⟩ := hFN _ (.head _)
    simp only at hp9
    rw [hp9]
    clear hp9 hFN hAN
    go_wp2_with ((with_reducible refine wpl_guard (isStore 38) ?_ ?_); (· rfl); refine wpl_store (t := ?_) (old := ?_) (w' := ?_) rfl 38 _ _ rfl rfl rfl ?_ ?_ ?_ ?_ ?_ ?_; rotate_left 2; (· (first | (with_reducible assumption) | (simp (disch := (first | omega | (simp only [World.size_alloc, World.size_setCell, World.size_drew, size_setRow]; done) | (simp only [World.size_alloc, World.size_setCell, World.size_drew, size_setRow]; omega))) only [hq_at, hq_past, hq_drew, hq_drewN, hq_cell, hq_row, hq_same, rowOf_cells, Option.map_some, *]; rfl) | (simp (disch := (first | omega | (simp only [World.size_alloc, World.size_setCell, World.size_drew, size_setRow]; done) | (simp only [World.size_alloc, World.size_setCell, World.size_drew, size_setRow]; omega))) only [hq_at, hq_past, hq_drew, hq_drewN, hq_cell, hq_row, hq_same, rowOf_cells, Option.map_some, *]))); (· kernel_rfl); (· rfl); (· rfl); rotate_left 1; (· (first | (simp (disch := (first | omega | (simp only [World.size_alloc, World.size_setCell, World.size_drew, size_setRow]; done) | (simp only [World.size_alloc, World.size_setCell, World.size_drew, size_setRow]; omega))) only [setRow_at, setRow_past, setRow_drew]; rfl) | rfl)))
    refine (show K _ _ from hK.out _ _ ?_); clear hK K
    obtain ⟨W9, hW9, hE9, hG9⟩ := put_blk hEN hl9 hb9 (ndV 1 4 3 0 0 0 false).cells
    simp only [ndV, Value.cells] at hW9 hG9
    rw [hW9]
    have b1 := ext_blk (hE9.blk k1.out)
    have l1 := ext_lt (blk_lt (hE9.blk k1.out))
    have b7 := ext_blk (hE9.blk k7.out)
    have l7 := ext_lt (blk_lt (hE9.blk k7.out))
    have b8 := ext_blk (hE9.blk k8.out)
    have l8 := ext_lt (blk_lt (hE9.blk k8.out))
    have b9 := ext_blk hG9
    have l9 := ext_lt (blk_lt hG9)
    have e5 := e5.more hE9
    have hG9 := Lib.hid hG9
    have hr9 := Ext.refl W9
    clear e1 e2 e3 hEN hb9 hW9 hl9 hr7
    go_upto_region 8 with (first | ((with_reducible refine (CallE.at_ (by assumption) (by assumption)).mono ?_); rintro e w' ⟨rfl, hEx⟩))
    obtain ⟨W10, hW10, hE10, hG10, hL10, -⟩ := new_blk w' #[.int .i64 s, .int .i64 C1, .int .i64 R1] 23
    rw [hW10]
    generalize hgw : w'.heap.size = g10 at *
    have E910 := hEx.trans hE10
    have E110 := E17.trans (hE9.trans E910)
    have hr10 := Ext.refl W10
    have b8 := ext_blk (E910.blk (hE9.blk k8.out))
    have b9 := ext_blk (E910.blk hG9.out)
    have l9 := ext_lt (blk_lt (E910.blk hG9.out))
    have hlt := blk_lt (E910.blk hG9.out)
    have b10 := ext_blk hG10
    have l10 := ext_lt (blk_lt hG10)
    clear hW10 hEx hE10 E910 hG9 hG10 hlt hE9 b1 b7 l1 l7 l8 e5 hgw hL10
    go_wp2_with fail
    go_ret
    exact ⟨rfl, HE1.out.trans E110⟩
  · rw [if_pos rfl] at e2
    have e2 : CallE Try.prog W7 12 #[edV ds dc dd da, ndV 2 0 0 s c r true] (ndV 2 0 0 s C1 R1 true) := e2
    have hI2 := hcb rfl
    obtain ⟨-, ⟨h3, h4⟩, h5, h6⟩ := ins_bd hI2
    have e3 : CallE Try.prog W7 12 #[edV es ec ed ea, ndV 2 0 0 s C1 R1 true] (leafV es ec ed ea (oneF ⟨s, C1, R1, true, false⟩)).val := fun w' _ => formula_leaf es ea ec ed (oneF ⟨s, C1, R1, true, false⟩) w' rfl rfl (⟨by simp only [oneF]; omega, by simp only [oneF]; omega⟩) (show Rf.ok rf0 from ⟨by decide, by decide⟩)
    rw [leaf_at es ec ed ea s C1 R1 true] at e3
    have e6 : CallE Try.prog W7 9 #[edV es ec ed ea, ceV s C1 R1] (celV es ec ed ea s C1 R1) := fun w' _ => cel_any es ea s C1 R1 ec ed w' (by omega) (by omega)
    unfold celV at e6
    generalize celB es ec ed ea s C1 R1 = B2 at *
    generalize celC es ec ed ea s C1 = C2 at *
    generalize celR es ec ed ea s R1 = R2 at *
    clear hcb hI HB HBD HBE HBAD HI hI2 h3 h4 h5 h6
    have ess : (s == s) = true := by simp
    have ecc : (C2 == C2) = true := by simp
    have err : (R2 == R2) = true := by simp
    cases B2
    · rw [if_neg Bool.false_ne_true] at e3
      have e3 : CallE Try.prog W7 12 #[edV es ec ed ea, ndV 2 0 0 s C1 R1 true] (ndV 1 4 3 0 0 0 false) := e3
      go_wp2_with fail
      refine region_own [9] (by intro d hd; simp only [List.mem_cons, List.not_mem_nil, or_false] at hd; rcases hd with rfl <;> rfl) (by kernel_rfl) (by kernel_rfl) rfl (fun K hK => ?_)
      repeat (first | (refine seqr_skip (by rfl) (fun ρ => by rfl) ?_; (try simp only [Act.put, List.setIfInBounds_toArray, List.set_cons_zero, List.set_cons_succ])) | (refine seqr_pure (v := ?_) (by rfl) (fun ρ => by rfl) (fun ρ w hE hF => ?_) ?_; rotate_left 1; (· ((try simp only [fill, Act.put, List.setIfInBounds_toArray, List.set_cons_zero, List.set_cons_succ]); go_simp; try with_reducible rfl)); (try simp only [Act.put, List.setIfInBounds_toArray, List.set_cons_zero, List.set_cons_succ])) | (refine seqr_call0 (v := ?_) (f := ?_) (args := ?_) (by rfl) (fun ρ => by rfl) (fun ρ w => ?_) (fun w hE => ?_) ?_; rotate_left 3; (· ((try simp only [fill, Act.put, List.setIfInBounds_toArray, List.set_cons_zero, List.set_cons_succ]); go_simp; constructor <;> with_reducible rfl)); (· (with_reducible exact CallE.call (by assumption) hE)); (try simp only [Act.put, List.setIfInBounds_toArray, List.set_cons_zero, List.set_cons_succ])))
      (refine seqr_own 38 (#[.int .i64 0, .int .i64 0, .int .i64 0, .int .i64 0, .string ⟨#[]⟩, .int .i64 0, .int .i64 0, .int .i64 0, .bool false, .bool false, .int .i64 0, .int .i64 0, .int .i64 0, .bool false, .bool false, .string ⟨#[]⟩, .slice none 0 0]) rfl (by decide) (by rfl) (fun ρ => by rfl) (fun ρ w hE hF => ?_) ?_; (· ((try simp only [fill, Act.put, List.setIfInBounds_toArray, List.set_cons_zero, List.set_cons_succ]); go_simp; try rfl)); (try simp only [Act.put, List.setIfInBounds_toArray, List.set_cons_zero, List.set_cons_succ]))
      refine seqr_tails (by kernel_rfl) (fun ρ wN hEN hFN hAN => ?_); (try simp only [fill, Act.put, List.setIfInBounds_toArray, List.set_cons_zero, List.set_cons_succ])
      obtain ⟨g9, hp9, hl9, hb9⟩ := hFN _ (.head _)
      simp only at hp9
      rw [hp9]
      clear hp9 hFN hAN
      go_wp2_with ((with_reducible refine wpl_guard (isStore 38) ?_ ?_); (· rfl); refine wpl_store (t := ?_) (old := ?_) (w' := ?_) rfl 38 _ _ rfl rfl rfl ?_ ?_ ?_ ?_ ?_ ?_; rotate_left 2; (· (first | (with_reducible assumption) | (simp (disch := (first | omega | (simp only [World.size_alloc, World.size_setCell, World.size_drew, size_setRow]; done) | (simp only [World.size_alloc, World.size_setCell, World.size_drew, size_setRow]; omega))) only [hq_at, hq_past, hq_drew, hq_drewN, hq_cell, hq_row, hq_same, rowOf_cells, Option.map_some, *]; rfl) | (simp (disch := (first | omega | (simp only [World.size_alloc, World.size_setCell, World.size_drew, size_setRow]; done) | (simp only [World.size_alloc, World.size_setCell, World.size_drew, size_setRow]; omega))) only [hq_at, hq_past, hq_drew, hq_drewN, hq_cell, hq_row, hq_same, rowOf_cells, Option.map_some, *]))); (· kernel_rfl); (· rfl); (· rfl); rotate_left 1; (· (first | (simp (disch := (first | omega | (simp only [World.size_alloc, World.size_setCell, World.size_drew, size_setRow]; done) | (simp only [World.size_alloc, World.size_setCell, World.size_drew, size_setRow]; omega))) only [setRow_at, setRow_past, setRow_drew]; rfl) | rfl)))
      refine (show K _ _ from hK.out _ _ ?_); clear hK K
      obtain ⟨W9, hW9, hE9, hG9⟩ := put_blk hEN hl9 hb9 (ndV 1 4 3 0 0 0 false).cells
      simp only [ndV, Value.cells] at hW9 hG9
      rw [hW9]
      have b1 := ext_blk (hE9.blk k1.out)
      have l1 := ext_lt (blk_lt (hE9.blk k1.out))
      have b7 := ext_blk (hE9.blk k7.out)
      have l7 := ext_lt (blk_lt (hE9.blk k7.out))
      have b8 := ext_blk (hE9.blk k8.out)
      have l8 := ext_lt (blk_lt (hE9.blk k8.out))
      have b9 := ext_blk hG9
      have l9 := ext_lt (blk_lt hG9)
      have e5 := e5.more hE9
      have hG9 := Lib.hid hG9
      have hr9 := Ext.refl W9
      clear e1 e2 e3 hEN hb9 hW9 hl9 hr7
      go_upto_region 8 with (first | ((with_reducible refine (CallE.at_ (by assumption) (by assumption)).mono ?_); rintro e w' ⟨rfl, hEx⟩))
      obtain ⟨W10, hW10, hE10, hG10, hL10, -⟩ := new_blk w' #[.int .i64 s, .int .i64 C1, .int .i64 R1] 23
      rw [hW10]
      generalize hgw : w'.heap.size = g10 at *
      have E910 := hEx.trans hE10
      have E110 := E17.trans (hE9.trans E910)
      have hr10 := Ext.refl W10
      have b8 := ext_blk (E910.blk (hE9.blk k8.out))
      have b9 := ext_blk (E910.blk hG9.out)
      have l9 := ext_lt (blk_lt (E910.blk hG9.out))
      have hlt := blk_lt (E910.blk hG9.out)
      have b10 := ext_blk hG10
      have l10 := ext_lt (blk_lt hG10)
      have e6 := e6.more (hE9.trans E910)
      have hGG9 := Lib.hid (E910.blk hG9.out)
      have hGG10 := Lib.hid hG10
      have q1 := fun w => eql_cell s C2 R2 s C2 R2 w
      have hg1 : W1.heap.size ≤ g10 := by rw [← hgw]; exact Nat.le_trans (Nat.le_trans E17.size hE9.size) hEx.size
      have hne : g9 ≠ g10 := by have := blk_lt hG9.out; have := Below.size hEx; omega
      clear hW10 hEx hE10 E910 hG9 hG10 hlt hE9 b1 b7 l1 l7 l8 e5 hgw
      go_upto_region 10 with (first | ((with_reducible refine (CallE.at_ (by assumption) (by assumption)).mono ?_); rintro e w' ⟨rfl, hEx⟩; have hx10 := Ext.blk hEx hGG10.out) | ((with_reducible refine wpl_guard (isStore 23) ?_ ?_); (· rfl); refine wpl_store (t := ?_) (old := ?_) (w' := ?_) rfl 23 _ _ rfl rfl rfl ?_ ?_ ?_ ?_ ?_ ?_; rotate_left 2; (· (first | (with_reducible assumption) | (simp (disch := (first | omega | (simp only [World.size_alloc, World.size_setCell, World.size_drew, size_setRow]; done) | (simp only [World.size_alloc, World.size_setCell, World.size_drew, size_setRow]; omega))) only [hq_at, hq_past, hq_drew, hq_drewN, hq_cell, hq_row, hq_same, rowOf_cells, Option.map_some, *]; rfl) | (simp (disch := (first | omega | (simp only [World.size_alloc, World.size_setCell, World.size_drew, size_setRow]; done) | (simp only [World.size_alloc, World.size_setCell, World.size_drew, size_setRow]; omega))) only [hq_at, hq_past, hq_drew, hq_drewN, hq_cell, hq_row, hq_same, rowOf_cells, Option.map_some, *]))); (· kernel_rfl); (· rfl); (· rfl); rotate_left 1; (· (first | (simp (disch := (first | omega | (simp only [World.size_alloc, World.size_setCell, World.size_drew, size_setRow]; done) | (simp only [World.size_alloc, World.size_setCell, World.size_drew, size_setRow]; omega))) only [setRow_at, setRow_past, setRow_drew]; rfl) | rfl))))
      obtain ⟨W11, hW11, hE11, hG11⟩ := put_blk (E110.trans hEx) hg1 hx10 #[.int .i64 s, .int .i64 C2, .int .i64 R2]
      have hG9' := put_off (cs := #[.int .i64 s, .int .i64 C2, .int .i64 R2]) hne (hEx.blk hGG9.out)
      rw [hW11] at hG9' ⊢
      have hr11 := Ext.refl W11
      have b9 := ext_blk hG9'
      have l9 := ext_lt (blk_lt hG9')
      have b10 := ext_blk hG11
      have l10 := ext_lt (blk_lt hG11)
      clear hW11 hG11 hG9' hx10 hEx e6 b8 hr10 hr9
      go_wp2_with fail
      go_ret
      exact ⟨rfl, HE1.out.trans hE11⟩
    · rw [if_pos rfl] at e3
      have e3 : CallE Try.prog W7 12 #[edV es ec ed ea, ndV 2 0 0 s C1 R1 true] (ndV 2 0 0 s C2 R2 true) := e3
      go_wp2_with fail
      refine region_own [9] (by intro d hd; simp only [List.mem_cons, List.not_mem_nil, or_false] at hd; rcases hd with rfl <;> rfl) (by kernel_rfl) (by kernel_rfl) rfl (fun K hK => ?_)
      repeat (first | (refine seqr_skip (by rfl) (fun ρ => by rfl) ?_; (try simp only [Act.put, List.setIfInBounds_toArray, List.set_cons_zero, List.set_cons_succ])) | (refine seqr_pure (v := ?_) (by rfl) (fun ρ => by rfl) (fun ρ w hE hF => ?_) ?_; rotate_left 1; (· ((try simp only [fill, Act.put, List.setIfInBounds_toArray, List.set_cons_zero, List.set_cons_succ]); go_simp; try with_reducible rfl)); (try simp only [Act.put, List.setIfInBounds_toArray, List.set_cons_zero, List.set_cons_succ])) | (refine seqr_call0 (v := ?_) (f := ?_) (args := ?_) (by rfl) (fun ρ => by rfl) (fun ρ w => ?_) (fun w hE => ?_) ?_; rotate_left 3; (· ((try simp only [fill, Act.put, List.setIfInBounds_toArray, List.set_cons_zero, List.set_cons_succ]); go_simp; constructor <;> with_reducible rfl)); (· (with_reducible exact CallE.call (by assumption) hE)); (try simp only [Act.put, List.setIfInBounds_toArray, List.set_cons_zero, List.set_cons_succ])))
      (refine seqr_own 38 (#[.int .i64 0, .int .i64 0, .int .i64 0, .int .i64 0, .string ⟨#[]⟩, .int .i64 0, .int .i64 0, .int .i64 0, .bool false, .bool false, .int .i64 0, .int .i64 0, .int .i64 0, .bool false, .bool false, .string ⟨#[]⟩, .slice none 0 0]) rfl (by decide) (by rfl) (fun ρ => by rfl) (fun ρ w hE hF => ?_) ?_; (· ((try simp only [fill, Act.put, List.setIfInBounds_toArray, List.set_cons_zero, List.set_cons_succ]); go_simp; try rfl)); (try simp only [Act.put, List.setIfInBounds_toArray, List.set_cons_zero, List.set_cons_succ]))
      refine seqr_tails (by kernel_rfl) (fun ρ wN hEN hFN hAN => ?_); (try simp only [fill, Act.put, List.setIfInBounds_toArray, List.set_cons_zero, List.set_cons_succ])
      obtain ⟨g9, hp9, hl9, hb9⟩ := hFN _ (.head _)
      simp only at hp9
      rw [hp9]
      clear hp9 hFN hAN
      go_wp2_with ((with_reducible refine wpl_guard (isStore 38) ?_ ?_); (· rfl); refine wpl_store (t := ?_) (old := ?_) (w' := ?_) rfl 38 _ _ rfl rfl rfl ?_ ?_ ?_ ?_ ?_ ?_; rotate_left 2; (· (first | (with_reducible assumption) | (simp (disch := (first | omega | (simp only [World.size_alloc, World.size_setCell, World.size_drew, size_setRow]; done) | (simp only [World.size_alloc, World.size_setCell, World.size_drew, size_setRow]; omega))) only [hq_at, hq_past, hq_drew, hq_drewN, hq_cell, hq_row, hq_same, rowOf_cells, Option.map_some, *]; rfl) | (simp (disch := (first | omega | (simp only [World.size_alloc, World.size_setCell, World.size_drew, size_setRow]; done) | (simp only [World.size_alloc, World.size_setCell, World.size_drew, size_setRow]; omega))) only [hq_at, hq_past, hq_drew, hq_drewN, hq_cell, hq_row, hq_same, rowOf_cells, Option.map_some, *]))); (· kernel_rfl); (· rfl); (· rfl); rotate_left 1; (· (first | (simp (disch := (first | omega | (simp only [World.size_alloc, World.size_setCell, World.size_drew, size_setRow]; done) | (simp only [World.size_alloc, World.size_setCell, World.size_drew, size_setRow]; omega))) only [setRow_at, setRow_past, setRow_drew]; rfl) | rfl)))
      refine (show K _ _ from hK.out _ _ ?_); clear hK K
      obtain ⟨W9, hW9, hE9, hG9⟩ := put_blk hEN hl9 hb9 (ndV 2 0 0 s C2 R2 true).cells
      simp only [ndV, Value.cells] at hW9 hG9
      rw [hW9]
      have b1 := ext_blk (hE9.blk k1.out)
      have l1 := ext_lt (blk_lt (hE9.blk k1.out))
      have b7 := ext_blk (hE9.blk k7.out)
      have l7 := ext_lt (blk_lt (hE9.blk k7.out))
      have b8 := ext_blk (hE9.blk k8.out)
      have l8 := ext_lt (blk_lt (hE9.blk k8.out))
      have b9 := ext_blk hG9
      have l9 := ext_lt (blk_lt hG9)
      have e5 := e5.more hE9
      have hG9 := Lib.hid hG9
      have hr9 := Ext.refl W9
      clear e1 e2 e3 hEN hb9 hW9 hl9 hr7
      go_upto_region 8 with (first | ((with_reducible refine (CallE.at_ (by assumption) (by assumption)).mono ?_); rintro e w' ⟨rfl, hEx⟩))
      obtain ⟨W10, hW10, hE10, hG10, hL10, -⟩ := new_blk w' #[.int .i64 s, .int .i64 C1, .int .i64 R1] 23
      rw [hW10]
      generalize hgw : w'.heap.size = g10 at *
      have E910 := hEx.trans hE10
      have E110 := E17.trans (hE9.trans E910)
      have hr10 := Ext.refl W10
      have b8 := ext_blk (E910.blk (hE9.blk k8.out))
      have b9 := ext_blk (E910.blk hG9.out)
      have l9 := ext_lt (blk_lt (E910.blk hG9.out))
      have hlt := blk_lt (E910.blk hG9.out)
      have b10 := ext_blk hG10
      have l10 := ext_lt (blk_lt hG10)
      have e6 := e6.more (hE9.trans E910)
      have hGG9 := Lib.hid (E910.blk hG9.out)
      have hGG10 := Lib.hid hG10
      have q1 := fun w => eql_cell s C2 R2 s C2 R2 w
      have hg1 : W1.heap.size ≤ g10 := by rw [← hgw]; exact Nat.le_trans (Nat.le_trans E17.size hE9.size) hEx.size
      have hne : g9 ≠ g10 := by have := blk_lt hG9.out; have := Below.size hEx; omega
      clear hW10 hEx hE10 E910 hG9 hG10 hlt hE9 b1 b7 l1 l7 l8 e5 hgw
      go_upto_region 10 with (first | ((with_reducible refine (CallE.at_ (by assumption) (by assumption)).mono ?_); rintro e w' ⟨rfl, hEx⟩; have hx10 := Ext.blk hEx hGG10.out) | ((with_reducible refine wpl_guard (isStore 23) ?_ ?_); (· rfl); refine wpl_store (t := ?_) (old := ?_) (w' := ?_) rfl 23 _ _ rfl rfl rfl ?_ ?_ ?_ ?_ ?_ ?_; rotate_left 2; (· (first | (with_reducible assumption) | (simp (disch := (first | omega | (simp only [World.size_alloc, World.size_setCell, World.size_drew, size_setRow]; done) | (simp only [World.size_alloc, World.size_setCell, World.size_drew, size_setRow]; omega))) only [hq_at, hq_past, hq_drew, hq_drewN, hq_cell, hq_row, hq_same, rowOf_cells, Option.map_some, *]; rfl) | (simp (disch := (first | omega | (simp only [World.size_alloc, World.size_setCell, World.size_drew, size_setRow]; done) | (simp only [World.size_alloc, World.size_setCell, World.size_drew, size_setRow]; omega))) only [hq_at, hq_past, hq_drew, hq_drewN, hq_cell, hq_row, hq_same, rowOf_cells, Option.map_some, *]))); (· kernel_rfl); (· rfl); (· rfl); rotate_left 1; (· (first | (simp (disch := (first | omega | (simp only [World.size_alloc, World.size_setCell, World.size_drew, size_setRow]; done) | (simp only [World.size_alloc, World.size_setCell, World.size_drew, size_setRow]; omega))) only [setRow_at, setRow_past, setRow_drew]; rfl) | rfl))))
      obtain ⟨W11, hW11, hE11, hG11⟩ := put_blk (E110.trans hEx) hg1 hx10 #[.int .i64 s, .int .i64 C2, .int .i64 R2]
      have hG9' := put_off (cs := #[.int .i64 s, .int .i64 C2, .int .i64 R2]) hne (hEx.blk hGG9.out)
      rw [hW11] at hG9' ⊢
      have hr11 := Ext.refl W11
      have b9 := ext_blk hG9'
      have l9 := ext_lt (blk_lt hG9')
      have b10 := ext_blk hG11
      have l10 := ext_lt (blk_lt hG11)
      clear hW11 hG11 hG9' hx10 hEx e6 b8 hr10 hr9
      go_wp2_with fail
      go_ret
      exact ⟨rfl, HE1.out.trans hE11⟩
theorem walk (n m : Int) (c : Cl) (w : World) (wn : (Lit.int .i64 n).wf = true) (wm : (Lit.int .i64 m).wf = true) (wc : c.wf) :
    Calls Try.prog 5 #[.int .i64 n, .int .i64 m, ceV c.s c.c c.r] w fun e w' => e = .returned (.bool true) ∧ Below w.heap.size w w' := walk0 n m c.s c.c c.r w
end Go.Proofs.Ytdfgobnmcngkmaa.shiftNames
