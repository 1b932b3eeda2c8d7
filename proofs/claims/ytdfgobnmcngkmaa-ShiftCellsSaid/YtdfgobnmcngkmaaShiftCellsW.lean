/-
  ShiftCells: walk. Conditions: the arguments' own.
-/
import Derived.Test.YtdfgobnmcngkmaaShiftH
import Derived.Test.YtdfgobnmcngkmaaArgC
import Derived.Laws.StructEq
import Derived.Deep.DeepCutAuto
namespace Go.Proofs.Ytdfgobnmcngkmaa.shiftCells
open Go.RowKit
set_option linter.unusedVariables false
set_option linter.unusedSimpArgs false

theorem eql_cell (s c r s' c' r' : Int) (w : World) : Sem.run Try.prog (binOp .eql 23 (ceV s c r) (ceV s' c' r')) w = .ok (.bool (s == s' && (c == c' && r == r'))) w := by
  by_cases h1 : s = s' <;> by_cases h2 : c = c' <;> by_cases h3 : r = r' <;> simp [go_sem, *]
theorem bq1 {b : Bool} (h : (false == b) = false) : b = true := by cases b <;> simp_all
theorem bq2 {b : Bool} (h : (true == b) = false) : b = false := by cases b <;> simp_all
theorem ins_bd {s c r : Int} (h : insV s c r = true) : (0 ≤ s ∧ s < 3) ∧ (0 ≤ c ∧ c < 26) ∧ 0 ≤ r ∧ r < 99 := by
  simp only [insV, Bool.and_eq_true, decide_eq_true_eq] at h; omega
/-- What an edit makes of one cell. -/
theorem cells_fact (es : Int) (ec ed : Bool) (ea s1 c1 r1 : Int) (h : insV s1 c1 r1 = true) (hb : (0 ≤ es ∧ es ≤ 1) ∧ 0 ≤ ea ∧ ea ≤ 7) :
    (s1 ≠ es → celC es ec ed ea s1 c1 = c1 ∧ celR es ec ed ea s1 r1 = r1 ∧ celB es ec ed ea s1 c1 r1 = true) ∧
    (s1 = es → ed = true → (celB es ec ed ea s1 c1 r1 == ((if ec then c1 else r1) == ea)) = false) ∧
    (celB es ec ed ea s1 c1 r1 = true → insV s1 (celC es ec ed ea s1 c1) (celR es ec ed ea s1 r1) = true) := by
  obtain ⟨h1, h2, h3⟩ := ins_bd h
  refine ⟨fun hs => by simp [celC, celR, celB, hs], fun hs hd => ?_, fun hk => ?_⟩
  · subst hs hd
    cases ec
    · simp only [celB, oneB, if_true, Bool.false_eq_true, if_false]
      by_cases a1 : r1 < ea
      · simp [a1]; omega
      · by_cases a2 : ea < r1
        · simp [a1, a2]; omega
        · simp [a1, a2]; omega
    · simp only [celB, oneB, if_true]
      by_cases a1 : c1 < ea
      · simp [a1]; omega
      · by_cases a2 : ea < c1
        · simp [a1, a2]; omega
        · simp [a1, a2]; omega
  · by_cases hs : s1 = es
    · subst hs
      cases ec <;> cases ed
      all_goals
        simp only [celB, celC, celR, oneB, oneV, insV, if_true, Bool.false_eq_true, if_false, Bool.and_eq_true, decide_eq_true_eq] at hk ⊢
        split at hk
        · simp_all
        · rename_i hlt
          rw [if_neg hlt]
          simp only [decide_eq_true_eq] at hk
          omega
    · simpa [celB, celC, celR, hs] using h
theorem cells_both (es : Int) (ec ed : Bool) (ea s1 c1 r1 s2 c2 r2 : Int) (h : insV s1 c1 r1 = true) (h' : insV s2 c2 r2 = true) (hb : (0 ≤ es ∧ es ≤ 1) ∧ 0 ≤ ea ∧ ea ≤ 7)
    (k1 : celB es ec ed ea s1 c1 r1 = true) (k2 : celB es ec ed ea s2 c2 r2 = true) :
    ((s1 == s2 && (celC es ec ed ea s1 c1 == celC es ec ed ea s2 c2 && celR es ec ed ea s1 r1 == celR es ec ed ea s2 r2)) = (s1 == s2 && (c1 == c2 && r1 == r2))) ∧
    (r1 = r2 → s1 = s2 → celR es ec ed ea s1 r1 = celR es ec ed ea s2 r2) := by
  refine ⟨?_, fun hr hs => by subst hr hs; rfl⟩
  by_cases hs : s1 = s2
  · subst hs
    by_cases he : s1 = es
    · subst he
      cases ec
      · simp only [celB, celC, celR, if_true, Bool.false_eq_true, if_false] at k1 k2 ⊢
        have key : oneV ed ea r1 = oneV ed ea r2 ↔ r1 = r2 := by
          unfold oneB at k1 k2
          unfold oneV
          cases ed <;> simp only [if_true, Bool.false_eq_true, if_false] at k1 k2 ⊢ <;> (split at k1 <;> split at k2 <;> simp only [decide_eq_true_eq] at k1 k2 <;> simp only [*, if_true, if_false] <;> omega)
        have kb : (oneV ed ea r1 == oneV ed ea r2) = (r1 == r2) := by rw [Bool.eq_iff_iff]; simpa using key
        rw [kb]
      · simp only [celB, celC, celR, if_true] at k1 k2 ⊢
        have key : oneV ed ea c1 = oneV ed ea c2 ↔ c1 = c2 := by
          unfold oneB at k1 k2
          unfold oneV
          cases ed <;> simp only [if_true, Bool.false_eq_true, if_false] at k1 k2 ⊢ <;> (split at k1 <;> split at k2 <;> simp only [decide_eq_true_eq] at k1 k2 <;> simp only [*, if_true, if_false] <;> omega)
        have kb : (oneV ed ea c1 == oneV ed ea c2) = (c1 == c2) := by rw [Bool.eq_iff_iff]; simpa using key
        rw [kb]
    · simp [celC, celR, he]
  · have : (s1 == s2) = false := by simpa using hs
    simp [this]
set_option maxHeartbeats 4000000 in
set_option maxRecDepth 100000 in
theorem walk0 (n s1 c1 r1 s2 c2 r2 : Int) (w : World) :
    Calls Try.prog 3 #[.int .i64 n, ceV s1 c1 r1, ceV s2 c2 r2] w fun e w' => e = .returned (.bool true) ∧ Ext w w' := by
  obtain ⟨W1, hW1, hE1, hG1, hL1, hS1⟩ := new_blk w #[.int .i64 s1, .int .i64 c1, .int .i64 r1] 23
  obtain ⟨W2, hW2, hE2, hG2, hL2, hS2⟩ := new_blk W1 #[.int .i64 s2, .int .i64 c2, .int .i64 r2] 23
  obtain ⟨es, hes⟩ : ∃ es, edS n = es := ⟨_, rfl⟩
  obtain ⟨ec, hec⟩ : ∃ ec, edC n = ec := ⟨_, rfl⟩
  obtain ⟨ed, hed⟩ : ∃ ed, edD n = ed := ⟨_, rfl⟩
  obtain ⟨ea, hea⟩ : ∃ ea, edA n = ea := ⟨_, rfl⟩
  have hbd := ed_bd n
  have ced := fun w => edit_any n w
  rw [hes, hec, hed, hea] at ced
  rw [hes, hea] at hbd
  have CED := Lib.hid ced
  have HW1 := Lib.hid hW1
  have HW2 := Lib.hid hW2
  have HBD := Lib.hid hbd
  have E02 := Ext.trans hE1 hE2
  have hG12 := hE2.blk hG1
  rw [hS1] at hG2
  have HS : Hid (W2.heap.size = w.heap.size + 1 + 1) := Lib.hid (by rw [hS2, hS1])
  clear hes hec hed hea ced hW1 hW2 hbd hE1 hL1 hE2 hG1 hL2 hS1 hS2
  go_enter Try.func3, Try.ntmps3
  go_wp2_with fail
  rw [HW1.out, HW2.out]
  refine (fit_any _).mono ?_
  rintro e w3 ⟨rfl, hE3⟩
  go_wp2_with fail
  refine (CED.out _).mono ?_
  rintro e w4 ⟨rfl, hE4⟩
  obtain ⟨W5, hW5, hE5, hG5, hL5, hS5⟩ := new_blk w4 #[.int .i64 es, .bool ec, .bool ed, .int .i64 ea] 26
  have HW5 := Lib.hid hW5
  have E25 := Ext.trans (Ext.trans hE3 hE4) hE5
  have E05 := Ext.trans E02 E25
  have k1 := E25.blk hG12
  have k2 := E25.blk hG2
  have HK1 := Lib.hid k1
  have HK2 := Lib.hid k2
  have HK3 := Lib.hid hG5
  clear k1 k2
  have b1 := ext_blk (E25.blk hG12)
  have b2 := ext_blk (E25.blk hG2)
  have b3 := ext_blk hG5
  have l1 := ext_lt (blk_lt (E25.blk hG12))
  have l2 := ext_lt (blk_lt (E25.blk hG2))
  have l3 := ext_lt (blk_lt hG5)
  clear hW5 hE3 hE4 hE5 E25
  have hr5 := Ext.refl W5
  go_upto_region 5 with (fail)
  rw [HW5.out]
  clear HW1 HW2 HW5 CED
  have e1 : CallE Try.prog W5 _ _ _ := fun w' _ => ins_any s1 c1 r1 w'
  have e2 : CallE Try.prog W5 _ _ _ := fun w' _ => ins_any s2 c2 r2 w'
  have hI1 : insV s1 c1 r1 = true ∨ insV s1 c1 r1 = false := by cases insV s1 c1 r1 <;> simp
  have hI2 : insV s2 c2 r2 = true ∨ insV s2 c2 r2 = false := by cases insV s2 c2 r2 <;> simp
  rcases hI1 with hI1 | hI1
  rotate_left 1
  · rw [hI1] at e1
    clear hI1 hI2
    go_wp2_with (first | ((with_reducible refine (CallE.at_ (by assumption) (by assumption)).mono ?_); rintro e w' ⟨rfl, hEx⟩))
    go_ret
    exact ⟨rfl, E05.trans (by assumption)⟩
  rcases hI2 with hI2 | hI2
  rotate_left 1
  · rw [hI1] at e1
    rw [hI2] at e2
    clear hI1 hI2
    go_wp2_with (first | ((with_reducible refine (CallE.at_ (by assumption) (by assumption)).mono ?_); rintro e w' ⟨rfl, hEx⟩))
    go_ret
    exact ⟨rfl, E05.trans (by assumption)⟩
  rw [hI1] at e1
  rw [hI2] at e2
  obtain ⟨-, ⟨h1, h2⟩, h3, h4⟩ := ins_bd hI1
  obtain ⟨-, ⟨h5, h6⟩, h7, h8⟩ := ins_bd hI2
  have HI1 := Lib.hid hI1
  have HI2 := Lib.hid hI2
  clear hI1 hI2
  have e3 : CallE Try.prog W5 _ _ _ := fun w' _ => cel_any es ea s1 c1 r1 ec ed w' (by omega) (by omega)
  have e4 : CallE Try.prog W5 _ _ _ := fun w' _ => cel_any es ea s2 c2 r2 ec ed w' (by omega) (by omega)
  unfold celV at e3 e4
  have hF1 := cells_fact es ec ed ea s1 c1 r1 HI1.out HBD.out
  have hF2 := cells_both es ec ed ea s1 c1 r1 s2 c2 r2 HI1.out HI2.out HBD.out
  generalize celC es ec ed ea s1 c1 = C1 at *
  generalize celR es ec ed ea s1 r1 = R1 at *
  generalize celB es ec ed ea s1 c1 r1 = ok1 at *
  generalize celC es ec ed ea s2 c2 = C2 at *
  generalize celR es ec ed ea s2 r2 = R2 at *
  generalize celB es ec ed ea s2 c2 r2 = ok2 at *
  have HF1 := Lib.hid hF1
  have HF2 := Lib.hid hF2
  clear hF1 hF2
  go_upto_region 9 with (first | ((with_reducible refine (CallE.at_ (by assumption) (by assumption)).mono ?_); rintro e w' ⟨rfl, hEx⟩))
  obtain ⟨W6, hW6, hE6, hG6, hL6, -⟩ := new_blk w' #[.int .i64 s1, .int .i64 C1, .int .i64 R1] 23
  rw [hW6]
  have E56 : Ext W5 W6 := hEx.trans hE6
  refine ((e4.more E56).call (Ext.refl W6)).mono ?_
  rintro e w7 ⟨rfl, hE7⟩
  obtain ⟨W8, hW8, hE8, hG8, hL8, -⟩ := new_blk w7 #[.int .i64 s2, .int .i64 C2, .int .i64 R2] 23
  have E68 := Ext.trans hE7 hE8
  have E58 := Ext.trans E56 E68
  have E08 := E05.trans E58
  have d1 := ext_blk (E58.blk HK1.out)
  have d2 := ext_blk (E58.blk HK2.out)
  have d3 := ext_blk (E58.blk HK3.out)
  have d4 := ext_blk (E68.blk hG6)
  have d5 := ext_blk hG8
  have e5 : CallE Try.prog W8 _ _ _ := fun w' _ => ins_any s1 C1 R1 w'
  have HW8 := Lib.hid hW8
  clear hW6 hW8 E56 E68 E58 hE6 hE7 hE8 hG6 hG8 HK1 HK2 HK3 b1 b2 b3 l1 l2 l3 e1 e2 e3 e4 E05 hr5 hG2 hG12 hEx E02 hG5 hL5
  have hr8 := Ext.refl W8
  go_upto_region 9 with (fail)
  rw [HW8.out]
  clear HW8
  obtain ⟨f1, f2, f3⟩ := HF1.out
  have F3 := Lib.hid f3
  clear f3 HF1
  have fin : ∀ w', Ext W8 w' → Ext w w' := fun w' h => E08.trans h
  go_upto_if 43 with (fail)
  go_cut [13] (fun c wx => c = .int .i64 (if ec then c1 else r1) ∧ W8 = wx)
  case first =>
    clear f1 f2 HF2 F3 e5
    cases ec
    · go_wp2_with fail
      go_meet
      case rel => exact ⟨rfl, rfl⟩
    · go_wp2_with fail
      go_meet
      case rel => exact ⟨rfl, rfl⟩
  case rest =>
  obtain ⟨rfl, rfl⟩ := hcut
  generalize (if ec = true then c1 else r1) = at1 at *
  go_upto_region 12 with (fail)
  go_cut [78] (fun c wx => c = .bool false ∧ W8 = wx)
  case first =>
    clear HF2 F3 e5
    by_cases hs : s1 = es
    · have F2 := Lib.hid (f2 hs)
      subst hs
      have ess : (s1 == s1) = true := by simp
      have nss : (s1 != s1) = false := by simp
      clear f1 f2
      cases ed
      · clear F2
        go_wp2_with fail
        go_meet
        case rel => exact ⟨rfl, rfl⟩
      · cases ok1
        · have hq : (at1 == ea) = true := bq1 (F2.out rfl)
          clear F2
          go_wp2_with fail
          go_meet
          case rel => exact ⟨rfl, rfl⟩
        · have hq : (at1 == ea) = false := bq2 (F2.out rfl)
          clear F2
          go_wp2_with fail
          go_meet
          case rel => exact ⟨rfl, rfl⟩
    · obtain ⟨rfl, rfl, rfl⟩ := f1 hs
      have hs' : (s1 != es) = true := by simpa using hs
      have hs2 : (s1 == es) = false := by simpa using hs
      have ess : (s1 == s1) = true := by simp
      have nss : (s1 != s1) = false := by simp
      have ecc : (C1 != C1) = false := by simp
      have err : (R1 != R1) = false := by simp
      clear f1 f2 hs
      go_wp2_with fail
      go_meet
      case rel => exact ⟨rfl, rfl⟩
  case rest =>
  obtain ⟨rfl, rfl⟩ := hcut
  clear f1 f2
  cases ok1 <;> cases ok2
  · have dummy := trivial
    clear F3 HF2 e5
    go_wp2_with fail
    refine region_any (by kernel_rfl) (by kernel_rfl) rfl (fun K hK => ?_)
    repeat (first | (refine seqr_skip (by rfl) (fun ρ => by rfl) ?_; (try simp only [Act.put, List.setIfInBounds_toArray, List.set_cons_zero, List.set_cons_succ])) | (refine seqr_pure (v := ?_) (by rfl) (fun ρ => by rfl) (fun ρ w hE hF => ?_) ?_; rotate_left 1; (· ((try simp only [fill, Act.put, List.setIfInBounds_toArray, List.set_cons_zero, List.set_cons_succ]); go_simp; try with_reducible rfl)); (try simp only [Act.put, List.setIfInBounds_toArray, List.set_cons_zero, List.set_cons_succ])) | (refine seqr_call0 (v := ?_) (f := ?_) (args := ?_) (by rfl) (fun ρ => by rfl) (fun ρ w => ?_) (fun w hE => ?_) ?_; rotate_left 3; (· ((try simp only [fill, Act.put, List.setIfInBounds_toArray, List.set_cons_zero, List.set_cons_succ]); go_simp; constructor <;> with_reducible rfl)); (· (with_reducible exact CallE.call (by assumption) hE)); (try simp only [Act.put, List.setIfInBounds_toArray, List.set_cons_zero, List.set_cons_succ])))
    refine seqr_done (fun ρ wN hEN hFN => ?_); (try simp only [fill, Act.put, List.setIfInBounds_toArray, List.set_cons_zero, List.set_cons_succ]); refine (show K _ _ from hK.out _ _ ?_); clear hK K
    go_wp2_with fail
    go_ret
    exact ⟨rfl, fin _ hEN⟩
  · have dummy := trivial
    clear F3 HF2 e5
    go_wp2_with fail
    refine region_any (by kernel_rfl) (by kernel_rfl) rfl (fun K hK => ?_)
    repeat (first | (refine seqr_skip (by rfl) (fun ρ => by rfl) ?_; (try simp only [Act.put, List.setIfInBounds_toArray, List.set_cons_zero, List.set_cons_succ])) | (refine seqr_pure (v := ?_) (by rfl) (fun ρ => by rfl) (fun ρ w hE hF => ?_) ?_; rotate_left 1; (· ((try simp only [fill, Act.put, List.setIfInBounds_toArray, List.set_cons_zero, List.set_cons_succ]); go_simp; try with_reducible rfl)); (try simp only [Act.put, List.setIfInBounds_toArray, List.set_cons_zero, List.set_cons_succ])) | (refine seqr_call0 (v := ?_) (f := ?_) (args := ?_) (by rfl) (fun ρ => by rfl) (fun ρ w => ?_) (fun w hE => ?_) ?_; rotate_left 3; (· ((try simp only [fill, Act.put, List.setIfInBounds_toArray, List.set_cons_zero, List.set_cons_succ]); go_simp; constructor <;> with_reducible rfl)); (· (with_reducible exact CallE.call (by assumption) hE)); (try simp only [Act.put, List.setIfInBounds_toArray, List.set_cons_zero, List.set_cons_succ])))
    refine seqr_done (fun ρ wN hEN hFN => ?_); (try simp only [fill, Act.put, List.setIfInBounds_toArray, List.set_cons_zero, List.set_cons_succ]); refine (show K _ _ from hK.out _ _ ?_); clear hK K
    go_wp2_with fail
    go_ret
    exact ⟨rfl, fin _ hEN⟩
  · have dummy := trivial
    clear F3 HF2 e5
    go_wp2_with fail
    refine region_any (by kernel_rfl) (by kernel_rfl) rfl (fun K hK => ?_)
    repeat (first | (refine seqr_skip (by rfl) (fun ρ => by rfl) ?_; (try simp only [Act.put, List.setIfInBounds_toArray, List.set_cons_zero, List.set_cons_succ])) | (refine seqr_pure (v := ?_) (by rfl) (fun ρ => by rfl) (fun ρ w hE hF => ?_) ?_; rotate_left 1; (· ((try simp only [fill, Act.put, List.setIfInBounds_toArray, List.set_cons_zero, List.set_cons_succ]); go_simp; try with_reducible rfl)); (try simp only [Act.put, List.setIfInBounds_toArray, List.set_cons_zero, List.set_cons_succ])) | (refine seqr_call0 (v := ?_) (f := ?_) (args := ?_) (by rfl) (fun ρ => by rfl) (fun ρ w => ?_) (fun w hE => ?_) ?_; rotate_left 3; (· ((try simp only [fill, Act.put, List.setIfInBounds_toArray, List.set_cons_zero, List.set_cons_succ]); go_simp; constructor <;> with_reducible rfl)); (· (with_reducible exact CallE.call (by assumption) hE)); (try simp only [Act.put, List.setIfInBounds_toArray, List.set_cons_zero, List.set_cons_succ])))
    refine seqr_done (fun ρ wN hEN hFN => ?_); (try simp only [fill, Act.put, List.setIfInBounds_toArray, List.set_cons_zero, List.set_cons_succ]); refine (show K _ _ from hK.out _ _ ?_); clear hK K
    go_wp2_with fail
    go_ret
    exact ⟨rfl, fin _ hEN⟩
  · have dummy := trivial
    rw [F3.out rfl] at e5
    obtain ⟨z1, z2⟩ := HF2.out rfl rfl
    have q1 := fun w => eql_cell s1 C1 R1 s2 C2 R2 w
    have q2 := fun w => eql_cell s1 c1 r1 s2 c2 r2 w
    rw [z1] at q1
    generalize (s1 == s2 && (c1 == c2 && r1 == r2)) = Z at *
    have hzz : (Z == Z) = true := by cases Z <;> rfl
    have Z2 := Lib.hid z2
    clear z1 z2 HF2 F3
    by_cases hr : r1 = r2
    · have hr' : (r1 != r2) = false := by simpa using hr
      by_cases hss : s1 = s2
      · have hs3 : (s1 != s2) = false := by simpa using hss
        have hRR : (R1 == R2) = true := by rw [Z2.out hr hss]; simp
        clear hr hss Z2
        go_wp2_with fail
        refine region_any (by kernel_rfl) (by kernel_rfl) rfl (fun K hK => ?_)
        repeat (first | (refine seqr_skip (by rfl) (fun ρ => by rfl) ?_; (try simp only [Act.put, List.setIfInBounds_toArray, List.set_cons_zero, List.set_cons_succ])) | (refine seqr_pure (v := ?_) (by rfl) (fun ρ => by rfl) (fun ρ w hE hF => ?_) ?_; rotate_left 1; (· ((try simp only [fill, Act.put, List.setIfInBounds_toArray, List.set_cons_zero, List.set_cons_succ]); go_simp; try with_reducible rfl)); (try simp only [Act.put, List.setIfInBounds_toArray, List.set_cons_zero, List.set_cons_succ])) | (refine seqr_call0 (v := ?_) (f := ?_) (args := ?_) (by rfl) (fun ρ => by rfl) (fun ρ w => ?_) (fun w hE => ?_) ?_; rotate_left 3; (· ((try simp only [fill, Act.put, List.setIfInBounds_toArray, List.set_cons_zero, List.set_cons_succ]); go_simp; constructor <;> with_reducible rfl)); (· (with_reducible exact CallE.call (by assumption) hE)); (try simp only [Act.put, List.setIfInBounds_toArray, List.set_cons_zero, List.set_cons_succ])))
        refine seqr_done (fun ρ wN hEN hFN => ?_); (try simp only [fill, Act.put, List.setIfInBounds_toArray, List.set_cons_zero, List.set_cons_succ]); refine (show K _ _ from hK.out _ _ ?_); clear hK K
        go_wp2_with fail
        go_ret
        exact ⟨rfl, fin _ hEN⟩
      · have hs3 : (s1 != s2) = true := by simpa using hss
        clear hr hss Z2
        go_wp2_with fail
        refine region_any (by kernel_rfl) (by kernel_rfl) rfl (fun K hK => ?_)
        repeat (first | (refine seqr_skip (by rfl) (fun ρ => by rfl) ?_; (try simp only [Act.put, List.setIfInBounds_toArray, List.set_cons_zero, List.set_cons_succ])) | (refine seqr_pure (v := ?_) (by rfl) (fun ρ => by rfl) (fun ρ w hE hF => ?_) ?_; rotate_left 1; (· ((try simp only [fill, Act.put, List.setIfInBounds_toArray, List.set_cons_zero, List.set_cons_succ]); go_simp; try with_reducible rfl)); (try simp only [Act.put, List.setIfInBounds_toArray, List.set_cons_zero, List.set_cons_succ])) | (refine seqr_call0 (v := ?_) (f := ?_) (args := ?_) (by rfl) (fun ρ => by rfl) (fun ρ w => ?_) (fun w hE => ?_) ?_; rotate_left 3; (· ((try simp only [fill, Act.put, List.setIfInBounds_toArray, List.set_cons_zero, List.set_cons_succ]); go_simp; constructor <;> with_reducible rfl)); (· (with_reducible exact CallE.call (by assumption) hE)); (try simp only [Act.put, List.setIfInBounds_toArray, List.set_cons_zero, List.set_cons_succ])))
        refine seqr_done (fun ρ wN hEN hFN => ?_); (try simp only [fill, Act.put, List.setIfInBounds_toArray, List.set_cons_zero, List.set_cons_succ]); refine (show K _ _ from hK.out _ _ ?_); clear hK K
        go_wp2_with fail
        go_ret
        exact ⟨rfl, fin _ hEN⟩
    · have hr' : (r1 != r2) = true := by simpa using hr
      clear hr Z2
      go_wp2_with fail
      refine region_any (by kernel_rfl) (by kernel_rfl) rfl (fun K hK => ?_)
      repeat (first | (refine seqr_skip (by rfl) (fun ρ => by rfl) ?_; (try simp only [Act.put, List.setIfInBounds_toArray, List.set_cons_zero, List.set_cons_succ])) | (refine seqr_pure (v := ?_) (by rfl) (fun ρ => by rfl) (fun ρ w hE hF => ?_) ?_; rotate_left 1; (· ((try simp only [fill, Act.put, List.setIfInBounds_toArray, List.set_cons_zero, List.set_cons_succ]); go_simp; try with_reducible rfl)); (try simp only [Act.put, List.setIfInBounds_toArray, List.set_cons_zero, List.set_cons_succ])) | (refine seqr_call0 (v := ?_) (f := ?_) (args := ?_) (by rfl) (fun ρ => by rfl) (fun ρ w => ?_) (fun w hE => ?_) ?_; rotate_left 3; (· ((try simp only [fill, Act.put, List.setIfInBounds_toArray, List.set_cons_zero, List.set_cons_succ]); go_simp; constructor <;> with_reducible rfl)); (· (with_reducible exact CallE.call (by assumption) hE)); (try simp only [Act.put, List.setIfInBounds_toArray, List.set_cons_zero, List.set_cons_succ])))
      refine seqr_done (fun ρ wN hEN hFN => ?_); (try simp only [fill, Act.put, List.setIfInBounds_toArray, List.set_cons_zero, List.set_cons_succ]); refine (show K _ _ from hK.out _ _ ?_); clear hK K
      go_wp2_with fail
      go_ret
      exact ⟨rfl, fin _ hEN⟩
theorem walk (n : Int) (a b : Cl) (w : World) (wn : (Lit.int .i64 n).wf = true) (wa : a.wf) (wb : b.wf) :
    Calls Try.prog 3 #[.int .i64 n, ceV a.s a.c a.r, ceV b.s b.c b.r] w fun e w' => e = .returned (.bool true) ∧ Below w.heap.size w w' := walk0 n a.s a.c a.r b.s b.c b.r w
end Go.Proofs.Ytdfgobnmcngkmaa.shiftCells
