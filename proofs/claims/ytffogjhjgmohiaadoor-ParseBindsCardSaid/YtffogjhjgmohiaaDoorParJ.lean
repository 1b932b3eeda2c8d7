/-
  parse: expr: walk. Conditions: each theorem's own.
-/
import Derived.Test.YtffogjhjgmohiaaDoorParG
namespace Go.Proofs.YtffogjhjgmohiaaDoor
open Go.RowKit
set_option linter.unusedVariables false
set_option linter.unusedSimpArgs false

theorem expr_top {sh E n d : Nat} {ts : List Tok} {R} (h : exprF E sh (n + 1) 4 d ts = some R) : unaryF E sh n d ts = some R := by
  rw [exprF] at h
  simpa using h
theorem expr_low {sh E n d lvl : Nat} {ts : List Tok} {R} (hl : lvl ≠ 4) (h : exprF E sh (n + 1) lvl d ts = some R) :
    ∃ R1, exprF E sh n (lvl + 1) d ts = some R1 ∧ ((∃ e, R1 = .error e ∧ R = .error e) ∨ ∃ x r, R1 = .ok (x, r) ∧ loopF E sh n lvl d x r = some R) := by
  rw [exprF] at h
  rw [if_neg (by simpa using hl)] at h
  cases hu : exprF E sh n (lvl + 1) d ts with
  | none => rw [hu] at h; cases h
  | some R1 =>
    rw [hu] at h
    rcases R1 with e | ⟨x, r⟩
    · injection h with h; exact ⟨_, rfl, .inl ⟨e, rfl, h.symm⟩⟩
    · exact ⟨_, rfl, .inr ⟨x, r, rfl, h⟩⟩
theorem loop_no {sh E n d lvl : Nat} {x : Tr} {ts : List Tok} {R} (ho : opF lvl ts = none) (h : loopF E sh n lvl d x ts = some R) : R = .ok (x, ts) := by
  cases n with
  | zero => simp [loopF] at h
  | succ n =>
    rw [loopF, ho] at h
    injection h with h
    exact h.symm
theorem loop_yes {sh E n d lvl k : Nat} {x : Tr} {ts r : List Tok} {R} (ho : opF lvl ts = some (k, r)) (h : loopF E sh n lvl d x ts = some R) :
    ∃ m, n = m + 1 ∧ ∃ R1, exprF E sh m (lvl + 1) d r = some R1 ∧ ((∃ e, R1 = .error e ∧ R = .error e) ∨ ∃ y r', R1 = .ok (y, r') ∧ loopF E sh m lvl d (.mk (parS 7 (k : Int)) [x, y]) r' = some R) := by
  cases n with
  | zero => simp [loopF] at h
  | succ m =>
    rw [loopF, ho] at h
    simp only at h
    refine ⟨m, rfl, ?_⟩
    cases hu : exprF E sh m (lvl + 1) d r with
    | none => rw [hu] at h; cases h
    | some R1 =>
      rw [hu] at h
      rcases R1 with e | ⟨y, r'⟩
      · injection h with h; exact ⟨_, rfl, .inl ⟨e, rfl, h.symm⟩⟩
      · exact ⟨_, rfl, .inr ⟨y, r', rfl, h⟩⟩
theorem wr_lvl {l : Nat} (h : l < 4) : wrap64 ((l : Int) + 1) = ((l + 1 : Nat) : Int) := by rw [IntWalk.wrap64_in _ ⟨by omega, by omega⟩]; rfl
set_option maxRecDepth 100000 in
set_option maxHeartbeats 8000000 in
theorem expr_w (sh E n : Nat) (hX : ∀ m, m ≤ n → ExprS sh E m) (hU : UnaryS sh E n) : ExprS sh E (n + 1) := by
  intro b d lvl ts R W hR hlvl h hE hb
  obtain ⟨W1, hW1, hE1, hG1, hL1, hS1⟩ := new_blk W zN 33
  have HP1 := Lib.hid (h.ext hE1)
  have HW1 := Lib.hid hW1
  have HE1 := Lib.hid hE1
  have HG1 := Lib.hid hG1
  have HSZ := Lib.hid hS1
  have HENV := Lib.hid hE
  have HLOW := Lib.hid hb
  have HB := Lib.hid h.deep.2.2
  have HU := Lib.hid hU
  have HXX := Lib.hid hX
  clear h hW1 hE1 hG1 hL1 hS1 hE hb hU hX
  unfold zN at HW1
  go_enter Tryd.func19, Tryd.ntmps19
  go_upto_region 1 with (fail)
  rw [HW1.out]
  clear HW1
  by_cases hl4 : lvl = 4
  · subst hl4
    have CU := Lib.hid (HU.out b d ts R W1 (expr_top hR) HP1.out (HENV.out.ext HE1.out) HLOW.out)
    clear hR hlvl
    go_wp2_with fail
    refine CU.out.mono ?_
    rintro e w2 (⟨x, ts', f, rfl, rfl, hRep, hP2, hX2⟩ | ⟨c, p, rfl, rfl, hX2⟩)
    case inr => exact ⟨rfl, .inr ⟨c, p, rfl, rfl, (ExtX.of_ext HE1.out).trans hX2⟩⟩
    have HRep := Lib.hid hRep
    have HP2 := Lib.hid hP2
    have HX2 := Lib.hid hX2
    have hgR : w2.heap[W.heap.size]? = some (.cells zN 33 (0, 0)) := hX2.blk HG1.out (by have := HB.out; omega)
    clear hRep hP2 hX2
    unfold zN at hgR
    unfold Fl.val
    go_wp2_with (first | ((with_reducible refine wpl_guard (isStore 33) ?_ ?_); (· rfl); refine wpl_store (t := ?_) (old := ?_) (w' := ?_) rfl 33 _ _ rfl rfl rfl ?_ ?_ ?_ ?_ ?_ ?_; rotate_left 2; (· (first | (with_reducible assumption) | (simp (disch := (first | omega | (simp only [World.size_alloc, World.size_setCell, World.size_drew, size_setRow]; done) | (simp only [World.size_alloc, World.size_setCell, World.size_drew, size_setRow]; omega))) only [hq_at, hq_past, hq_drew, hq_drewN, hq_cell, hq_row, hq_same, rowOf_cells, Option.map_some, *]; rfl) | (simp (disch := (first | omega | (simp only [World.size_alloc, World.size_setCell, World.size_drew, size_setRow]; done) | (simp only [World.size_alloc, World.size_setCell, World.size_drew, size_setRow]; omega))) only [hq_at, hq_past, hq_drew, hq_drewN, hq_cell, hq_row, hq_same, rowOf_cells, Option.map_some, *]))); (· kernel_rfl); (· rfl); (· rfl); rotate_left 1; (· (first | (simp (disch := (first | omega | (simp only [World.size_alloc, World.size_setCell, World.size_drew, size_setRow]; done) | (simp only [World.size_alloc, World.size_setCell, World.size_drew, size_setRow]; omega))) only [setRow_at, setRow_past, setRow_drew]; rfl) | rfl))))
    exact par_end rfl HB.out (Nat.le_refl _) ((ExtX.of_ext HE1.out).trans HX2.out) HP2.out hgR (HRep.out.imp' (fun k hk _ => by have := HSZ.out; omega)) rfl rfl rfl
  have hlq : ((lvl : Int) == 4) = false := by rw [beq_eq_false_iff_ne]; omega
  have hlq' : ¬ ((lvl : Int) = 4) := by omega
  have hl3 : lvl < 4 := by omega
  have hwl := wr_lvl hl3
  have HL3 := Lib.hid hl3
  have hlI : (lvl : Int) < 4 := by omega
  obtain ⟨R1, hx, hRR⟩ := expr_low hl4 hR
  have CX := Lib.hid (HXX.out n (Nat.le_refl _) b d (lvl + 1) ts R1 W1 hx hl3 HP1.out (HENV.out.ext HE1.out) HLOW.out)
  have HRR := Lib.hid hRR
  clear hl4 hR hx hRR hl3 hlvl
  rw [Int.natCast_add] at CX
  go_wp2_with fail
  refine CX.out.mono ?_
  rintro e w2 (⟨x, ts', f, rfl, rfl, hRep, hP2, hX2⟩ | ⟨c, p, rfl, rfl, hX2⟩)
  case inr =>
    rcases HRR.out with ⟨e, he, hRe⟩ | ⟨_, _, he, _⟩
    · injection he with he
      exact ⟨rfl, .inr ⟨c, p, by rw [hRe, he], rfl, (ExtX.of_ext HE1.out).trans hX2⟩⟩
    · cases he
  have hL0 : loopF E sh n lvl d x ts' = some R := by
    rcases HRR.out with ⟨e, he, -⟩ | ⟨_, _, he, h⟩
    · cases he
    · injection he with he; injection he with he1 he2; rw [he1, he2]; exact h
  have HL0 := Lib.hid hL0
  obtain ⟨W4, hW4, hE4, hG4, hL4, hS4⟩ := new_blk w2 f.cells 33
  obtain ⟨g5, hg5⟩ : ∃ g, w2.heap.size = g := ⟨_, rfl⟩
  have HG52 : Hid (W1.heap.size ≤ g5) := Lib.hid (by have := hX2.size; omega)
  have HG5 : Hid (W.heap.size < g5 ∧ b < g5) := Lib.hid (by have := hX2.size; have := HSZ.out; have := HB.out; omega)
  rw [hg5] at hG4
  have HW4 := Lib.hid hW4
  have HE4 := Lib.hid hE4
  have HG4 := Lib.hid hG4
  have HRep : Hid (Rep w2 (fun k => W.heap.size < k ∧ k ≠ g5) x f) := Lib.hid (hRep.imp' (fun k hk hlt => by have := HSZ.out; omega))
  have HP2 := Lib.hid hP2
  have HX2 := Lib.hid hX2
  clear hW4 hE4 hG4 hL4 hS4 hRep hP2 hX2 hL0
  unfold Fl.val
  go_wp2_with (first | ((with_reducible refine wpl_guard (isStore 33) ?_ ?_); (· rfl); refine wpl_store (t := ?_) (old := ?_) (w' := ?_) rfl 33 _ _ rfl rfl rfl ?_ ?_ ?_ ?_ ?_ ?_; rotate_left 2; (· (first | (with_reducible assumption) | (simp (disch := (first | omega | (simp only [World.size_alloc, World.size_setCell, World.size_drew, size_setRow]; done) | (simp only [World.size_alloc, World.size_setCell, World.size_drew, size_setRow]; omega))) only [hq_at, hq_past, hq_drew, hq_drewN, hq_cell, hq_row, hq_same, rowOf_cells, Option.map_some, *]; rfl) | (simp (disch := (first | omega | (simp only [World.size_alloc, World.size_setCell, World.size_drew, size_setRow]; done) | (simp only [World.size_alloc, World.size_setCell, World.size_drew, size_setRow]; omega))) only [hq_at, hq_past, hq_drew, hq_drewN, hq_cell, hq_row, hq_same, rowOf_cells, Option.map_some, *]))); (· kernel_rfl); (· rfl); (· rfl); rotate_left 1; (· (first | (simp (disch := (first | omega | (simp only [World.size_alloc, World.size_setCell, World.size_drew, size_setRow]; done) | (simp only [World.size_alloc, World.size_setCell, World.size_drew, size_setRow]; omega))) only [setRow_at, setRow_past, setRow_drew]; rfl) | rfl))))
  rw [HW4.out]
  simp only [Act.put]
  clear HW4
  go_loopw [6] (fun _ wr => ∃ m x' ts'' f', Hid (m ≤ n) ∧ Hid (loopF E sh m lvl d x' ts'' = some R) ∧ Hid (PAt b sh E d ts'' wr) ∧ Hid (ExtX b W1 wr) ∧ Hid (wr.heap[g5]? = some (.cells (Fl.cells f') 33 (0, 0))) ∧ Hid (Rep wr (fun k => W.heap.size < k ∧ k ≠ g5) x' f')) (fun _ wr => leftAt b wr)
  case atStart => exact ⟨n, x, ts', f, Lib.hid (Nat.le_refl _), HL0, Lib.hid (HP2.out.ext HE4.out), Lib.hid (HX2.out.trans (.of_ext HE4.out)), HG4, Lib.hid (HRep.out.ext HE4.out)⟩
  case round =>
    obtain ⟨m, x', ts'', f', HM, HLr, HPr, HXr, HGr, HRr⟩ := hrel
    have hgr := HGr.out
    have HX0r := Lib.hid ((ExtX.of_ext HE1.out).trans HXr.out)
    have CO := Lib.hid (op_any b sh E d lvl ts'' wr HPr.out HL3.out (HENV.out.extX HLOW.out HX0r.out) HLOW.out)
    clear hg5
    go_wp2_with fail
    refine CO.out.mono ?_
    rintro e w5 (⟨k, r, ho, hk1, rfl, hP5, hX5⟩ | ⟨ho, rfl, hE5⟩)
    case inr =>
      have HRE := Lib.hid (loop_no ho HLr.out)
      have hgr5 := hE5.blk hgr
      have hgR : w5.heap[W.heap.size]? = some (.cells zN 33 (0, 0)) := hE5.blk (HXr.out.blk HG1.out (by have := HB.out; omega))
      have HE5 := Lib.hid hE5
      clear ho hE5 hgr
      unfold zN at hgR
      go_wp2_with (first | ((with_reducible refine wpl_guard (isLoad 33) ?_ ?_); (· rfl); refine wpl_load (t := ?_) (cs := ?_) (fr := ?_) rfl 33 _ rfl rfl ?_ Tryd.underlying33 rfl ?_ ?_; rotate_left 3; (· (first | (with_reducible assumption) | (simp (disch := (first | omega | (simp only [World.size_alloc, World.size_setCell, World.size_drew, size_setRow]; done) | (simp only [World.size_alloc, World.size_setCell, World.size_drew, size_setRow]; omega))) only [hq_at, hq_past, hq_drew, hq_drewN, hq_cell, hq_row, hq_same, rowOf_cells, Option.map_some, *]; rfl) | (simp (disch := (first | omega | (simp only [World.size_alloc, World.size_setCell, World.size_drew, size_setRow]; done) | (simp only [World.size_alloc, World.size_setCell, World.size_drew, size_setRow]; omega))) only [hq_at, hq_past, hq_drew, hq_drewN, hq_cell, hq_row, hq_same, rowOf_cells, Option.map_some, *]))); (· kernel_rfl); (try dsimp only [Act.put, List.setIfInBounds_toArray, List.set_cons_zero, List.set_cons_succ])) | ((with_reducible refine wpl_guard (isStore 33) ?_ ?_); (· rfl); refine wpl_store (t := ?_) (old := ?_) (w' := ?_) rfl 33 _ _ rfl rfl rfl ?_ ?_ ?_ ?_ ?_ ?_; rotate_left 2; (· (first | (with_reducible assumption) | (simp (disch := (first | omega | (simp only [World.size_alloc, World.size_setCell, World.size_drew, size_setRow]; done) | (simp only [World.size_alloc, World.size_setCell, World.size_drew, size_setRow]; omega))) only [hq_at, hq_past, hq_drew, hq_drewN, hq_cell, hq_row, hq_same, rowOf_cells, Option.map_some, *]; rfl) | (simp (disch := (first | omega | (simp only [World.size_alloc, World.size_setCell, World.size_drew, size_setRow]; done) | (simp only [World.size_alloc, World.size_setCell, World.size_drew, size_setRow]; omega))) only [hq_at, hq_past, hq_drew, hq_drewN, hq_cell, hq_row, hq_same, rowOf_cells, Option.map_some, *]))); (· kernel_rfl); (· rfl); (· rfl); rotate_left 1; (· (first | (simp (disch := (first | omega | (simp only [World.size_alloc, World.size_setCell, World.size_drew, size_setRow]; done) | (simp only [World.size_alloc, World.size_setCell, World.size_drew, size_setRow]; omega))) only [setRow_at, setRow_past, setRow_drew]; rfl) | rfl))))
      exact par_end rfl HB.out (Nat.le_refl _) (HX0r.out.trans (.of_ext HE5.out)) (HPr.out.ext HE5.out) hgR ((HRr.out.ext HE5.out).imp' (fun k hk _ => ⟨by omega, by omega⟩)) HRE.out rfl rfl
    obtain ⟨m', rfl, R2, hx2, hRR2⟩ := loop_yes ho HLr.out
    have hkq : ((k : Int) == 0) = false := by rw [beq_eq_false_iff_ne]; omega
    have hkq' : ¬ ((k : Int) = 0) := by omega
    have HOL := Lib.hid (op_len ho)
    have hgr5 : w5.heap[g5]? = some (.cells f'.cells 33 (0, 0)) := hX5.blk hgr (by have := HG5.out; omega)
    have HGR5 := Lib.hid hgr5
    have HX5 := Lib.hid hX5
    have HX05 := Lib.hid (HX0r.out.trans hX5)
    have HP5 := Lib.hid hP5
    have HR5 : Hid (Rep w5 (fun k => W.heap.size < k ∧ k ≠ g5) x' f') := Lib.hid (HRr.out.keeps (hX5.keeps (by have := HB.out; omega)))
    have HRR2 := Lib.hid hRR2
    have HX2' := Lib.hid hx2
    have HLEFT := Lib.hid HPr.out.left
    clear hX5 hP5 hx2 hRR2 ho hgr hk1
    go_upto_region 7 with (fail)
    refine wp_region_held (S := fun _ => True) (by kernel_rfl) ?_
    change wpAnyH _ _ _ _ _ 8 #[false, false, false, false, false, false, false, false] _ w5.drew
    have HWL : Hid (IntKind.i64.wrap ((lvl : Int) + 1) = (lvl : Int) + 1) := Lib.hid (IntWalk.i64_in _ ⟨by omega, by have := HL3.out; omega⟩)
    refine wpAnyH_take (i := 0) (v := .int .i64 (k : Int)) rfl (by kernel_rfl) (by kernel_rfl) (by kernel_rfl) (fun c a w h => h) (.inl ⟨rfl, fun w hS => ?_⟩) trivial ?_
    · clear hS
      first | (go_simp; done) | (go_simp; rfl) | (go_simp; exact HWL.out)
    try simp only [Act.put, List.setIfInBounds_toArray, List.set_cons_zero, List.set_cons_succ]
    refine wpAnyH_take (i := 2) (v := .pointer (some ⟨b, 0, none⟩)) rfl (by kernel_rfl) (by kernel_rfl) (by kernel_rfl) (fun c a w h => h) (.inl ⟨rfl, fun w hS => ?_⟩) trivial ?_
    · clear hS
      first | (go_simp; done) | (go_simp; rfl) | (go_simp; exact HWL.out)
    try simp only [Act.put, List.setIfInBounds_toArray, List.set_cons_zero, List.set_cons_succ]
    refine wpAnyH_take (i := 3) (v := .int .i64 (lvl : Int)) rfl (by kernel_rfl) (by kernel_rfl) (by kernel_rfl) (fun c a w h => h) (.inl ⟨rfl, fun w hS => ?_⟩) trivial ?_
    · clear hS
      first | (go_simp; done) | (go_simp; rfl) | (go_simp; exact HWL.out)
    try simp only [Act.put, List.setIfInBounds_toArray, List.set_cons_zero, List.set_cons_succ]
    refine wpAnyH_take (i := 4) (v := .int .i64 ((lvl : Int) + 1)) rfl (by kernel_rfl) (by kernel_rfl) (by kernel_rfl) (fun c a w h => h) (.inl ⟨rfl, fun w hS => ?_⟩) trivial ?_
    · clear hS
      first | (go_simp; done) | (go_simp; rfl) | (go_simp; exact HWL.out)
    try simp only [Act.put, List.setIfInBounds_toArray, List.set_cons_zero, List.set_cons_succ]
    have HED := Lib.hid (ext_drew (Ext.refl w5))
    have CXX : Hid (∀ w6, Ext w5 w6 → Calls Tryd.prog 19 #[.pointer (some ⟨b, 0, none⟩), .int .i64 ((lvl : Int) + 1)] w6 (PostT b sh E d w6 R2)) := Lib.hid (fun w6 h6 => by
      have := HXX.out m' (by have := HM.out; omega) b d (lvl + 1) r R2 w6 HX2'.out (by have := HL3.out; omega) (HP5.out.ext h6) (HENV.out.extX HLOW.out (HX05.out.trans (.of_ext h6))) HLOW.out
      rwa [Int.natCast_add] at this)
    clear hgr5 hkq hkq'
    refine wpAnyH_all (rs := [1, 5]) (by kernel_rfl) (by simp) (fun i hi => ?_)
    have hi' : i = 1 ∨ i = 5 := by simpa using hi
    rcases hi' with rfl | rfl
    · skip
      refine YieldsIf.wpOp (S := fun x => x = w5.drew) (v := .agg f'.cells) rfl (.inl ⟨rfl, fun w hS => ?_⟩) rfl ?_
      · subst hS
        exact exec_load_row 33 _ rfl rfl (fr := (0, 0)) (t := 33) (show w5.drew.heap[g5]? = _ from HGR5.out) Tryd.underlying33 rfl (by kernel_rfl)
      refine ⟨trivial, ?_⟩
      try simp only [Act.put, List.setIfInBounds_toArray, List.set_cons_zero, List.set_cons_succ]
      refine wpAnyH_all (rs := [5]) (by kernel_rfl) (by simp) (fun i hi => ?_)
      obtain rfl : i = 5 := by simpa using hi
      refine wpOp_step rfl (fun K' hK' => ?_)
      rw [if_pos (by rfl)]
      go_simp
      refine (CXX.out w5.drew HED.out).mono ?_
      rintro e w7 (⟨y, r', f2, rfl, rfl, hRep2, hP7, hX7⟩ | ⟨c, p, rfl, rfl, hX7⟩)
      case inr =>
        rcases HRR2.out with ⟨e, he, hRe⟩ | ⟨_, _, he, _⟩
        · injection he with he
          exact ⟨rfl, .inr ⟨c, p, by rw [hRe, he], rfl, HX05.out.trans ((ExtX.of_ext HED.out).trans hX7)⟩⟩
        · cases he
      have hL2 : loopF E sh m' lvl d (.mk (parS 7 (k : Int)) [x', y]) r' = some R := by
        rcases HRR2.out with ⟨e, he, -⟩ | ⟨_, _, he, h⟩
        · cases he
        · injection he with he; injection he with he1 he2; rw [he1, he2]; exact h
      have HL2 := Lib.hid hL2
      have HRep2 := Lib.hid hRep2
      have HP7 := Lib.hid hP7
      have HX57 := Lib.hid ((ExtX.of_ext HED.out).trans hX7)
      have hg7 : w7.heap[g5]? = some (.cells f'.cells 33 (0, 0)) := HX57.out.blk HGR5.out (by have := HG5.out; omega)
      have HG7 := Lib.hid hg7
      have hl7 := blk_lt hg7
      have hr1 : Rep w7 (fun k => W.heap.size < k ∧ k ≠ g5) x' f' := HR5.out.keeps (HX57.out.keeps (by have := HB.out; omega))
      have hl5 := blk_lt HGR5.out
      have hr2 : Rep w7 (fun k => W.heap.size < k ∧ k ≠ g5) y f2 := hRep2.imp' (fun k hk _ => by have h5 : w5.heap.size ≤ w5.drew.heap.size := HED.out.size; have := HG5.out; omega)
      have HB3 := Lib.hid (binary_any (k : Int) f' f2 x' y (fun k => W.heap.size < k ∧ k ≠ g5) w7 hr1 hr2 (fun g hg => by have := HG5.out; omega))
      have HLEN := Lib.hid ((used E sh m').expr _ _ _ _ _ HX2'.out)
      clear hL2 hRep2 hP7 hX7 hg7 hl7 hr1 hl5 hr2
      unfold Fl.val at HB3 ⊢
      refine hK' _ _ ⟨trivial, ?_⟩
      clear hK'
      try simp only [Act.put, List.setIfInBounds_toArray, List.set_cons_zero, List.set_cons_succ]
      refine wpAnyH_all (rs := [6]) (by kernel_rfl) (by simp) (fun i hi => ?_)
      obtain rfl : i = 6 := by simpa using hi
      refine wpOp_step rfl (fun K' hK' => ?_)
      rw [if_pos (by rfl)]
      go_simp
      refine HB3.out.mono ?_
      rintro e' w8 ⟨⟨f3, rfl, hR3⟩, hE8⟩
      have HR3 := Lib.hid hR3
      have HE8 := Lib.hid hE8
      clear hR3 hE8
      refine hK' _ _ ⟨trivial, ?_⟩
      clear hK'
      try simp only [Act.put, List.setIfInBounds_toArray, List.set_cons_zero, List.set_cons_succ]
      refine wpAnyH_all (rs := [7]) (by kernel_rfl) (by simp) (fun i hi => ?_)
      obtain rfl : i = 7 := by simpa using hi
      refine wpOp_step rfl (fun K' hK' => ?_)
      rw [if_pos (by rfl)]
      refine wp_store_row 33 _ _ rfl g5 f3.cells rfl rfl 33 f'.cells (HE8.out.blk HG7.out) (by kernel_rfl) rfl (by rw [← Array.all_toList]; rfl) ?_
      refine hK' _ _ ⟨trivial, ?_⟩
      clear hK'
      refine wpAnyH_done (by kernel_rfl) ?_ _
      have HP9 : Hid (PAt b sh E d r' (w8.setRow g5 f3.cells)) := Lib.hid ((HP7.out.ext HE8.out).row HG5.out.2 _)
      have HX9 : Hid (ExtX b W1 (w8.setRow g5 f3.cells)) := Lib.hid ((((HXr.out.trans HX5.out).trans HX57.out).trans (.of_ext HE8.out)).row HG52.out _)
      go_wp2_with fail
      refine ⟨⟨_, _, _, _, _, _, _, _, _, _, _, _, _, _, ⟨m', _, r', f3, Lib.hid (by have := HM.out; omega), HL2, HP9, HX9, Lib.hid ?_, Lib.hid ?_⟩, rfl⟩, ?_⟩
      · rw [hq_same rfl, HE8.out.blk HG7.out]; rfl
      · exact HR3.out.keeps (fun k hk _ => setRow_other w8 _ k _ hk.2)
      · rw [HP9.out.left, HLEFT.out]
        have := HLEN.out
        have := HOL.out
        omega
    · skip
      refine wpOp_step rfl (fun K' hK' => ?_)
      rw [if_pos (by rfl)]
      go_simp
      refine (CXX.out w5.drew HED.out).mono ?_
      rintro e w7 (⟨y, r', f2, rfl, rfl, hRep2, hP7, hX7⟩ | ⟨c, p, rfl, rfl, hX7⟩)
      case inr =>
        rcases HRR2.out with ⟨e, he, hRe⟩ | ⟨_, _, he, _⟩
        · injection he with he
          exact ⟨rfl, .inr ⟨c, p, by rw [hRe, he], rfl, HX05.out.trans ((ExtX.of_ext HED.out).trans hX7)⟩⟩
        · cases he
      have hL2 : loopF E sh m' lvl d (.mk (parS 7 (k : Int)) [x', y]) r' = some R := by
        rcases HRR2.out with ⟨e, he, -⟩ | ⟨_, _, he, h⟩
        · cases he
        · injection he with he; injection he with he1 he2; rw [he1, he2]; exact h
      have HL2 := Lib.hid hL2
      have HRep2 := Lib.hid hRep2
      have HP7 := Lib.hid hP7
      have HX57 := Lib.hid ((ExtX.of_ext HED.out).trans hX7)
      have hg7 : w7.heap[g5]? = some (.cells f'.cells 33 (0, 0)) := HX57.out.blk HGR5.out (by have := HG5.out; omega)
      have HG7 := Lib.hid hg7
      have hl7 := blk_lt hg7
      have hr1 : Rep w7 (fun k => W.heap.size < k ∧ k ≠ g5) x' f' := HR5.out.keeps (HX57.out.keeps (by have := HB.out; omega))
      have hl5 := blk_lt HGR5.out
      have hr2 : Rep w7 (fun k => W.heap.size < k ∧ k ≠ g5) y f2 := hRep2.imp' (fun k hk _ => by have h5 : w5.heap.size ≤ w5.drew.heap.size := HED.out.size; have := HG5.out; omega)
      have HB3 := Lib.hid (binary_any (k : Int) f' f2 x' y (fun k => W.heap.size < k ∧ k ≠ g5) w7 hr1 hr2 (fun g hg => by have := HG5.out; omega))
      have HLEN := Lib.hid ((used E sh m').expr _ _ _ _ _ HX2'.out)
      clear hL2 hRep2 hP7 hX7 hg7 hl7 hr1 hl5 hr2
      unfold Fl.val at HB3 ⊢
      refine hK' _ _ ⟨trivial, ?_⟩
      clear hK'
      try simp only [Act.put, List.setIfInBounds_toArray, List.set_cons_zero, List.set_cons_succ]
      refine wpAnyH_all (rs := [1]) (by kernel_rfl) (by simp) (fun i hi => ?_)
      obtain rfl : i = 1 := by simpa using hi
      refine YieldsIf.wpOp (S := fun x => x = w7) (v := .agg f'.cells) rfl (.inl ⟨rfl, fun w hS => ?_⟩) rfl ?_
      · subst hS
        exact exec_load_row 33 _ rfl rfl (fr := (0, 0)) (t := 33) HG7.out Tryd.underlying33 rfl (by kernel_rfl)
      refine ⟨trivial, ?_⟩
      try simp only [Act.put, List.setIfInBounds_toArray, List.set_cons_zero, List.set_cons_succ]
      refine wpAnyH_all (rs := [6]) (by kernel_rfl) (by simp) (fun i hi => ?_)
      obtain rfl : i = 6 := by simpa using hi
      refine wpOp_step rfl (fun K' hK' => ?_)
      rw [if_pos (by rfl)]
      go_simp
      refine HB3.out.mono ?_
      rintro e' w8 ⟨⟨f3, rfl, hR3⟩, hE8⟩
      have HR3 := Lib.hid hR3
      have HE8 := Lib.hid hE8
      clear hR3 hE8
      refine hK' _ _ ⟨trivial, ?_⟩
      clear hK'
      try simp only [Act.put, List.setIfInBounds_toArray, List.set_cons_zero, List.set_cons_succ]
      refine wpAnyH_all (rs := [7]) (by kernel_rfl) (by simp) (fun i hi => ?_)
      obtain rfl : i = 7 := by simpa using hi
      refine wpOp_step rfl (fun K' hK' => ?_)
      rw [if_pos (by rfl)]
      refine wp_store_row 33 _ _ rfl g5 f3.cells rfl rfl 33 f'.cells (HE8.out.blk HG7.out) (by kernel_rfl) rfl (by rw [← Array.all_toList]; rfl) ?_
      refine hK' _ _ ⟨trivial, ?_⟩
      clear hK'
      refine wpAnyH_done (by kernel_rfl) ?_ _
      have HP9 : Hid (PAt b sh E d r' (w8.setRow g5 f3.cells)) := Lib.hid ((HP7.out.ext HE8.out).row HG5.out.2 _)
      have HX9 : Hid (ExtX b W1 (w8.setRow g5 f3.cells)) := Lib.hid ((((HXr.out.trans HX5.out).trans HX57.out).trans (.of_ext HE8.out)).row HG52.out _)
      go_wp2_with fail
      refine ⟨⟨_, _, _, _, _, _, _, _, _, _, _, _, _, _, ⟨m', _, r', f3, Lib.hid (by have := HM.out; omega), HL2, HP9, HX9, Lib.hid ?_, Lib.hid ?_⟩, rfl⟩, ?_⟩
      · rw [hq_same rfl, HE8.out.blk HG7.out]; rfl
      · exact HR3.out.keeps (fun k hk _ => setRow_other w8 _ k _ hk.2)
      · rw [HP9.out.left, HLEFT.out]
        have := HLEN.out
        have := HOL.out
        omega
end Go.Proofs.YtffogjhjgmohiaaDoor
