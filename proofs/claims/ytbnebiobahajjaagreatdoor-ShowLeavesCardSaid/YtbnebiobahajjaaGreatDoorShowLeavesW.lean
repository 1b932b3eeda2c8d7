/-
  ShowLeaves: walk. Conditions: the arguments' own.
-/
import Derived.Test.YtbnebiobahajjaaGreatDoorShK
import Derived.Test.YtbnebiobahajjaaGreatDoorArgU
import Derived.BigQuiet
namespace Go.Proofs.YtbnebiobahajjaaGreatDoor.showLeaves
open Go.RowKit
set_option linter.unusedVariables false
set_option linter.unusedSimpArgs false

/-! ### What stands in brackets, read again -/
section
variable {E sh : Nat}
theorem un5 {p : Int} {x : Tr} (hh : ∃ q l, pcs p 5 x = q :: l ∧ ¬ (q.1 = 4 ∧ q.2.1 = [45])) (h : P5 E sh p x) (n d : Nat) (ts : List Tok) (hm : mt ts = tk (pcs p 5 x)) : Res (unaryF E sh n d ts) x [] (64 < d + depT 5 x) := by
  cases n with
  | zero => exact .inl (by rw [unaryF])
  | succ n =>
    obtain ⟨q, l, hq, hno⟩ := hh
    have hi : isS [45] ts = none := by
      obtain ⟨t, r, rfl, h1, h2, -⟩ := mt_cons (hm.trans (by rw [hq]))
      by_cases h4 : t.k = 4
      · exact isS_s _ (fun e => hno ⟨by rw [← h1]; exact h4, by rw [← h2]; exact e⟩)
      · exact isS_k _ h4
    rw [unaryF, hi]
    simp only
    have h' := h n d ts [] hm (fw_nil 0).nc
    rw [List.append_nil] at h'
    rcases h' with h | ⟨y, r0, h, hp⟩ | ⟨q, h, hD⟩
    · rw [h]; exact .inl rfl
    · rw [h]; exact .inr (.inl (by simp only; rw [hp, pct_no x (fw_nil 0).pct]))
    · rw [h]; exact .inr (.inr ⟨q, rfl, hD⟩)
theorem ex4 {p : Int} {x : Tr} (ts : List Tok) (h : ∀ n d, Res (unaryF E sh n d ts) x [] (64 < d + depT 5 x)) (n d : Nat) : Res (exprF E sh n 4 d ts) x [] (64 < d + depT 5 x) := by
  cases n with
  | zero => exact .inl (by rw [exprF])
  | succ n =>
    rw [exprF, if_pos (by decide)]
    exact h n d
theorem exj {x : Tr} (ts : List Tok) {j : Nat} (hj : j < 4) (h : ∀ n d, Res (exprF E sh n (j + 1) d ts) x [] (64 < d + depT 5 x)) (n d : Nat) : Res (exprF E sh n j d ts) x [] (64 < d + depT 5 x) := by
  cases n with
  | zero => exact .inl (by rw [exprF])
  | succ n =>
    rw [exprF, if_neg (by simp; omega)]
    rcases h n d with h | h | ⟨q, h, hD⟩
    · rw [h]; exact .inl rfl
    · rw [h]
      simp only
      cases n with
      | zero => exact .inl (by rw [loopF])
      | succ m => exact .inr (.inl (by rw [loopF, (fw_nil 0).op j (Nat.zero_le _) hj]))
    · rw [h]; exact .inr (.inr ⟨q, rfl, hD⟩)
/-- A formula in brackets is read as the formula. -/
theorem read5 (hsh : sh < 3) {p : Int} (hp : p = (sh : Int) ∨ p < 0) {x : Tr} (h : GT x) (hlen : (shT p 5 x).length ≤ 200) (hd : depT 5 x ≤ 64) : parseF (shT p 5 x) sh = some (.ok x) := by
  obtain ⟨ts, hl, hm⟩ := lex_src (pcs p 5 x) ((shT p 5 x).length + 1) 0 (gt_lx p h 5 [] (fun c l e => by cases e)) (Nat.lt_succ_self _)
  have hlex : lexAll (shT p 5 x) = .ok ts := hl
  unfold parseF
  rw [if_neg (by omega), hlex]
  simp only
  have hends := (ends (shT p 5 x).length sh (12 * ts.length + 12)).expr 0 0 ts (by omega) (by omega)
  have h4 := fun n d => ex4 (p := p) ts (fun n d => un5 (head5 p h) (gt_all (E := (shT p 5 x).length) hsh hp h).1 n d ts hm) n d
  have h0 := exj ts (by decide) (fun n d => exj ts (by decide) (fun n d => exj ts (by decide) (fun n d => exj ts (by decide) h4 n d) n d) n d) (12 * ts.length + 12) 0
  rcases h0 with h1 | h1 | ⟨q, h1, hD⟩
  · exact absurd h1 hends
  · rw [h1]
  · omega
end
theorem lit_right {k n : Int} {s : ByteArray} : rightT 200 (.mk (litS k n s) []) = vr k n s := by
  cases h : vr k n s <;> simp [rightT, rightL, kidsV, litS, h]
set_option maxRecDepth 100000 in
set_option maxHeartbeats 4000000 in
theorem formula_of (p : Int) {t : Tr} (it : TextS p t) (f : Fl) (S : Nat → Prop) (W : World) (hr : Rep W S t f) (hE : EnvQ W) :
    Calls Tryz.prog 9 #[.agg f.cells, .int .i64 p] W fun e w' => e = .returned (.string (mk (shT p 0 t))) ∧ Ext W w' := by
  obtain ⟨W1, hW1, hE1, hG1, hL1, hS1⟩ := new_blk W f.cells 33
  have HW1 := Lib.hid hW1
  have HX1 := Lib.hid hE1
  have HC := Lib.hid (it 0 f S W1 (by decide) (hr.ext hE1) (hE.ext hE1))
  clear hW1 hE1 hL1 hS1 hr hE
  unfold Fl.val at HC
  go_enter Tryz.func9, Tryz.ntmps9
  go_upto_region 1 with (fail)
  rw [HW1.out]
  clear HW1
  go_wp2_with (first | ((with_reducible refine wpl_guard (isLoad 33) ?_ ?_); (· rfl); refine wpl_load (t := ?_) (cs := ?_) (fr := ?_) rfl 33 _ rfl rfl ?_ Tryz.underlying33 rfl ?_ ?_; rotate_left 3; (· (first | (with_reducible assumption) | (simp (disch := (first | omega | (simp only [World.size_alloc, World.size_setCell, World.size_drew, size_setRow]; done) | (simp only [World.size_alloc, World.size_setCell, World.size_drew, size_setRow]; omega))) only [hq_at, hq_past, hq_drew, hq_drewN, hq_cell, hq_row, hq_same, rowOf_cells, Option.map_some, *]; rfl) | (simp (disch := (first | omega | (simp only [World.size_alloc, World.size_setCell, World.size_drew, size_setRow]; done) | (simp only [World.size_alloc, World.size_setCell, World.size_drew, size_setRow]; omega))) only [hq_at, hq_past, hq_drew, hq_drewN, hq_cell, hq_row, hq_same, rowOf_cells, Option.map_some, *]))); (· kernel_rfl); (try dsimp only [Act.put, List.setIfInBounds_toArray, List.set_cons_zero, List.set_cons_succ])))
  refine HC.out.mono ?_
  rintro e w2 ⟨rfl, hX2⟩
  have HX2 := Lib.hid hX2
  clear hX2 HC hG1
  go_wp2_with fail
  go_ret
  exact ⟨rfl, HX1.out.trans HX2.out⟩
theorem exec_idx {P : Program} {o : Oper} {a : Act} {w : World} (t : TypeId) (x i : Operand) (ho : o.op = .index t x i) {vx vi v : Value} (hx : a.eval x = vx) (hi : a.eval i = vi)
    (hr : (Instr.index t vx vi).run P w = .ok v w) : (execOp a.eval o).run P w = .ok (.value v) w := by
  unfold execOp
  simp only [ho, hx, hi, Sem.run_bind, hr, Result.andThen_ok, Sem.run_pure]
theorem idx_two (c d : UInt8) (l : List UInt8) (w : World) : (Instr.index 9 (.string (mk (c :: d :: l))) (.int .i64 0)).run Tryz.prog w = .ok (.int .u8 (c.toNat : Int)) w ∧ (Instr.index 9 (.string (mk (c :: d :: l))) (.int .i64 1)).run Tryz.prog w = .ok (.int .u8 (d.toNat : Int)) w := by
  have h0 : (mk (c :: d :: l))[0]? = some c := by rw [getElem?_pos _ _ (by show 0 < (mk (c :: d :: l)).size; rw [mk_size]; simp)]; rfl
  have h1 : (mk (c :: d :: l))[1]? = some d := by rw [getElem?_pos _ _ (by show 1 < (mk (c :: d :: l)).size; rw [mk_size]; simp)]; rfl
  constructor
  · simp [Instr.index, asIntOf, run_underlying Tryz.underlying9, h0, go_sem]
  · simp [Instr.index, asIntOf, run_underlying Tryz.underlying9, h1, go_sem]
/-- A number below 0: what is shown, and what it is read as. -/
theorem neg_back {n : Int} (h0 : n < 0) (hn : -9223372036854775808 < n) : parseF (shT 0 0 (.mk (litS 1 n ⟨#[]⟩) [])) 0 = some (.ok (.mk (parS 5 0) [.mk (litS 1 (-n) ⟨#[]⟩) []])) ∧ ∃ l, shT 0 0 (.mk (litS 1 n ⟨#[]⟩) []) = 40 :: 45 :: l := by
  have hv : vr 1 n ⟨#[]⟩ = true := by unfold vr; exact decide_eq_true (.inr (.inl ⟨rfl, by omega, rfl⟩))
  have hv' : vr 1 (-n) ⟨#[]⟩ = true := by unfold vr; exact decide_eq_true (.inr (.inl ⟨rfl, by omega, rfl⟩))
  have hg : GT (.mk (parS 5 0) [.mk (litS 1 (-n) ⟨#[]⟩) []]) := .neg _ (.lit 1 (-n) ⟨#[]⟩ hv' (by omega) (by omega) (by show 0 ≤ 64; omega))
  have hs : pcs 0 0 (.mk (litS 1 n ⟨#[]⟩) []) = pcs 0 5 (.mk (parS 5 0) [.mk (litS 1 (-n) ⟨#[]⟩) []]) := by
    rw [pcs_neg, pcs_lit, pcs_lit]
    have h1 : ¬ (0 < n) := by omega
    simp [litP, h0, h1, brk]
  have hs' : shT 0 0 (.mk (litS 1 n ⟨#[]⟩) []) = shT 0 5 (.mk (parS 5 0) [.mk (litS 1 (-n) ⟨#[]⟩) []]) := by unfold shT; rw [hs]
  refine ⟨?_, ?_⟩
  · rw [hs']
    refine read5 (by decide) (.inl rfl) hg ?_ ?_
    · show (shT 0 5 (.mk (parS 5 0) [.mk (litS 1 (-n) ⟨#[]⟩) []])).length ≤ 200
      rw [← hs']
      have := lit_len hv ⟨by omega, by omega⟩
      unfold shT
      rw [pcs_lit]
      have h2 : (⟨#[]⟩ : ByteArray).data.toList = [] := rfl
      omega
    · rw [dep_neg, dep_leaf _ _ _ (by decide : (1 : Int) ≤ 4)]
      decide
  · unfold shT
    rw [pcs_lit]
    exact ⟨_, by simp [litP, h0, src, signP]; rfl⟩
theorem lit_back {k n : Int} {s : ByteArray} (h : vr k n s = true) (hn : 0 ≤ n ∧ n ≤ 9223372036854775807) (hs : s.size ≤ 64) : parseF (shT 0 0 (.mk (litS k n s) [])) 0 = some (.ok (.mk (litS k n s) [])) := by
  rcases read_back (sh := 0) (by decide) (p := 0) (.inl rfl) (GT.lit k n s h hn.1 hn.2 hs) with h1 | ⟨h1, -⟩ | ⟨h1, -⟩
  · exact h1
  · have := lit_len h ⟨by omega, hn.2⟩
    unfold shT at h1
    rw [pcs_lit] at h1
    omega
  · rw [dep_leaf _ _ _ (by decide : (1 : Int) ≤ 4)] at h1
    omega
set_option maxRecDepth 100000 in
set_option maxHeartbeats 8000000 in
theorem walk (x : Vl) (W : World) (hv : VW x) (hE : EnvX W) :
    Calls Tryz.prog 6 #[.agg #[.int .i64 x.k, .int .i64 x.n, .string x.s]] W fun e w' => e = .returned (.bool true) ∧ Below W.heap.size W w' := by
  obtain ⟨k, n, s⟩ := x
  obtain ⟨hk, hn, hsz⟩ := hv
  simp only at hk hn hsz ⊢
  obtain ⟨W1, hW1, hE1, hG1, hL1, hS1⟩ := new_blk W #[.int .i64 k, .int .i64 n, .string s] 26
  have HW1 := Lib.hid hW1
  have HX1 := Lib.hid hE1
  have HG1 := Lib.hid hG1
  have HE1 := Lib.hid (hE.ext hE1)
  have HF := Lib.hid (fit7 W1 HE1.out)
  have HK := Lib.hid hk
  have HN := Lib.hid hn
  have HSZ := Lib.hid hsz
  clear hE hW1 hE1 hG1 hL1 hS1 hk hn
  go_enter Tryz.func6, Tryz.ntmps6
  go_upto_region 1 with (fail)
  rw [HW1.out]
  clear HW1
  go_wp2_with fail
  refine HF.out.mono ?_
  rintro e w2 ⟨rfl, hX2⟩
  have HX2 := Lib.hid hX2
  have HG2 := Lib.hid (hX2.blk HG1.out)
  have hg2 := HG2.out
  have c2 : w2.cell? ⟨W.heap.size, 2, none⟩ = some (.string s) := by rw [cell_of_row w2 W.heap.size 2 _ _ _ hg2]; rfl
  clear hX2 HF
  by_cases hz : 64 < s.size
  · have hz' : (64 : Int) < (s.size : Int) := by omega
    go_wp2_with fail
    go_ret
    exact ⟨rfl, HX1.out.trans HX2.out⟩
  have hz' : (s.size : Int) ≤ 64 := by omega
  have hzd : decide ((64 : Int) < (s.size : Int)) = false := by simpa using hz'
  have HZ : Hid (s.size ≤ 64) := Lib.hid (by omega)
  clear hz hsz
  go_wp2_with (first | ((with_reducible refine wpl_guard (isLoad 26) ?_ ?_); (· rfl); refine wpl_load_want (t := ?_) (cs := ?_) (fr := ?_) (by rfl) 26 _ rfl rfl ?_ Tryz.underlying26 rfl ?_ ?_; rotate_left 3; (· (first | (with_reducible assumption) | (simp (disch := (first | omega | (simp only [World.size_alloc, World.size_setCell, World.size_drew, size_setRow]; done) | (simp only [World.size_alloc, World.size_setCell, World.size_drew, size_setRow]; omega))) only [hq_at, hq_past, hq_drew, hq_drewN, hq_cell, hq_row, hq_same, rowOf_cells, Option.map_some, *]; rfl) | (simp (disch := (first | omega | (simp only [World.size_alloc, World.size_setCell, World.size_drew, size_setRow]; done) | (simp only [World.size_alloc, World.size_setCell, World.size_drew, size_setRow]; omega))) only [hq_at, hq_past, hq_drew, hq_drewN, hq_cell, hq_row, hq_same, rowOf_cells, Option.map_some, *]))); (· kernel_rfl); (try dsimp only [Act.put, List.setIfInBounds_toArray, List.set_cons_zero, List.set_cons_succ])))
  refine (tval_any k n s w2).mono ?_
  rintro e w3 ⟨rfl, hX3⟩
  have HX3 := Lib.hid hX3
  have HE3 := Lib.hid (HE1.out.ext (HX2.out.trans hX3))
  have HRT := Lib.hid (tright_any (.mk (litS k n s) []) (litF k n s) (fun _ => True) w3 (rep_lit HN.out HSZ.out) HE3.out.1.1 HE3.out.1.2)
  rw [lit_right] at HRT
  have HG3 := Lib.hid (hX3.blk HG2.out)
  have hg3 := HG3.out
  clear hX3 hg2 c2
  unfold Fl.val at HRT ⊢
  go_wp2_with fail
  refine HRT.out.mono ?_
  rintro e w4 ⟨rfl, hX4⟩
  have HX4 := Lib.hid hX4
  have HG4 := Lib.hid (hX4.blk HG3.out)
  have hg4 := HG4.out
  clear hX4 hg3 HRT
  by_cases hvr : vr k n s = true
  case neg =>
    have hvr' : vr k n s = false := by simpa using hvr
    rw [hvr']
    clear hvr
    go_wp2_with fail
    go_ret
    exact ⟨rfl, HX1.out.trans (HX2.out.trans (HX3.out.trans HX4.out))⟩
  rw [hvr]
  have HVR := Lib.hid hvr
  clear hvr
  go_wp2_with (first | ((with_reducible refine wpl_guard (isLoad 26) ?_ ?_); (· rfl); refine wpl_load (t := ?_) (cs := ?_) (fr := ?_) rfl 26 _ rfl rfl ?_ Tryz.underlying26 rfl ?_ ?_; rotate_left 3; (· (first | (with_reducible assumption) | (simp (disch := (first | omega | (simp only [World.size_alloc, World.size_setCell, World.size_drew, size_setRow]; done) | (simp only [World.size_alloc, World.size_setCell, World.size_drew, size_setRow]; omega))) only [hq_at, hq_past, hq_drew, hq_drewN, hq_cell, hq_row, hq_same, rowOf_cells, Option.map_some, *]; rfl) | (simp (disch := (first | omega | (simp only [World.size_alloc, World.size_setCell, World.size_drew, size_setRow]; done) | (simp only [World.size_alloc, World.size_setCell, World.size_drew, size_setRow]; omega))) only [hq_at, hq_past, hq_drew, hq_drewN, hq_cell, hq_row, hq_same, rowOf_cells, Option.map_some, *]))); (· kernel_rfl); (try dsimp only [Act.put, List.setIfInBounds_toArray, List.set_cons_zero, List.set_cons_succ])))
  refine (tval_any k n s w4).mono ?_
  rintro e w5 ⟨rfl, hX5⟩
  have HX5 := Lib.hid hX5
  have HE5 := Lib.hid (HE3.out.ext (HX4.out.trans hX5))
  have HG5 := Lib.hid (hX5.blk HG4.out)
  have HFO := Lib.hid (formula_of 0 (text_lit 0 k n s HVR.out HN.out) (litF k n s) (fun _ => True) w5 (rep_lit HN.out HSZ.out) HE5.out.1)
  clear hX5 hg4
  unfold Fl.val
  go_wp2_with fail
  refine HFO.out.mono ?_
  rintro e w6 ⟨rfl, hX6⟩
  have HX6 := Lib.hid hX6
  have HE6 := Lib.hid (HE5.out.ext hX6)
  have HG6 := Lib.hid (hX6.blk HG5.out)
  clear hX6 HFO
  by_cases hneg : k = 1 ∧ n < 0
  · obtain ⟨rfl, hneg⟩ := hneg
    have hnn : -9223372036854775808 < n := by
      rcases vr_cases HVR.out with ⟨h, -⟩ | ⟨-, h, -⟩ | ⟨h, -⟩ | ⟨h, -⟩ | ⟨h, -⟩
      · omega
      · have := HN.out; omega
      all_goals omega
    obtain rfl : s = ⟨#[]⟩ := by
      rcases vr_cases HVR.out with ⟨h, -⟩ | ⟨-, -, h⟩ | ⟨h, -⟩ | ⟨h, -⟩ | ⟨h, -⟩
      · omega
      · exact bs_empty h
      all_goals omega
    obtain ⟨hR, l, hl⟩ := neg_back hneg hnn
    have HP := Lib.hid (pars_any _ 0 _ w6 hR (by decide) HE6.out)
    have hSL := lit_len HVR.out HN.out
    have hln : l.length ≤ 200 := by
      have : (shT 0 0 (.mk (litS 1 n ⟨#[]⟩) [])).length ≤ 150 := by unfold shT; rw [pcs_lit]; exact hSL
      rw [hl] at this
      simp only [List.length_cons] at this
      omega
    rw [hl] at HP ⊢
    clear hR hl hSL
    go_wp2_with fail
    refine HP.out.mono ?_
    rintro e w7 ⟨hX7, ⟨t', f', hR', rfl, hRep⟩ | ⟨c, p, hR', -⟩⟩
    case inr => cases hR'
    injection hR' with hR'
    subst hR'
    obtain ⟨g, o, cap, f0, rfl, hN0, hR0⟩ := hRep.open1
    obtain ⟨q0, cap0, rfl⟩ := hR0.own
    obtain ⟨W8, hW8, hE8, hG8, hL8, hS8⟩ := new_blk w7 ((parS 5 0).fl (some ⟨g, o, none⟩) 1 cap).cells 33
    have HW8 := Lib.hid hW8
    have HX8 := Lib.hid (hX7.trans hE8)
    have hg8 := (hX7.trans hE8).blk HG6.out
    have d0 : W8.cell? ⟨W.heap.size, 0, none⟩ = some (.int .i64 1) := by rw [cell_of_row W8 W.heap.size 0 _ _ _ hg8]; rfl
    have d1 : W8.cell? ⟨W.heap.size, 1, none⟩ = some (.int .i64 n) := by rw [cell_of_row W8 W.heap.size 1 _ _ _ hg8]; rfl
    have b0 : W8.cell? ⟨w7.heap.size, 0, none⟩ = some (.int .i64 5) := by rw [cell_of_row W8 w7.heap.size 0 _ _ _ hG8]; rfl
    have b16 : W8.cell? ⟨w7.heap.size, 16, none⟩ = some (.slice (some ⟨g, o, none⟩) 1 cap) := by rw [cell_of_row W8 w7.heap.size 16 _ _ _ hG8]; rfl
    have b3 : W8.cell? ⟨g, o + 3, none⟩ = some (.int .i64 (-n)) := (hN0.ext hE8) 3 _ rfl
    have xd1 := ext_cell (World.block_lt_of_cell? _ _ d1) d1
    have xb0 := ext_cell (World.block_lt_of_cell? _ _ b0) b0
    have xb16 := ext_cell (World.block_lt_of_cell? _ _ b16) b16
    have xb3 := ext_cell (World.block_lt_of_cell? _ _ b3) b3
    clear hX7 hRep hN0 hR0 hW8 hE8 hG8 hL8 hS8 hg8 HP
    unfold Fl.val
    go_upto_region 7 with (first | ((with_reducible refine wpl_guard (isStore 33) ?_ ?_); (· rfl); refine wpl_store (t := ?_) (old := ?_) (w' := ?_) rfl 33 _ _ rfl rfl rfl ?_ ?_ ?_ ?_ ?_ ?_; rotate_left 2; (· (first | (with_reducible assumption) | (simp (disch := (first | omega | (simp only [World.size_alloc, World.size_setCell, World.size_drew, size_setRow]; done) | (simp only [World.size_alloc, World.size_setCell, World.size_drew, size_setRow]; omega))) only [hq_at, hq_past, hq_drew, hq_drewN, hq_cell, hq_row, hq_same, rowOf_cells, Option.map_some, *]; rfl) | (simp (disch := (first | omega | (simp only [World.size_alloc, World.size_setCell, World.size_drew, size_setRow]; done) | (simp only [World.size_alloc, World.size_setCell, World.size_drew, size_setRow]; omega))) only [hq_at, hq_past, hq_drew, hq_drewN, hq_cell, hq_row, hq_same, rowOf_cells, Option.map_some, *]))); (· kernel_rfl); (· rfl); (· rfl); rotate_left 1; (· (first | (simp (disch := (first | omega | (simp only [World.size_alloc, World.size_setCell, World.size_drew, size_setRow]; done) | (simp only [World.size_alloc, World.size_setCell, World.size_drew, size_setRow]; omega))) only [setRow_at, setRow_past, setRow_drew]; rfl) | rfl))))
    rw [HW8.out]
    clear HW8
    have hn' : n < 0 := hneg
    go_upto_region 8 with (fail)
    (try simp only [Act.put, List.setIfInBounds_toArray, List.set_cons_zero, List.set_cons_succ])
    refine region_any (by kernel_rfl) (by kernel_rfl) rfl (fun K hK => ?_)
    have hw : IntKind.i64.wrap (-n) = -n := IntWalk.i64_in _ ⟨by omega, by omega⟩
    iterate 16 ((refine seqr_pure (v := ?_) (by rfl) (fun ρ => by rfl) (fun ρ w hE hF => ?_) ?_; rotate_left 1; (· ((try simp only [fill, Act.put, List.setIfInBounds_toArray, List.set_cons_zero, List.set_cons_succ]); go_simp; try with_reducible rfl)); (try simp only [Act.put, List.setIfInBounds_toArray, List.set_cons_zero, List.set_cons_succ])))
    refine seqr_pure (v := .int .i64 (-n)) (by rfl) (fun ρ => by rfl) (fun ρ w hE hF => ?_) ?_
    · (try simp only [fill, Act.put, List.setIfInBounds_toArray, List.set_cons_zero, List.set_cons_succ])
      go_simp
      try simp only [hw]
    (try simp only [Act.put, List.setIfInBounds_toArray, List.set_cons_zero, List.set_cons_succ])
    (refine seqr_pure (v := ?_) (by rfl) (fun ρ => by rfl) (fun ρ w hE hF => ?_) ?_; rotate_left 1; (· ((try simp only [fill, Act.put, List.setIfInBounds_toArray, List.set_cons_zero, List.set_cons_succ]); go_simp; try with_reducible rfl)); (try simp only [Act.put, List.setIfInBounds_toArray, List.set_cons_zero, List.set_cons_succ]))
    (refine seqr_pure (v := ?_) (by rfl) (fun ρ => by rfl) (fun ρ w hE hF => ?_) ?_; rotate_left 1; (· ((try simp only [fill, Act.put, List.setIfInBounds_toArray, List.set_cons_zero, List.set_cons_succ]); go_simp; try with_reducible rfl)); (try simp only [Act.put, List.setIfInBounds_toArray, List.set_cons_zero, List.set_cons_succ]))
    (refine seqr_pure (v := ?_) (by rfl) (fun ρ => by rfl) (fun ρ w hE hF => ?_) ?_; rotate_left 1; (· ((try simp only [fill, Act.put, List.setIfInBounds_toArray, List.set_cons_zero, List.set_cons_succ]); go_simp; try with_reducible rfl)); (try simp only [Act.put, List.setIfInBounds_toArray, List.set_cons_zero, List.set_cons_succ]))
    (refine seqr_pure (v := ?_) (by rfl) (fun ρ => by rfl) (fun ρ w hE hF => ?_) ?_; rotate_left 1; (· ((try simp only [fill, Act.put, List.setIfInBounds_toArray, List.set_cons_zero, List.set_cons_succ]); go_simp; try with_reducible rfl)); (try simp only [Act.put, List.setIfInBounds_toArray, List.set_cons_zero, List.set_cons_succ]))
    refine seqr_pure (v := .int .u8 40) (by rfl) (fun ρ => by rfl) (fun ρ w hE hF => ?_) ?_
    · (try simp only [fill, Act.put, List.setIfInBounds_toArray, List.set_cons_zero, List.set_cons_succ])
      have h := (idx_two 40 45 l w).1
      rw [show (((40 : UInt8).toNat : Nat) : Int) = 40 from rfl] at h
      exact exec_idx 9 (.tmp 56) (.const (.int .i64 0)) rfl rfl rfl h
    (try simp only [Act.put, List.setIfInBounds_toArray, List.set_cons_zero, List.set_cons_succ])
    repeat (first | (refine seqr_skip (by rfl) (fun ρ => by rfl) ?_; (try simp only [Act.put, List.setIfInBounds_toArray, List.set_cons_zero, List.set_cons_succ])) | (refine seqr_pure (v := ?_) (by rfl) (fun ρ => by rfl) (fun ρ w hE hF => ?_) ?_; rotate_left 1; (· ((try simp only [fill, Act.put, List.setIfInBounds_toArray, List.set_cons_zero, List.set_cons_succ]); go_simp; try with_reducible rfl)); (try simp only [Act.put, List.setIfInBounds_toArray, List.set_cons_zero, List.set_cons_succ])) | (refine seqr_call0 (v := ?_) (f := ?_) (args := ?_) (by rfl) (fun ρ => by rfl) (fun ρ w => ?_) (fun w hE => ?_) ?_; rotate_left 3; (· ((try simp only [fill, Act.put, List.setIfInBounds_toArray, List.set_cons_zero, List.set_cons_succ]); go_simp; constructor <;> with_reducible rfl)); (· (with_reducible exact CallE.call (by assumption) hE)); (try simp only [Act.put, List.setIfInBounds_toArray, List.set_cons_zero, List.set_cons_succ])))
    refine seqr_pure (v := .int .u8 45) (by rfl) (fun ρ => by rfl) (fun ρ w hE hF => ?_) ?_
    · (try simp only [fill, Act.put, List.setIfInBounds_toArray, List.set_cons_zero, List.set_cons_succ])
      have h := (idx_two 40 45 l w).2
      rw [show (((45 : UInt8).toNat : Nat) : Int) = 45 from rfl] at h
      exact exec_idx 9 (.tmp 61) (.const (.int .i64 1)) rfl rfl rfl h
    (try simp only [Act.put, List.setIfInBounds_toArray, List.set_cons_zero, List.set_cons_succ])
    repeat (first | (refine seqr_skip (by rfl) (fun ρ => by rfl) ?_; (try simp only [Act.put, List.setIfInBounds_toArray, List.set_cons_zero, List.set_cons_succ])) | (refine seqr_pure (v := ?_) (by rfl) (fun ρ => by rfl) (fun ρ w hE hF => ?_) ?_; rotate_left 1; (· ((try simp only [fill, Act.put, List.setIfInBounds_toArray, List.set_cons_zero, List.set_cons_succ]); go_simp; try with_reducible rfl)); (try simp only [Act.put, List.setIfInBounds_toArray, List.set_cons_zero, List.set_cons_succ])) | (refine seqr_call0 (v := ?_) (f := ?_) (args := ?_) (by rfl) (fun ρ => by rfl) (fun ρ w => ?_) (fun w hE => ?_) ?_; rotate_left 3; (· ((try simp only [fill, Act.put, List.setIfInBounds_toArray, List.set_cons_zero, List.set_cons_succ]); go_simp; constructor <;> with_reducible rfl)); (· (with_reducible exact CallE.call (by assumption) hE)); (try simp only [Act.put, List.setIfInBounds_toArray, List.set_cons_zero, List.set_cons_succ])))
    refine seqr_done (fun ρ wN hEN hFN => ?_); (try simp only [fill, Act.put, List.setIfInBounds_toArray, List.set_cons_zero, List.set_cons_succ]); refine (show K _ _ from hK.out _ _ ?_); clear hK K
    have HX9 := Lib.hid hEN
    go_wp2_with fail
    go_ret
    exact ⟨rfl, HX1.out.trans (HX2.out.trans (HX3.out.trans (HX4.out.trans (HX5.out.trans (HX6.out.trans (HX8.out.trans HX9.out))))))⟩
  · have hn0 : 0 ≤ n := by
      rcases vr_cases HVR.out with ⟨-, h, -⟩ | ⟨h, -⟩ | ⟨-, h, -⟩ | ⟨-, h, -⟩ | ⟨-, h, -⟩
      · omega
      · exact Classical.byContradiction fun h' => hneg ⟨h, by omega⟩
      all_goals omega
    have HP := Lib.hid (pars_any _ 0 _ w6 (lit_back HVR.out ⟨hn0, HN.out.2⟩ HZ.out) (by decide) HE6.out)
    obtain ⟨A, hA⟩ : ∃ A, mk (shT 0 0 (.mk (litS k n s) [])) = A := ⟨_, rfl⟩
    rw [hA] at HP ⊢
    clear hA hneg
    go_wp2_with fail
    refine HP.out.mono ?_
    rintro e w7 ⟨hX7, ⟨t', f', hR', rfl, hRep⟩ | ⟨c, p, hR', -⟩⟩
    case inr => cases hR'
    injection hR' with hR'
    subst hR'
    obtain ⟨q0, cap0, rfl⟩ := hRep.own
    obtain ⟨W8, hW8, hE8, hG8, hL8, hS8⟩ := new_blk w7 ((litS k n s).fl q0 0 cap0).cells 33
    have HW8 := Lib.hid hW8
    have HX8 := Lib.hid (hX7.trans hE8)
    have hg8 := (hX7.trans hE8).blk HG6.out
    have d0 : W8.cell? ⟨W.heap.size, 0, none⟩ = some (.int .i64 k) := by rw [cell_of_row W8 W.heap.size 0 _ _ _ hg8]; rfl
    have d1 : W8.cell? ⟨W.heap.size, 1, none⟩ = some (.int .i64 n) := by rw [cell_of_row W8 W.heap.size 1 _ _ _ hg8]; rfl
    have d2 : W8.cell? ⟨W.heap.size, 2, none⟩ = some (.string s) := by rw [cell_of_row W8 W.heap.size 2 _ _ _ hg8]; rfl
    have b0 : W8.cell? ⟨w7.heap.size, 0, none⟩ = some (.int .i64 1) := by rw [cell_of_row W8 w7.heap.size 0 _ _ _ hG8]; rfl
    have b2 : W8.cell? ⟨w7.heap.size, 2, none⟩ = some (.int .i64 k) := by rw [cell_of_row W8 w7.heap.size 2 _ _ _ hG8]; rfl
    have b3 : W8.cell? ⟨w7.heap.size, 3, none⟩ = some (.int .i64 n) := by rw [cell_of_row W8 w7.heap.size 3 _ _ _ hG8]; rfl
    have b4 : W8.cell? ⟨w7.heap.size, 4, none⟩ = some (.string s) := by rw [cell_of_row W8 w7.heap.size 4 _ _ _ hG8]; rfl
    clear hX7 hRep hW8 hE8 hG8 hL8 hS8 hg8 HP
    unfold Fl.val
    go_upto_region 7 with (first | ((with_reducible refine wpl_guard (isStore 33) ?_ ?_); (· rfl); refine wpl_store (t := ?_) (old := ?_) (w' := ?_) rfl 33 _ _ rfl rfl rfl ?_ ?_ ?_ ?_ ?_ ?_; rotate_left 2; (· (first | (with_reducible assumption) | (simp (disch := (first | omega | (simp only [World.size_alloc, World.size_setCell, World.size_drew, size_setRow]; done) | (simp only [World.size_alloc, World.size_setCell, World.size_drew, size_setRow]; omega))) only [hq_at, hq_past, hq_drew, hq_drewN, hq_cell, hq_row, hq_same, rowOf_cells, Option.map_some, *]; rfl) | (simp (disch := (first | omega | (simp only [World.size_alloc, World.size_setCell, World.size_drew, size_setRow]; done) | (simp only [World.size_alloc, World.size_setCell, World.size_drew, size_setRow]; omega))) only [hq_at, hq_past, hq_drew, hq_drewN, hq_cell, hq_row, hq_same, rowOf_cells, Option.map_some, *]))); (· kernel_rfl); (· rfl); (· rfl); rotate_left 1; (· (first | (simp (disch := (first | omega | (simp only [World.size_alloc, World.size_setCell, World.size_drew, size_setRow]; done) | (simp only [World.size_alloc, World.size_setCell, World.size_drew, size_setRow]; omega))) only [setRow_at, setRow_past, setRow_drew]; rfl) | rfl))))
    rw [HW8.out]
    clear HW8
    by_cases hk1 : k = 1
    · subst hk1
      go_wp2_with fail
      go_ret
      exact ⟨rfl, HX1.out.trans (HX2.out.trans (HX3.out.trans (HX4.out.trans (HX5.out.trans (HX6.out.trans HX8.out)))))⟩
    · go_wp2_with fail
      go_ret
      exact ⟨rfl, HX1.out.trans (HX2.out.trans (HX3.out.trans (HX4.out.trans (HX5.out.trans (HX6.out.trans HX8.out)))))⟩
end Go.Proofs.YtbnebiobahajjaaGreatDoor.showLeaves
