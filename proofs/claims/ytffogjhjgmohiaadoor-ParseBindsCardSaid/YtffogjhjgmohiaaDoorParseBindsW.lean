/-
  ParseBinds: walk. Conditions: the arguments' own.
-/
import Derived.Test.YtffogjhjgmohiaaDoorParT
import Derived.Test.YtffogjhjgmohiaaDoorParW
import Derived.Deep.CutBlock
import Derived.Deep.DeepCutAuto
import Derived.Deep.RegionHeld3
import Derived.Laws.Tables
namespace Go.Proofs.YtffogjhjgmohiaaDoor.parseBinds
open Go.RowKit
set_option linter.unusedVariables false
set_option linter.unusedSimpArgs false

theorem mk_app (a b : List UInt8) : mk a ++ mk b = mk (a ++ b) := by
  apply ByteArray.ext
  simp [mk]
def signV : Array Value := #[.string ⟨#[43]⟩, .string ⟨#[45]⟩, .string ⟨#[42]⟩, .string ⟨#[47]⟩, .string ⟨#[38]⟩, .string ⟨#[61]⟩, .string ⟨#[60, 62]⟩, .string ⟨#[60]⟩, .string ⟨#[60, 61]⟩, .string ⟨#[62]⟩, .string ⟨#[62, 61]⟩]
def lvlV : Array Value := #[.int .i64 2, .int .i64 2, .int .i64 3, .int .i64 3, .int .i64 1, .int .i64 0, .int .i64 0, .int .i64 0, .int .i64 0, .int .i64 0, .int .i64 0]
theorem sign_at' {k : Nat} (h : k < 11) : signV[k]? = some (.string (mk (opsLit.getD k []))) ∧ (opsLit.getD k []).length ≤ 2 := by
  have : k = 0 ∨ k = 1 ∨ k = 2 ∨ k = 3 ∨ k = 4 ∨ k = 5 ∨ k = 6 ∨ k = 7 ∨ k = 8 ∨ k = 9 ∨ k = 10 := by omega
  rcases this with rfl | rfl | rfl | rfl | rfl | rfl | rfl | rfl | rfl | rfl | rfl <;> exact ⟨rfl, by decide⟩
theorem lvl_at {k : Nat} (h : k < 11) : lvlV[k]? = some (.int .i64 (lvlNo k : Int)) := by
  have : k = 0 ∨ k = 1 ∨ k = 2 ∨ k = 3 ∨ k = 4 ∨ k = 5 ∨ k = 6 ∨ k = 7 ∨ k = 8 ∨ k = 9 ∨ k = 10 := by omega
  rcases this with rfl | rfl | rfl | rfl | rfl | rfl | rfl | rfl | rfl | rfl | rfl <;> rfl
theorem gt_k {t : Tr} (h : GT t) : t.s.k ≠ 0 := by
  cases h <;> simp [Tr.s, litS, oneS, areaS, wordT, parS]
theorem gt_kids {s : Sc} {l : List Tr} (h : GT (.mk s l)) : ∀ t ∈ l, GT t := by
  generalize hx : Tr.mk s l = x at h
  cases h with
  | lit => injection hx with _ hl; subst hl; intro t ht; cases ht
  | one => injection hx with _ hl; subst hl; intro t ht; cases ht
  | area => injection hx with _ hl; subst hl; intro t ht; cases ht
  | word => rw [wordT] at hx; injection hx with _ hl; subst hl; intro t ht; cases ht
  | neg t h => injection hx with _ hl; subst hl; intro u hu; rcases List.mem_cons.1 hu with rfl | hu; exact h; cases hu
  | pct t h => injection hx with _ hl; subst hl; intro u hu; rcases List.mem_cons.1 hu with rfl | hu; exact h; cases hu
  | bin op t u h ht hu =>
    injection hx with _ hl
    subst hl
    intro v hv
    rcases List.mem_cons.1 hv with rfl | hv
    · exact ht
    rcases List.mem_cons.1 hv with rfl | hv
    · exact hu
    · cases hv
  | call f ts h ht => injection hx with _ hl; subst hl; exact ht
/-- A node with two parts, as Parse hands it back; it alone. -/
def Two (s t u : Sc) (f : Fl) (w : World) : Prop := ∃ g o cap p0 n0 c0 p1 n1 c1, f = s.fl (some ⟨g, o, none⟩) 2 cap ∧ NodeAt w g o (t.fl p0 n0 c0) ∧ NodeAt w g (o + 17) (u.fl p1 n1 c1)
theorem Two.ext {s t u : Sc} {f : Fl} {w w' : World} (h : Two s t u f w) (hE : Ext w w') : Two s t u f w' := by
  obtain ⟨g, o, cap, p0, n0, c0, p1, n1, c1, hf, h0, h1⟩ := h
  exact ⟨g, o, cap, p0, n0, c0, p1, n1, c1, hf, h0.ext hE, h1.ext hE⟩
/-- .. a block of zeros is none of its own. -/
theorem Two.row {s t u : Sc} {f : Fl} {w : World} {z : Nat} (h : Two s t u f w) (ht : t.k ≠ 0) (hz : w.heap[z]? = some (.cells zN 33 (0, 0))) (cs : Array Value) : Two s t u f (w.setRow z cs) := by
  obtain ⟨g, o, cap, p0, n0, c0, p1, n1, c1, hf, h0, h1⟩ := h
  have hne : g ≠ z := by
    rintro rfl
    have hk := h0.k
    rw [cell_of_row w g o _ _ _ hz] at hk
    exact ht (zN_ints hk)
  refine ⟨g, o, cap, p0, n0, c0, p1, n1, c1, hf, fun j v hj => ?_, fun j v hj => ?_⟩
  · rw [← h0 j v hj]; simp only [World.cell?, setRow_other w z g cs hne]
  · rw [← h1 j v hj]; simp only [World.cell?, setRow_other w z g cs hne]
theorem two_of {s : Sc} {t u : Tr} {f : Fl} {w : World} {S : Nat → Prop} (h : Rep w S (.mk s [t, u]) f) : Two s t.s u.s f w := by
  obtain ⟨g, o, cap, f0, f1, rfl, -, h0, h1, r0, r1⟩ := h.open2
  obtain ⟨ts, tl⟩ := t
  obtain ⟨us, ul⟩ := u
  obtain ⟨p0, c0, rfl⟩ := r0.own
  obtain ⟨p1, c1, rfl⟩ := r1.own
  exact ⟨g, o, cap, p0, _, c0, p1, _, c1, rfl, h0, h1⟩
def TupV (s t u : Sc) : Value → World → Prop := fun v w => ∃ f : Fl, v = .tuple #[.agg f.cells, .int .i64 0, .int .i64 0] ∧ Two s t u f w
theorem TupV.lasts (s t u : Sc) : Lasts (TupV s t u) := fun v w w' ⟨f, hv, h⟩ hE => ⟨f, hv, h.ext hE⟩
def NodV (s t u : Sc) : Value → World → Prop := fun v w => ∃ f : Fl, v = .agg f.cells ∧ Two s t u f w
theorem NodV.lasts (s t u : Sc) : Lasts (NodV s t u) := fun v w w' ⟨f, hv, h⟩ hE => ⟨f, hv, h.ext hE⟩
theorem exec_extract {P : Program} {o : Oper} {a : Act} {w : World} (x : Operand) (i : Nat) (ho : o.op = .extract x i) {vs : Array Value} (hx : a.eval x = .tuple vs) {v : Value} (hv : vs[i]? = some v) : (execOp a.eval o).run P w = .ok (.value v) w := by
  have hv' : vs.getD i undef = v := by simp [hv]
  unfold execOp
  simp only [ho, hx]
  simp [go_sem, hv, hv']
theorem add_run (x y : ByteArray) (h : (x.size : Int) + (y.size : Int) ≤ 1000) (w : World) : Sem.run Tryd.prog (binOp .add 9 (.string x) (.string y)) w = .ok (.string (x ++ y)) w := by
  have h2 : x.size + y.size ≤ 9223372036854775807 := by omega
  simp [go_sem, h2]
  done
theorem exec_bin {P : Program} {o : Oper} {a : Act} {w : World} (t t' : TypeId) (x y : Operand) (ho : o.op = .binOp .add t x y t') {vx vy v : Value} (hx : a.eval x = vx) (hy : a.eval y = vy) (h : Sem.run P (binOp .add t vx vy) w = .ok v w) : (execOp a.eval o).run P w = .ok (.value v) w := by
  unfold execOp
  simp only [ho, hx, hy]
  simp [eqGuard, Sem.run_bind, h]
set_option maxRecDepth 100000 in
set_option maxHeartbeats 8000000 in
theorem walk (a b : Int) (W : World) (wa : (Lit.int .i64 a).wf = true) (wb : (Lit.int .i64 b).wf = true) (hE : EnvX W) :
    Calls Tryd.prog 3 #[.int .i64 a, .int .i64 b] W fun e w' => e = .returned (.bool true) ∧ Below W.heap.size W w' := by
  have HE := Lib.hid hE
  have HF := Lib.hid (fit6 W hE)
  clear hE
  obtain ⟨A, hA, hA11⟩ := cyc 11 a (by omega) (by omega)
  obtain ⟨B, hB, hB11⟩ := cyc 11 b (by omega) (by omega)
  simp only [Int.cast_ofNat_Int] at hA hB
  go_enter Tryd.func3, Tryd.ntmps3
  go_wp2_with fail
  refine HF.out.mono ?_
  rintro e w2 ⟨rfl, hX2⟩
  have HX2 := Lib.hid hX2
  clear hX2 HF
  obtain ⟨W3, hW3, hE3, hG3, hL3, hS3⟩ := new_blk w2 signV 9
  obtain ⟨W4, hW4, hE4, hG4, hL4, hS4⟩ := new_blk W3 lvlV 3
  have HW3 := Lib.hid hW3
  have HW4 := Lib.hid hW4
  have HX4 := Lib.hid (HX2.out.trans (hE3.trans hE4))
  have HA := Lib.hid hA11
  have HB := Lib.hid hB11
  have hAI : (A : Int) < 11 := by omega
  have hBI : (B : Int) < 11 := by omega
  obtain ⟨X, hX⟩ : ∃ X, mk (opsLit.getD A []) = X := ⟨_, rfl⟩
  obtain ⟨Y, hY⟩ : ∃ Y, mk (opsLit.getD B []) = Y := ⟨_, rfl⟩
  have HXX := Lib.hid hX
  have HYY := Lib.hid hY
  have hXs : (X.size : Int) ≤ 2 := by rw [← hX, mk_size]; have := (sign_at' hA11).2; omega
  have hYs : (Y.size : Int) ≤ 2 := by rw [← hY, mk_size]; have := (sign_at' hB11).2; omega
  have hg3 := hE4.blk hG3
  have kA := ext_cell (blk_lt hg3) (show W4.cell? ⟨w2.heap.size, A, none⟩ = some (.string X) by rw [cell_of_row W4 _ A _ _ _ hg3, (sign_at' hA11).1, hX])
  have kB := ext_cell (blk_lt hg3) (show W4.cell? ⟨w2.heap.size, B, none⟩ = some (.string Y) by rw [cell_of_row W4 _ B _ _ _ hg3, (sign_at' hB11).1, hY])
  have HG4 := Lib.hid hG4
  have hS : ⟨#[49]⟩ ++ X ++ ⟨#[50]⟩ ++ Y ++ ⟨#[51]⟩ = mk (bindsS A B) := by
    show mk [49] ++ X ++ mk [50] ++ Y ++ mk [51] = _
    rw [← hX, ← hY]
    simp only [mk_app]
    simp [bindsS]
  obtain ⟨s, t, u, hR, hk, hcase⟩ := binds_at hA11 hB11
  obtain ⟨hgt, -⟩ := parse_out (fun _ => 0) (fun _ => 0) ⟨fun _ _ => Nat.le_refl _, fun _ _ _ _ => Nat.le_refl _, fun _ _ => Nat.le_refl _, fun _ _ => Nat.le_refl _, fun _ _ _ _ _ _ => Nat.le_refl _, fun _ _ _ => Nat.le_refl _⟩ (by omega) hR
  have HTK := Lib.hid (gt_k (gt_kids hgt t (by simp)))
  have HK := Lib.hid hk
  have HCASE := Lib.hid hcase
  have HPS : Hid (∀ w, Ext W4 w → Calls Tryd.prog 11 #[.string (mk (bindsS A B)), .int .i64 0] w fun e w' => ∃ v, e = .returned v ∧ Ext w w' ∧ TupV s t.s u.s v w') := Lib.hid (fun w hE => by
    refine (pars_any (bindsS A B) 0 _ w hR (by decide) (HE.out.ext (HX4.out.trans hE))).mono ?_
    rintro e w' ⟨hX, ⟨t', f, hRe, rfl, hRep⟩ | ⟨c, p, hRe, -⟩⟩
    case inr => cases hRe
    injection hRe with hRe
    subst hRe
    exact ⟨_, rfl, hX, f, rfl, two_of hRep⟩)
  have j1 := fun w => add_run ⟨#[49]⟩ X (by have : (⟨#[49]⟩ : ByteArray).size = 1 := rfl; omega) w
  have j2 := fun w => add_run (⟨#[49]⟩ ++ X) ⟨#[50]⟩ (by have h1 : (⟨#[49]⟩ : ByteArray).size = 1 := rfl; have h2 : (⟨#[50]⟩ : ByteArray).size = 1 := rfl; rw [ByteArray.size_append]; omega) w
  have j3 := fun w => add_run (⟨#[49]⟩ ++ X ++ ⟨#[50]⟩) Y (by have h1 : (⟨#[49]⟩ : ByteArray).size = 1 := rfl; have h2 : (⟨#[50]⟩ : ByteArray).size = 1 := rfl; rw [ByteArray.size_append, ByteArray.size_append]; omega) w
  have j4 := fun w => add_run (⟨#[49]⟩ ++ X ++ ⟨#[50]⟩ ++ Y) ⟨#[51]⟩ (by have h1 : (⟨#[49]⟩ : ByteArray).size = 1 := rfl; have h2 : (⟨#[50]⟩ : ByteArray).size = 1 := rfl; have h3 : (⟨#[51]⟩ : ByteArray).size = 1 := rfl; rw [ByteArray.size_append, ByteArray.size_append, ByteArray.size_append]; omega) w
  rw [hS] at j4
  clear hW3 hE3 hG3 hL3 hS3 hW4 hE4 hG4 hL4 hS4 hA11 hB11 hX hY hg3 hR hk hcase hgt
  unfold signV at HW3
  unfold lvlV at HW4
  go_upto_region 4 with (fail)
  rw [HW3.out]
  go_upto_region 5 with (fail)
  rw [HW4.out]
  clear HW3 HW4
  go_upto_region 6 with (fail)
  go_cut [7, 8, 9] (fun s7 s8 s9 wx => ∃ (g7 : Nat) (fb : Fl), s7 = .pointer (some ⟨g7, 0, none⟩) ∧ s8 = .int .i64 0 ∧ s9 = .int .i64 0 ∧ Hid (Ext W4 wx) ∧ Hid (wx.heap[g7]? = some (.cells fb.cells 33 (0, 0))) ∧ Hid (Two s t.s u.s fb wx))
  case first =>
    refine wp_region_held (S := fun w => Ext W4 w) (by kernel_rfl) ?_
    change wpAnyH _ _ _ _ _ 21 #[false, false, false, false, false, false, false, false, false, false, false, false, false, false, false, false, false, false, false, false, false] _ W4.drew
    have hSd : Ext W4 W4.drew := ext_drew (Ext.refl W4)
    obtain ⟨Wd, hWd⟩ : ∃ Wd, W4.drew = Wd := ⟨_, rfl⟩
    rw [hWd] at hSd ⊢
    have HSd := Lib.hid hSd
    clear hSd hWd
    refine wpAnyH_take (i := 0) (v := ?_) rfl (by kernel_rfl) (by kernel_rfl) (by kernel_rfl) (fun c a w h => h) (.inl ⟨rfl, fun w hS => ?_⟩) ?_ ?_
    rotate_left 1
    · go_simp; try with_reducible rfl
    · exact HSd.out
    try simp only [Act.put, List.getElem_toArray, List.getElem_cons_zero, List.getElem_cons_succ, List.setIfInBounds_toArray, List.set_cons_zero, List.set_cons_succ]
    refine wpAnyH_take (i := 1) (v := ?_) rfl (by kernel_rfl) (by kernel_rfl) (by kernel_rfl) (fun c a w h => h) (.inl ⟨rfl, fun w hS => ?_⟩) ?_ ?_
    rotate_left 1
    · go_simp; try with_reducible rfl
    · exact HSd.out
    try simp only [Act.put, List.getElem_toArray, List.getElem_cons_zero, List.getElem_cons_succ, List.setIfInBounds_toArray, List.set_cons_zero, List.set_cons_succ]
    refine wpAnyH_take (i := 2) (v := ?_) rfl (by kernel_rfl) (by kernel_rfl) (by kernel_rfl) (fun c a w h => h) (.inl ⟨rfl, fun w hS => ?_⟩) ?_ ?_
    rotate_left 1
    · go_simp; try with_reducible rfl
    · exact HSd.out
    try simp only [Act.put, List.getElem_toArray, List.getElem_cons_zero, List.getElem_cons_succ, List.setIfInBounds_toArray, List.set_cons_zero, List.set_cons_succ]
    refine wpAnyH_take (i := 3) (v := ?_) rfl (by kernel_rfl) (by kernel_rfl) (by kernel_rfl) (fun c a w h => h) (.inl ⟨rfl, fun w hS => ?_⟩) ?_ ?_
    rotate_left 1
    · have hk := kA w hS; clear hS; go_simp; try with_reducible rfl
    · exact HSd.out
    try simp only [Act.put, List.getElem_toArray, List.getElem_cons_zero, List.getElem_cons_succ, List.setIfInBounds_toArray, List.set_cons_zero, List.set_cons_succ]
    refine wpAnyH_take (i := 4) (v := .string (⟨#[49]⟩ ++ X)) rfl (by kernel_rfl) (by kernel_rfl) (by kernel_rfl) (fun c a w h => h) (.inl ⟨rfl, fun w hS => ?_⟩) ?_ ?_
    · exact exec_bin _ _ _ _ rfl rfl rfl (j1 w)
    · exact HSd.out
    try simp only [Act.put, List.getElem_toArray, List.getElem_cons_zero, List.getElem_cons_succ, List.setIfInBounds_toArray, List.set_cons_zero, List.set_cons_succ]
    refine wpAnyH_take (i := 5) (v := .string (⟨#[49]⟩ ++ X ++ ⟨#[50]⟩)) rfl (by kernel_rfl) (by kernel_rfl) (by kernel_rfl) (fun c a w h => h) (.inl ⟨rfl, fun w hS => ?_⟩) ?_ ?_
    · exact exec_bin _ _ _ _ rfl rfl rfl (j2 w)
    · exact HSd.out
    try simp only [Act.put, List.getElem_toArray, List.getElem_cons_zero, List.getElem_cons_succ, List.setIfInBounds_toArray, List.set_cons_zero, List.set_cons_succ]
    refine wpAnyH_take (i := 6) (v := ?_) rfl (by kernel_rfl) (by kernel_rfl) (by kernel_rfl) (fun c a w h => h) (.inl ⟨rfl, fun w hS => ?_⟩) ?_ ?_
    rotate_left 1
    · go_simp; try with_reducible rfl
    · exact HSd.out
    try simp only [Act.put, List.getElem_toArray, List.getElem_cons_zero, List.getElem_cons_succ, List.setIfInBounds_toArray, List.set_cons_zero, List.set_cons_succ]
    refine wpAnyH_take (i := 7) (v := ?_) rfl (by kernel_rfl) (by kernel_rfl) (by kernel_rfl) (fun c a w h => h) (.inl ⟨rfl, fun w hS => ?_⟩) ?_ ?_
    rotate_left 1
    · go_simp; try with_reducible rfl
    · exact HSd.out
    try simp only [Act.put, List.getElem_toArray, List.getElem_cons_zero, List.getElem_cons_succ, List.setIfInBounds_toArray, List.set_cons_zero, List.set_cons_succ]
    refine wpAnyH_take (i := 8) (v := ?_) rfl (by kernel_rfl) (by kernel_rfl) (by kernel_rfl) (fun c a w h => h) (.inl ⟨rfl, fun w hS => ?_⟩) ?_ ?_
    rotate_left 1
    · go_simp; try with_reducible rfl
    · exact HSd.out
    try simp only [Act.put, List.getElem_toArray, List.getElem_cons_zero, List.getElem_cons_succ, List.setIfInBounds_toArray, List.set_cons_zero, List.set_cons_succ]
    refine wpAnyH_take (i := 9) (v := ?_) rfl (by kernel_rfl) (by kernel_rfl) (by kernel_rfl) (fun c a w h => h) (.inl ⟨rfl, fun w hS => ?_⟩) ?_ ?_
    rotate_left 1
    · have hk := kB w hS; clear hS; go_simp; try with_reducible rfl
    · exact HSd.out
    try simp only [Act.put, List.getElem_toArray, List.getElem_cons_zero, List.getElem_cons_succ, List.setIfInBounds_toArray, List.set_cons_zero, List.set_cons_succ]
    refine wpAnyH_take (i := 10) (v := .string (⟨#[49]⟩ ++ X ++ ⟨#[50]⟩ ++ Y)) rfl (by kernel_rfl) (by kernel_rfl) (by kernel_rfl) (fun c a w h => h) (.inl ⟨rfl, fun w hS => ?_⟩) ?_ ?_
    · exact exec_bin _ _ _ _ rfl rfl rfl (j3 w)
    · exact HSd.out
    try simp only [Act.put, List.getElem_toArray, List.getElem_cons_zero, List.getElem_cons_succ, List.setIfInBounds_toArray, List.set_cons_zero, List.set_cons_succ]
    refine wpAnyH_take (i := 11) (v := .string (mk (bindsS A B))) rfl (by kernel_rfl) (by kernel_rfl) (by kernel_rfl) (fun c a w h => h) (.inl ⟨rfl, fun w hS => ?_⟩) ?_ ?_
    · exact exec_bin _ _ _ _ rfl rfl rfl (j4 w)
    · exact HSd.out
    try simp only [Act.put, List.getElem_toArray, List.getElem_cons_zero, List.getElem_cons_succ, List.setIfInBounds_toArray, List.set_cons_zero, List.set_cons_succ]
    refine wpAnyH_all (rs := [12, 17]) (by kernel_rfl) (by simp) (fun i hi => ?_)
    have hi' : i = 12 ∨ i = 17 := by simpa using hi
    clear hi kA kB j1 j2 j3 j4 hS
    rcases hi' with rfl | rfl
    ·
      refine wpOp_step rfl (fun K' hK' => ?_)
      rw [if_pos (by rfl)]
      go_simp
      refine (HPS.out _ HSd.out).mono ?_
      rintro e' w5 ⟨v, rfl, hX5, fb, rfl, hT5⟩
      have HX5 := Lib.hid hX5
      have HT5 := Lib.hid hT5
      clear hX5 hT5
      refine hK' _ _ ⟨HSd.out.trans HX5.out, ?_⟩
      clear hK'
      try simp only [Act.put, List.getElem_toArray, List.getElem_cons_zero, List.getElem_cons_succ, List.setIfInBounds_toArray, List.set_cons_zero, List.set_cons_succ]
      refine wpAnyH_take (i := 13) (v := ?_) rfl (by kernel_rfl) (by kernel_rfl) (by kernel_rfl) (fun c a w h => h) (.inl ⟨rfl, fun w hS => ?_⟩) ?_ ?_
      rotate_left 1
      · go_simp; try with_reducible rfl
      · exact (HSd.out.trans HX5.out)
      try simp only [Act.put, List.getElem_toArray, List.getElem_cons_zero, List.getElem_cons_succ, List.setIfInBounds_toArray, List.set_cons_zero, List.set_cons_succ]
      refine wpAnyH_take (i := 14) (v := .agg fb.cells) rfl (by kernel_rfl) (by kernel_rfl) (by kernel_rfl) (fun c a w h => h) (.inl ⟨rfl, fun w hS => ?_⟩) ?_ ?_
      · exact exec_extract _ 0 rfl rfl rfl
      · exact (HSd.out.trans HX5.out)
      try simp only [Act.put, List.getElem_toArray, List.getElem_cons_zero, List.getElem_cons_succ, List.setIfInBounds_toArray, List.set_cons_zero, List.set_cons_succ]
      refine wpAnyH_take (i := 15) (v := .int .i64 0) rfl (by kernel_rfl) (by kernel_rfl) (by kernel_rfl) (fun c a w h => h) (.inl ⟨rfl, fun w hS => ?_⟩) ?_ ?_
      · exact exec_extract _ 1 rfl rfl rfl
      · exact (HSd.out.trans HX5.out)
      try simp only [Act.put, List.getElem_toArray, List.getElem_cons_zero, List.getElem_cons_succ, List.setIfInBounds_toArray, List.set_cons_zero, List.set_cons_succ]
      refine wpAnyH_take (i := 16) (v := .int .i64 0) rfl (by kernel_rfl) (by kernel_rfl) (by kernel_rfl) (fun c a w h => h) (.inl ⟨rfl, fun w hS => ?_⟩) ?_ ?_
      · exact exec_extract _ 2 rfl rfl rfl
      · exact (HSd.out.trans HX5.out)
      try simp only [Act.put, List.getElem_toArray, List.getElem_cons_zero, List.getElem_cons_succ, List.setIfInBounds_toArray, List.set_cons_zero, List.set_cons_succ]
      have HGE : Hid (W4.heap.size ≤ w5.heap.size) := Lib.hid (Below.size (HSd.out.trans HX5.out))
      refine wpAnyH_all (rs := [17]) (by kernel_rfl) (by simp) (fun i hi => ?_)
      obtain rfl : i = 17 := by simpa using hi
      refine wpOp_step rfl (fun K' hK' => ?_)
      rw [if_pos (by rfl)]
      go_simp
      obtain ⟨w6, hw6, hE6, hG6, hL6, hS6⟩ := new_blk w5 zN 33
      unfold zN at hw6
      rw [hw6]
      have HE6 := Lib.hid hE6
      have HG6 := Lib.hid hG6
      clear hw6 hE6 hG6 hL6 hS6
      refine hK' _ _ ⟨(HSd.out.trans HX5.out).trans HE6.out, ?_⟩
      clear hK'
      try simp only [Act.put, List.getElem_toArray, List.getElem_cons_zero, List.getElem_cons_succ, List.setIfInBounds_toArray, List.set_cons_zero, List.set_cons_succ]
      refine wpAnyH_all (rs := [18]) (by kernel_rfl) (by simp) (fun i hi => ?_)
      obtain rfl : i = 18 := by simpa using hi
      refine wpOp_step rfl (fun K' hK' => ?_)
      rw [if_pos (by rfl)]
      refine wp_store_row 33 _ _ rfl w5.heap.size fb.cells rfl rfl 33 zN HG6.out (by kernel_rfl) rfl (by rw [← Array.all_toList]; rfl) ?_
      obtain ⟨V1, hV1⟩ : ∃ V1, w6.setRow w5.heap.size fb.cells = V1 := ⟨_, rfl⟩
      have HV : Hid (Ext W4 V1) := Lib.hid (by rw [← hV1]; exact below_row ((HSd.out.trans HX5.out).trans HE6.out) (HGE.out))
      have HG : Hid (V1.heap[w5.heap.size]? = some (.cells fb.cells 33 (0, 0))) := Lib.hid (by rw [← hV1, hq_same rfl, HG6.out]; rfl)
      have HT : Hid (Two s t.s u.s fb V1) := Lib.hid (by rw [← hV1]; exact Two.row (HT5.out.ext HE6.out) HTK.out HG6.out fb.cells)
      rw [hV1]
      refine hK' _ _ ⟨HV.out, ?_⟩
      clear hK' hV1
      try simp only [Act.put, List.getElem_toArray, List.getElem_cons_zero, List.getElem_cons_succ, List.setIfInBounds_toArray, List.set_cons_zero, List.set_cons_succ]
      refine wpAnyH_take (i := 19) (v := ?_) rfl (by kernel_rfl) (by kernel_rfl) (by kernel_rfl) (fun c a w h => h) (.inl ⟨rfl, fun w hS => ?_⟩) ?_ ?_
      rotate_left 1
      · go_simp; try with_reducible rfl
      · exact HV.out
      try simp only [Act.put, List.getElem_toArray, List.getElem_cons_zero, List.getElem_cons_succ, List.setIfInBounds_toArray, List.set_cons_zero, List.set_cons_succ]
      refine wpAnyH_take (i := 20) (v := ?_) rfl (by kernel_rfl) (by kernel_rfl) (by kernel_rfl) (fun c a w h => h) (.inl ⟨rfl, fun w hS => ?_⟩) ?_ ?_
      rotate_left 1
      · go_simp; try with_reducible rfl
      · exact HV.out
      try simp only [Act.put, List.getElem_toArray, List.getElem_cons_zero, List.getElem_cons_succ, List.setIfInBounds_toArray, List.set_cons_zero, List.set_cons_succ]
      refine wpAnyH_done (by kernel_rfl) ?_ _
      go_wp2_with fail
      go_meet
      case rel => exact ⟨_, fb, rfl, rfl, rfl, HV, HG, HT⟩
    ·
      refine wpOp_step rfl (fun K' hK' => ?_)
      rw [if_pos (by rfl)]
      go_simp
      obtain ⟨w6, hw6, hE6, hG6, hL6, hS6⟩ := new_blk Wd zN 33
      unfold zN at hw6
      rw [hw6]
      have HE6 := Lib.hid hE6
      have HG6 := Lib.hid hG6
      clear hw6 hE6 hG6 hL6 hS6
      refine hK' _ _ ⟨HSd.out.trans HE6.out, ?_⟩
      clear hK'
      try simp only [Act.put, List.getElem_toArray, List.getElem_cons_zero, List.getElem_cons_succ, List.setIfInBounds_toArray, List.set_cons_zero, List.set_cons_succ]
      have HGE : Hid (W4.heap.size ≤ Wd.heap.size) := Lib.hid (Below.size HSd.out)
      refine wpAnyH_all (rs := [12]) (by kernel_rfl) (by simp) (fun i hi => ?_)
      obtain rfl : i = 12 := by simpa using hi
      refine wpOp_step rfl (fun K' hK' => ?_)
      rw [if_pos (by rfl)]
      go_simp
      refine (HPS.out _ (HSd.out.trans HE6.out)).mono ?_
      rintro e' w5 ⟨v, rfl, hX5, fb, rfl, hT5⟩
      have HX5 := Lib.hid hX5
      have HT5 := Lib.hid hT5
      clear hX5 hT5
      refine hK' _ _ ⟨(HSd.out.trans HE6.out).trans HX5.out, ?_⟩
      clear hK'
      try simp only [Act.put, List.getElem_toArray, List.getElem_cons_zero, List.getElem_cons_succ, List.setIfInBounds_toArray, List.set_cons_zero, List.set_cons_succ]
      refine wpAnyH_take (i := 13) (v := ?_) rfl (by kernel_rfl) (by kernel_rfl) (by kernel_rfl) (fun c a w h => h) (.inl ⟨rfl, fun w hS => ?_⟩) ?_ ?_
      rotate_left 1
      · go_simp; try with_reducible rfl
      · exact ((HSd.out.trans HE6.out).trans HX5.out)
      try simp only [Act.put, List.getElem_toArray, List.getElem_cons_zero, List.getElem_cons_succ, List.setIfInBounds_toArray, List.set_cons_zero, List.set_cons_succ]
      refine wpAnyH_take (i := 14) (v := .agg fb.cells) rfl (by kernel_rfl) (by kernel_rfl) (by kernel_rfl) (fun c a w h => h) (.inl ⟨rfl, fun w hS => ?_⟩) ?_ ?_
      · exact exec_extract _ 0 rfl rfl rfl
      · exact ((HSd.out.trans HE6.out).trans HX5.out)
      try simp only [Act.put, List.getElem_toArray, List.getElem_cons_zero, List.getElem_cons_succ, List.setIfInBounds_toArray, List.set_cons_zero, List.set_cons_succ]
      refine wpAnyH_take (i := 15) (v := .int .i64 0) rfl (by kernel_rfl) (by kernel_rfl) (by kernel_rfl) (fun c a w h => h) (.inl ⟨rfl, fun w hS => ?_⟩) ?_ ?_
      · exact exec_extract _ 1 rfl rfl rfl
      · exact ((HSd.out.trans HE6.out).trans HX5.out)
      try simp only [Act.put, List.getElem_toArray, List.getElem_cons_zero, List.getElem_cons_succ, List.setIfInBounds_toArray, List.set_cons_zero, List.set_cons_succ]
      refine wpAnyH_take (i := 16) (v := .int .i64 0) rfl (by kernel_rfl) (by kernel_rfl) (by kernel_rfl) (fun c a w h => h) (.inl ⟨rfl, fun w hS => ?_⟩) ?_ ?_
      · exact exec_extract _ 2 rfl rfl rfl
      · exact ((HSd.out.trans HE6.out).trans HX5.out)
      try simp only [Act.put, List.getElem_toArray, List.getElem_cons_zero, List.getElem_cons_succ, List.setIfInBounds_toArray, List.set_cons_zero, List.set_cons_succ]
      refine wpAnyH_all (rs := [18]) (by kernel_rfl) (by simp) (fun i hi => ?_)
      obtain rfl : i = 18 := by simpa using hi
      refine wpOp_step rfl (fun K' hK' => ?_)
      rw [if_pos (by rfl)]
      refine wp_store_row 33 _ _ rfl Wd.heap.size fb.cells rfl rfl 33 zN (HX5.out.blk HG6.out) (by kernel_rfl) rfl (by rw [← Array.all_toList]; rfl) ?_
      obtain ⟨V1, hV1⟩ : ∃ V1, w5.setRow Wd.heap.size fb.cells = V1 := ⟨_, rfl⟩
      have HV : Hid (Ext W4 V1) := Lib.hid (by rw [← hV1]; exact below_row ((HSd.out.trans HE6.out).trans HX5.out) (HGE.out))
      have HG : Hid (V1.heap[Wd.heap.size]? = some (.cells fb.cells 33 (0, 0))) := Lib.hid (by rw [← hV1, hq_same rfl, (HX5.out.blk HG6.out)]; rfl)
      have HT : Hid (Two s t.s u.s fb V1) := Lib.hid (by rw [← hV1]; exact Two.row HT5.out HTK.out (HX5.out.blk HG6.out) fb.cells)
      rw [hV1]
      refine hK' _ _ ⟨HV.out, ?_⟩
      clear hK' hV1
      try simp only [Act.put, List.getElem_toArray, List.getElem_cons_zero, List.getElem_cons_succ, List.setIfInBounds_toArray, List.set_cons_zero, List.set_cons_succ]
      refine wpAnyH_take (i := 19) (v := ?_) rfl (by kernel_rfl) (by kernel_rfl) (by kernel_rfl) (fun c a w h => h) (.inl ⟨rfl, fun w hS => ?_⟩) ?_ ?_
      rotate_left 1
      · go_simp; try with_reducible rfl
      · exact HV.out
      try simp only [Act.put, List.getElem_toArray, List.getElem_cons_zero, List.getElem_cons_succ, List.setIfInBounds_toArray, List.set_cons_zero, List.set_cons_succ]
      refine wpAnyH_take (i := 20) (v := ?_) rfl (by kernel_rfl) (by kernel_rfl) (by kernel_rfl) (fun c a w h => h) (.inl ⟨rfl, fun w hS => ?_⟩) ?_ ?_
      rotate_left 1
      · go_simp; try with_reducible rfl
      · exact HV.out
      try simp only [Act.put, List.getElem_toArray, List.getElem_cons_zero, List.getElem_cons_succ, List.setIfInBounds_toArray, List.set_cons_zero, List.set_cons_succ]
      refine wpAnyH_done (by kernel_rfl) ?_ _
      go_wp2_with fail
      go_meet
      case rel => exact ⟨_, fb, rfl, rfl, rfl, HV, HG, HT⟩
  case rest =>
    obtain ⟨g7, fb, rfl, rfl, rfl, HE1c, HG7c, HTc⟩ := hcut
    obtain ⟨g, o, cap, p0, n0, c0, p1, n1, c1, rfl, hN0, hN1⟩ := HTc.out
    have hE1 := HE1c.out
    have hG7 := HG7c.out
    have HN0 := Lib.hid hN0
    have HN1 := Lib.hid hN1
    have HG7 := Lib.hid hG7
    have HX7 := Lib.hid (HX4.out.trans hE1)
    have hg4 := hE1.blk HG4.out
    have HL4 := Lib.hid hg4
    have k0 : wc.cell? ⟨g7, 0, none⟩ = some (.int .i64 7) := by rw [cell_of_row wc g7 0 _ _ _ hG7, ← HK.out]; rfl
    have k16 : wc.cell? ⟨g7, 16, none⟩ = some (.slice (some ⟨g, o, none⟩) 2 cap) := by rw [cell_of_row wc g7 16 _ _ _ hG7]; rfl
    have lA : wc.cell? ⟨W3.heap.size, A, none⟩ = some (.int .i64 (lvlNo A : Int)) := by rw [cell_of_row wc _ A _ _ _ hg4]; exact lvl_at HA.out
    have lB : wc.cell? ⟨W3.heap.size, B, none⟩ = some (.int .i64 (lvlNo B : Int)) := by rw [cell_of_row wc _ B _ _ _ hg4]; exact lvl_at HB.out
    clear hN0 hN1 hG7 hE1 hg4 kA kB j1 j2 j3 j4 hS
    go_upto_region 9 with (fail)
    go_region
    generalize hV2 : World.drew _ = V2
    have hX2 : Ext wc V2 := by rw [← hV2]; exact ext_drew (Ext.refl wc)
    have HX2' := Lib.hid (HX7.out.trans hX2)
    have hg := hX2.blk HG7.out
    have m1 : V2.cell? ⟨g7, 1, none⟩ = some (.int .i64 s.op) := by rw [cell_of_row V2 g7 1 _ _ _ hg]; rfl
    have m16 : V2.cell? ⟨g7, 16, none⟩ = some (.slice (some ⟨g, o, none⟩) 2 cap) := by rw [cell_of_row V2 g7 16 _ _ _ hg]; rfl
    have t0 : V2.cell? ⟨g, o, none⟩ = some (.int .i64 t.s.k) := (HN0.out.ext hX2).k
    have t1 : V2.cell? ⟨g, o + 1, none⟩ = some (.int .i64 t.s.op) := (HN0.out.ext hX2).op
    have u0 : V2.cell? ⟨g, o + 17, none⟩ = some (.int .i64 u.s.k) := (HN1.out.ext hX2).k
    have u1 : V2.cell? ⟨g, o + 17 + 1, none⟩ = some (.int .i64 u.s.op) := (HN1.out.ext hX2).op
    have wA : wrap64 ((A : Int) + 1) = (A : Int) + 1 := IntWalk.wrap64_in _ ⟨by omega, by omega⟩
    have wB : wrap64 ((B : Int) + 1) = (B : Int) + 1 := IntWalk.wrap64_in _ ⟨by omega, by omega⟩
    clear hX2 hV2 hg k0 k16 lA lB
    have hcase := HCASE.out
    by_cases hlt : lvlNo A < lvlNo B
    · rw [if_pos hlt] at hcase
      obtain ⟨q1, q2, q3⟩ := hcase
      rw [q1] at m1
      rw [q2] at u1
      rw [q3] at t0
      have hltI : (lvlNo A : Int) < (lvlNo B : Int) := by omega
      clear q1 q2 q3 hlt t1 u0
      go_wp2_with fail
      go_ret
      exact ⟨rfl, HX2'.out⟩
    · rw [if_neg hlt] at hcase
      obtain ⟨q1, q2, q3⟩ := hcase
      rw [q1] at m1
      rw [q2] at t1
      rw [q3] at u0
      have hltI : (lvlNo B : Int) ≤ (lvlNo A : Int) := by omega
      clear q1 q2 q3 hlt t0 u1
      go_wp2_with fail
      go_ret
      exact ⟨rfl, HX2'.out⟩
end Go.Proofs.YtffogjhjgmohiaaDoor.parseBinds
