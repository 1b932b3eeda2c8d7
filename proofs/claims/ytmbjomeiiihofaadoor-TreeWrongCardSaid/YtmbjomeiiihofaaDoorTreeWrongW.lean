/-
  TreeWrong: walk. Conditions: the arguments' own.
-/
import Derived.Test.YtmbjomeiiihofaaDoorTreeV
namespace Go.Proofs.YtmbjomeiiihofaaDoor.treeWrong
open Go.RowKit
set_option linter.unusedVariables false
set_option linter.unusedSimpArgs false

theorem name_A1 : isNameV [65, 49] = false := by
  unfold isNameV
  rw [isRef_true (t := 0) ⟨0, 0, 0, false, false, ⟨by omega, by omega, by omega⟩, .inr ⟨rfl, by decide⟩⟩]
  simp
theorem exec_build {P : Program} {o : Oper} {a : Act} {w : World} (t : TypeId) (parts : Array (Nat × Operand)) (ho : o.op = .build t parts) {l : List (Nat × Value)} (hl : parts.toList.map (fun x => (x.1, a.eval x.2)) = l)
    {cs : Array Value} (hb : P.built t l = some cs) : (execOp a.eval o).run P w = .ok (.value (.agg cs)) w := by
  have hv : (parts.map fun (i, x) => (i, a.eval x)) = l.toArray := by
    rw [← hl]
    apply Array.ext'
    simp
  have hr := run_build (P := P) w t l.toArray cs (by simpa using hb)
  unfold execOp
  simp only [ho, hv, Sem.run_bind, hr, Result.andThen_ok, Sem.run_pure]
theorem exec_index {P : Program} {o : Oper} {a : Act} {w : World} (t : TypeId) (x i : Operand) (ho : o.op = .indexAddr t x i) {vx vi v : Value} (hx : a.eval x = vx) (hi : a.eval i = vi)
    (hr : (Instr.indexAt t vx vi).run P w = .ok v w) : (execOp a.eval o).run P w = .ok (.value v) w := by
  unfold execOp
  simp only [ho, hx, hi, Sem.run_bind, hr, Result.andThen_ok, Sem.run_pure]
theorem at_node (g : Nat) (k : Nat) (hk : k < 10) (w : World) : (Instr.indexAt 36 (.slice (some ⟨g, 0, none⟩) 10 10) (.int .i64 (k : Int))).run Tryd.prog w = .ok (.pointer (some ⟨g, 0 + k * 17, none⟩)) w := by
  rw [run_indexAt_slice (P := Tryd.prog) w 36 ⟨g, 0, none⟩ 10 10 .i64 (k : Int) (by kernel_rfl), if_pos ⟨by omega, by omega⟩]
  have hz : (sizeOf (Tryd.prog.elem 36)).run Tryd.prog w = .ok 17 w := by kernel_rfl
  have hadd : (⟨g, 0, none⟩ : Addr).add (k * 17) = ⟨g, 0 + k * 17, none⟩ := by unfold Addr.add; split <;> simp_all
  rw [hz]
  simp only [Result.andThen_ok, Int.toNat_natCast, hadd]
theorem tm10 (a : Int) : -9 ≤ a.tmod 10 ∧ a.tmod 10 ≤ 9 := by
  by_cases h : 0 ≤ a
  · rw [Int.tmod_eq_emod_of_nonneg h]; omega
  · obtain ⟨b, rfl⟩ : ∃ b, a = -b := ⟨-a, by omega⟩
    rw [Int.neg_tmod, Int.tmod_eq_emod_of_nonneg (by omega)]; omega
theorem tm10b {m : Int} (h : -9 ≤ m) : 0 ≤ (m + 10).tmod 10 ∧ (m + 10).tmod 10 < 10 := by
  rw [Int.tmod_eq_emod_of_nonneg (by omega)]; omega
theorem bs10 (f0 f1 f2 f3 f4 f5 f6 f7 f8 f9 : Fl) (w : World) : (Instr.buildSlice 36 10 [(0, Value.agg f0.cells), (1, Value.agg f1.cells), (2, Value.agg f2.cells), (3, Value.agg f3.cells), (4, Value.agg f4.cells), (5, Value.agg f5.cells), (6, Value.agg f6.cells), (7, Value.agg f7.cells), (8, Value.agg f8.cells), (9, Value.agg f9.cells)].toArray).run Tryd.prog w = .ok (.slice (some ⟨w.heap.size, 0, none⟩) 10 10) (w.alloc (.cells (fcells [f0, f1, f2, f3, f4, f5, f6, f7, f8, f9] ++ []).toArray 38)) := by kernel_rfl
/-- A slice of one node. -/
def OneV (f : Fl) : Value → World → Prop := fun v w => ∃ g, v = .slice (some ⟨g, 0, none⟩) 1 1 ∧ w.heap[g]? = some (.cells f.cells 38 (0, 0))
theorem OneV.lasts (f : Fl) : Lasts (OneV f) := fun v w w' ⟨g, hv, h⟩ hE => ⟨g, hv, hE.blk h⟩
/-- The new variable's cells; blocks that are not its own. -/
def Z17 : Array Value := #[.int .i64 0, .int .i64 0, .int .i64 0, .int .i64 0, .string ⟨#[]⟩, .int .i64 0, .int .i64 0, .int .i64 0, .bool false, .bool false, .int .i64 0, .int .i64 0, .int .i64 0, .bool false, .bool false, .string ⟨#[]⟩, .slice none 0 0]
def ApZ (B : Nat) (w : World) (g : Nat) : Prop := g < B ∨ ∃ cs t fr, w.heap[g]? = some (.cells cs t fr) ∧ cs ≠ Z17
theorem ApZ.ext {B : Nat} {w w' : World} {g : Nat} (h : ApZ B w g) (hE : Ext w w') : ApZ B w' g := h.imp_right fun ⟨cs, t, fr, hg, hn⟩ => ⟨cs, t, fr, hE.blk hg, hn⟩
theorem ApZ.ne {B : Nat} {w : World} {g g' : Nat} {t : TypeId} {fr : Nat × Nat} (h : ApZ B w g) (hB : B ≤ g') (hz : w.heap[g']? = some (.cells Z17 t fr)) : g ≠ g' := by
  rintro rfl
  rcases h with h | ⟨cs, t', fr', hg, hn⟩
  · omega
  · rw [hz] at hg
    exact hn (Obj.cells.inj (Option.some.inj hg)).1.symm
theorem ne_pair (f f' : Fl) : f.cells ++ f'.cells ≠ Z17 := fun h => by
  have e := congrArg Array.size h
  rw [Array.size_append, fl_size, fl_size] at e
  cases e
theorem ne_one {f : Fl} (h : f.k ≠ 0) : f.cells ≠ Z17 := fun e => by
  have e0 : f.cells[0]? = Z17[0]? := by rw [e]
  have e1 : Value.int .i64 f.k = .int .i64 0 := Option.some.inj e0
  injection e1 with _ e2
  exact h e2
/-- A tree's node, in blocks that are not the new variable's. -/
def TreeZ (B : Nat) (t : Tr) : Value → World → Prop := fun v w => ∃ f : Fl, v = .agg f.cells ∧ Rep w (ApZ B w) t f
theorem Rep.apz {B : Nat} {w w' : World} {t : Tr} {f : Fl} (h : Rep w (ApZ B w) t f) (hE : Ext w w') : Rep w' (ApZ B w') t f := (h.ext hE).imp' fun g hg _ => ApZ.ext hg hE
theorem TreeZ.lasts (B : Nat) (t : Tr) : Lasts (TreeZ B t) := fun v w w' ⟨f, hv, h⟩ hE => ⟨f, hv, Rep.apz h hE⟩
/-- A slice of ten trees' nodes; where one lies. -/
def TenV (B : Nat) (ts : List Tr) : Value → World → Prop := fun v w => ∃ g l, v = .slice (some ⟨g, 0, none⟩) 10 10 ∧ Part w g 10 l ∧ ∀ (i : Nat) t, ts[i]? = some t → ∃ f, l[i]? = some f ∧ Rep w (ApZ B w) t f
theorem TenV.lasts (B : Nat) (ts : List Tr) : Lasts (TenV B ts) := fun v w w' ⟨g, l, hv, h, hr⟩ hE => ⟨g, l, hv, h.ext hE, fun i t ht => let ⟨f, h1, h2⟩ := hr i t ht; ⟨f, h1, Rep.apz h2 hE⟩⟩
def AtV (B : Nat) (t : Tr) : Value → World → Prop := fun v w => ∃ g o f, v = .pointer (some ⟨g, o, none⟩) ∧ NodeAt w g o f ∧ Rep w (ApZ B w) t f
theorem AtV.lasts (B : Nat) (t : Tr) : Lasts (AtV B t) := fun v w w' ⟨g, o, f, hv, h, hr⟩ hE => ⟨g, o, f, hv, h.keeps (S := fun _ => True) trivial (.of_ext hE), Rep.apz hr hE⟩
theorem TreeZ.of_pair {B : Nat} {s : Sc} {t t' : Tr} {f f' : Fl} {v : Value} {w : World} {u : Value} (ho : s.ok) (h : PairV f f' v w) (hr : Rep w (ApZ B w) t f) (hr' : Rep w (ApZ B w) t' f') (hu : ∀ p n c, v = .slice p n c → u = .agg (s.fl p n c).cells) : TreeZ B (.mk s [t, t']) u w := by
  obtain ⟨g, rfl, hg⟩ := h
  exact ⟨_, hu _ _ _ rfl, rep2 ho (.inr ⟨_, _, _, hg, ne_pair f f'⟩) hg hr hr'⟩
theorem TreeZ.of_one {B : Nat} {s : Sc} {t : Tr} {f : Fl} {v : Value} {w : World} {u : Value} (ho : s.ok) (hk : f.k ≠ 0) (h : OneV f v w) (hr : Rep w (ApZ B w) t f) (hu : ∀ p n c, v = .slice p n c → u = .agg (s.fl p n c).cells) : TreeZ B (.mk s [t]) u w := by
  obtain ⟨g, rfl, hg⟩ := h
  exact ⟨_, hu _ _ _ rfl, rep1 ho (.inr ⟨_, _, _, hg, ne_one hk⟩) hg hr⟩
theorem PairV.sl {f f' : Fl} {v : Value} {w : World} (h : PairV f f' v w) : ∃ p, v = .slice p 2 2 := let ⟨g, hv, _⟩ := h; ⟨_, hv⟩
theorem OneV.sl {f : Fl} {v : Value} {w : World} (h : OneV f v w) : ∃ p, v = .slice p 1 1 := let ⟨g, hv, _⟩ := h; ⟨_, hv⟩
/-- The cell that is none; the name that is none. -/
def r26 : Rf := ⟨0, 26, 0, false, false⟩
def wordS : Sc := ⟨4, 0, 0, 0, ⟨#[]⟩, rf0, rf0, ⟨#[65, 49]⟩⟩
theorem wordS_ok : wordS.ok := ⟨⟨by simp [wordS], by simp [wordS]⟩, by show 0 ≤ _; omega, by show 2 ≤ _; omega⟩
/-- The trees that are none. -/
def bads (n : Tr) : List Tr := [.mk (parS 0 0) [], .mk (parS 9 0) [], .mk (parS 5 0) [], .mk (parS 7 12) [n, n], .mk (parS 8 1) [n], .mk (litS 9 0 ⟨#[]⟩) [], .mk (oneS r26) [], .mk (areaS rf0 r26) [], .mk wordS [], .mk (parS 1 0) [n]]
theorem ten_reps {B : Nat} {w w' : World} (hE : Ext w w') {n : Tr} {u3 u4 u9 : Fl} (r3 : Rep w (ApZ B w) (.mk (parS 7 12) [n, n]) u3) (r4 : Rep w (ApZ B w) (.mk (parS 8 1) [n]) u4) (r9 : Rep w (ApZ B w) (.mk (parS 1 0) [n]) u9) :
    ∀ (i : Nat) t, (bads n)[i]? = some t → ∃ f, [(parS 0 0).fl none 0 0, (parS 9 0).fl none 0 0, (parS 5 0).fl none 0 0, u3, u4, (litS 9 0 ⟨#[]⟩).fl none 0 0, oneF r26, areaF rf0 r26, wordS.fl none 0 0, u9][i]? = some f ∧ Rep w' (ApZ B w') t f := by
  intro i t ht
  match i, ht with
  | 0, ht => cases ht; exact ⟨_, rfl, Rep.leaf _ _ _ (parS_ok _ _) none 0⟩
  | 1, ht => cases ht; exact ⟨_, rfl, Rep.leaf _ _ _ (parS_ok _ _) none 0⟩
  | 2, ht => cases ht; exact ⟨_, rfl, Rep.leaf _ _ _ (parS_ok _ _) none 0⟩
  | 3, ht => cases ht; exact ⟨_, rfl, Rep.apz r3 hE⟩
  | 4, ht => cases ht; exact ⟨_, rfl, Rep.apz r4 hE⟩
  | 5, ht => cases ht; exact ⟨_, rfl, Rep.leaf _ _ _ (litS_ok ⟨by omega, by omega⟩ (by show 0 ≤ _; omega)) none 0⟩
  | 6, ht => cases ht; exact ⟨_, rfl, rep_one _ _ _⟩
  | 7, ht => cases ht; exact ⟨_, rfl, rep_area _ _ _ _⟩
  | 8, ht => cases ht; exact ⟨_, rfl, Rep.leaf _ _ _ wordS_ok none 0⟩
  | 9, ht => cases ht; exact ⟨_, rfl, Rep.apz r9 hE⟩
  | i + 10, ht => simp [bads] at ht
theorem ft_kind {d : Nat} {t : Tr} {f : Fl} {W : World} {S : Nat → Prop} (h : FT d t) (hr : Rep W S t f) : f.k ≠ 0 := by
  have hk : f.k = t.s.k := by cases hr; rfl
  rw [hk]
  cases h with
  | lit => simp [Tr.s, litS]
  | one => simp [Tr.s, oneS]
  | area => simp [Tr.s, areaS]
  | un d k t h _ => rcases h with rfl | rfl <;> simp [Tr.s, parS]
  | bin => simp [Tr.s, parS]
  | call => simp [Tr.s, parS]
theorem bads_none (n : Tr) : ∀ s ∈ bads n, kidsV s.s s.l.length = false := by
  intro s hs
  simp only [bads, List.mem_cons, List.not_mem_nil, or_false] at hs
  rcases hs with rfl | rfl | rfl | rfl | rfl | rfl | rfl | rfl | rfl | rfl
  · simp [kidsV, parS, Tr.s, Tr.l]
  · simp [kidsV, parS, Tr.s, Tr.l]
  · simp [kidsV, parS, Tr.s, Tr.l]
  · simp [kidsV, parS, Tr.s, Tr.l]
  · simp [kidsV, parS, Tr.s, Tr.l]; decide
  · simp [kidsV, litS, Tr.s, Tr.l, vr]
  · simp [kidsV, oneS, Tr.s, Tr.l, r26, insV]
  · simp [kidsV, areaS, Tr.s, Tr.l, r26, insV]
  · simp [kidsV, wordS, Tr.s, Tr.l, name_A1]
  · simp [kidsV, parS, Tr.s, Tr.l]
theorem bad_right {t : Tr} (h : kidsV t.s t.l.length = false) (d : Nat) : rightT d t = false := by
  obtain ⟨s, l⟩ := t
  cases d with
  | zero => simp [rightT]
  | succ d => simp only [Tr.s, Tr.l] at h; simp [rightT, h]
theorem bad_neg {t : Tr} (h : kidsV t.s t.l.length = false) (k : Int) : rightT 200 (.mk (parS k 0) [t]) = false := by
  simp [rightT, rightL, bad_right h]
theorem bad_same (t : Tr) (k : Int) : sameT t (.mk (parS k 0) [t]) = false := by
  rw [Bool.eq_false_iff]
  intro h
  have e := congrArg sizeT ((sameT_iff _ _).1 h)
  simp only [sizeT, sizeL] at e
  omega
theorem ft_pct {t : Tr} (h : FT 4 t) : rightT 200 (.mk (parS 6 0) [t]) = true := ft_right (FT.un 4 6 t (.inr rfl) h) 200 (by decide)
set_option maxRecDepth 100000 in
set_option maxHeartbeats 8000000 in
theorem walk0 (a : Option Addr) (len cap : Nat) (which : Int) (W : World) (hS : SeedIn W a len cap) (hwh : -9223372036854775808 ≤ which ∧ which ≤ 9223372036854775807) (hE : EnvQ W) :
    Calls Tryd.prog 4 #[.slice a len cap, .int .i64 which] W fun e w' => e = .returned (.bool true) ∧ Ext W w' := by
  obtain ⟨W1, hW1, hE1, hG1, hL1, hS1⟩ := new_blk W #[.slice a len cap] 29
  have HW1 := Lib.hid hW1
  have HE1 := Lib.hid hE1
  have HG1 := Lib.hid hG1
  have HS := Lib.hid hS
  have HQ1 := Lib.hid (hE.ext hE1)
  have HLow := Lib.hid hE.low
  obtain ⟨m, hm⟩ : ∃ m, which.tmod 10 = m := ⟨_, rfl⟩
  have hm1 : -9 ≤ m ∧ m ≤ 9 := by rw [← hm]; exact tm10 which
  have hmk := tm10b hm1.1
  obtain ⟨k, hk⟩ : ∃ k : Nat, (m + 10).tmod 10 = (k : Int) := ⟨((m + 10).tmod 10).toNat, by omega⟩
  have HK10 : Hid (k < 10) := Lib.hid (by omega)
  have hwm : IntKind.i64.wrap (m + 10) = m + 10 := IntWalk.i64_in _ ⟨by omega, by omega⟩
  have HM := Lib.hid hm
  have HMK := Lib.hid hk
  have HWM := Lib.hid hwm
  clear hW1 hE1 hG1 hL1 hS1 hS hE hm hm1 hk hwm hwh hmk
  go_enter Tryd.func4, Tryd.ntmps4
  go_upto_region 1 with (fail)
  rw [HW1.out]
  clear HW1
  go_wp2_with fail
  refine (fit5 W1 HQ1.out).mono ?_
  rintro e w2 ⟨rfl, hE2⟩
  have HE2 := Lib.hid hE2
  have HG2 := Lib.hid (hE2.blk HG1.out)
  have c2 : w2.cell? ⟨W.heap.size, 0, none⟩ = some (.slice a len cap) := by rw [cell_of_row w2 W.heap.size 0 _ _ _ HG2.out]; rfl
  clear hE2
  by_cases hz : 100 < len
  · have hz' : (100 : Int) < (len : Int) := by omega
    go_wp2_with fail
    go_ret
    exact ⟨rfl, HE1.out.trans HE2.out⟩
  have hz' : (len : Int) ≤ 100 := by omega
  have HSA : Hid (SeedAt W.heap.size w2) := Lib.hid (HS.out.at_ (HE1.out.trans HE2.out) (Nat.le_refl _) (by omega) HG2.out)
  clear hz
  go_wp2_with fail
  refine (show Calls Tryd.prog _ #[.pointer (some ⟨W.heap.size, 0, none⟩), .int .i64 4] w2 _ from formula 4 (by decide) W.heap.size w2 HSA.out (HQ1.out.ext HE2.out) HLow.out (blk_lt HG2.out)).mono ?_
  rintro e w3 ⟨⟨f, t, rfl, hR3, hF3⟩, hX3, hS3⟩
  have HF3 := Lib.hid hF3
  have HX3 : Hid (Ext W w3) := Lib.hid (hX3.ext (HE1.out.trans HE2.out) (Nat.le_refl _))
  have HQ3 : Hid (EnvQ w3) := Lib.hid ((HQ1.out.ext HE2.out).extX HLow.out hX3)
  obtain ⟨W5, hW5, hE5, hG5, hL5, hS5⟩ := new_blk w3 f.cells 38
  obtain ⟨W6, hW6, hE6, hG6, hL6, hS6⟩ := new_blk W5 #[.int .i64 0, .int .i64 26, .int .i64 0, .bool false, .bool false] 35
  have HW5 := Lib.hid hW5
  have HW6 := Lib.hid hW6
  have HE6 := Lib.hid (hE5.trans hE6)
  have HGN := Lib.hid (hE6.blk hG5)
  have HGR := Lib.hid hG6
  have HT := Lib.hid (show Rep W6 (ApZ W6.heap.size W6) t f from (hR3.ext (hE5.trans hE6)).imp' (fun _ _ h => .inl h))
  have HKN := Lib.hid (ft_kind hF3 hR3)
  have HQ6 := Lib.hid (HQ3.out.ext (hE5.trans hE6))
  clear hX3 hS3 c2 hR3 hF3 hW5 hE5 hG5 hL5 hS5 hW6 hE6 hG6 hL6 hS6
  unfold Fl.val
  go_upto_region 6 with (first | ((with_reducible refine wpl_guard (isStore 38) ?_ ?_); (· rfl); refine wpl_store (t := ?_) (old := ?_) (w' := ?_) rfl 38 _ _ rfl rfl rfl ?_ ?_ ?_ ?_ ?_ ?_; rotate_left 2; (· (first | (with_reducible assumption) | (simp (disch := (first | omega | (simp only [World.size_alloc, World.size_setCell, World.size_drew, size_setRow]; done) | (simp only [World.size_alloc, World.size_setCell, World.size_drew, size_setRow]; omega))) only [hq_at, hq_past, hq_drew, hq_drewN, hq_cell, hq_row, hq_same, rowOf_cells, Option.map_some, *]; rfl) | (simp (disch := (first | omega | (simp only [World.size_alloc, World.size_setCell, World.size_drew, size_setRow]; done) | (simp only [World.size_alloc, World.size_setCell, World.size_drew, size_setRow]; omega))) only [hq_at, hq_past, hq_drew, hq_drewN, hq_cell, hq_row, hq_same, rowOf_cells, Option.map_some, *]))); (· kernel_rfl); (· rfl); (· rfl); rotate_left 1; (· (first | (simp (disch := (first | omega | (simp only [World.size_alloc, World.size_setCell, World.size_drew, size_setRow]; done) | (simp only [World.size_alloc, World.size_setCell, World.size_drew, size_setRow]; omega))) only [setRow_at, setRow_past, setRow_drew]; rfl) | rfl))))
  rw [HW5.out]
  go_upto_region 8 with fail
  rw [HW6.out]
  clear HW5 HW6
  (try simp only [Act.put, List.setIfInBounds_toArray, List.set_cons_zero, List.set_cons_succ])
  have e30 : CallE Tryd.prog W6 14 #[.agg #[.int .i64 0, .int .i64 26, .int .i64 0, .bool false, .bool false]] (.agg (oneF r26).cells) := fun w hE => tcell_any r26 w
  have e33 : CallE Tryd.prog W6 15 #[.agg #[.int .i64 0, .int .i64 0, .int .i64 0, .bool false, .bool false], .agg #[.int .i64 0, .int .i64 26, .int .i64 0, .bool false, .bool false]] (.agg (areaF rf0 r26).cells) := fun w hE => tspan_any rf0 r26 w
  refine region_own [7] (by intro d hd; simp only [List.mem_cons, List.not_mem_nil, or_false] at hd; rcases hd with rfl <;> rfl) (by kernel_rfl) (by kernel_rfl) rfl (fun K hK => ?_)
  refine seqr_pure (v := .agg ((parS 0 0).fl none 0 0).cells) (by rfl) (fun ρ => by rfl) (fun ρ w hE hF => ?_) ?_
  · (try simp only [fill, Act.put, List.setIfInBounds_toArray, List.set_cons_zero, List.set_cons_succ])
    exact exec_build 38 _ rfl rfl (by kernel_rfl)
  (try simp only [Act.put, List.setIfInBounds_toArray, List.set_cons_zero, List.set_cons_succ])
  refine seqr_pure (v := .agg ((parS 9 0).fl none 0 0).cells) (by rfl) (fun ρ => by rfl) (fun ρ w hE hF => ?_) ?_
  · (try simp only [fill, Act.put, List.setIfInBounds_toArray, List.set_cons_zero, List.set_cons_succ])
    exact exec_build 38 _ rfl rfl (by kernel_rfl)
  (try simp only [Act.put, List.setIfInBounds_toArray, List.set_cons_zero, List.set_cons_succ])
  refine seqr_pure (v := .agg ((parS 5 0).fl none 0 0).cells) (by rfl) (fun ρ => by rfl) (fun ρ w hE hF => ?_) ?_
  · (try simp only [fill, Act.put, List.setIfInBounds_toArray, List.set_cons_zero, List.set_cons_succ])
    exact exec_build 38 _ rfl rfl (by kernel_rfl)
  (try simp only [Act.put, List.setIfInBounds_toArray, List.set_cons_zero, List.set_cons_succ])
  refine seqr_pure (v := .agg f.cells) (by rfl) (fun ρ => by rfl) (fun ρ w hE hF => ?_) ?_
  · (try simp only [fill, Act.put, List.setIfInBounds_toArray, List.set_cons_zero, List.set_cons_succ])
    exact exec_load_row 38 _ rfl rfl (hE.blk HGN.out) Tryd.underlying38 rfl (by kernel_rfl)
  (try simp only [Act.put, List.setIfInBounds_toArray, List.set_cons_zero, List.set_cons_succ])
  refine seqr_pure (v := .agg f.cells) (by rfl) (fun ρ => by rfl) (fun ρ w hE hF => ?_) ?_
  · (try simp only [fill, Act.put, List.setIfInBounds_toArray, List.set_cons_zero, List.set_cons_succ])
    exact exec_load_row 38 _ rfl rfl (hE.blk HGN.out) Tryd.underlying38 rfl (by kernel_rfl)
  (try simp only [Act.put, List.setIfInBounds_toArray, List.set_cons_zero, List.set_cons_succ])
  refine seqr_rel (PairV f f) (PairV.lasts _ _) rfl (by rfl) (fun ρ => by rfl) (fun ρ w hE hF => ?_) ?_
  · refine outcome_value ?_ (below_alloc1 w _) (⟨w.heap.size, rfl, hq_at _ _ rfl⟩)
    (try simp only [fill, Act.put, List.setIfInBounds_toArray, List.set_cons_zero, List.set_cons_succ])
    exact exec_bs 36 2 _ rfl (l := [(0, .agg f.cells), (1, .agg f.cells)]) rfl (bs2 f f w)
  (try simp only [Act.put, List.setIfInBounds_toArray, List.set_cons_zero, List.set_cons_succ])
  refine seqr_rel (TreeZ W6.heap.size (.mk (parS 7 12) [t, t])) (TreeZ.lasts _ _) rfl (by rfl) (fun ρ => by rfl) (fun ρ w hE hF => ?_) ?_
  · have hv := hF.get (.head _) (by rfl)
    obtain ⟨p, hp⟩ := PairV.sl hv
    refine outcome_value (v := .agg ((parS 7 12).fl p 2 2).cells) ?_ (Ext.refl w) (TreeZ.of_pair (parS_ok _ _) hv (Rep.apz HT.out hE) (Rep.apz HT.out hE) (fun p' n c e => by rw [hp] at e; cases e; rfl))
    (try simp only [fill, Act.put, List.setIfInBounds_toArray, List.set_cons_zero, List.set_cons_succ])
    exact exec_build 38 _ rfl (l := [(0, .int .i64 7), (1, .int .i64 12), (6, .slice p 2 2)]) (by simp only [List.map_cons, List.map_nil, Act.eval]; first | (rw [← hp]; rfl) | (simp [hp]; done)) (by kernel_rfl)
  (try simp only [Act.put, List.setIfInBounds_toArray, List.set_cons_zero, List.set_cons_succ])
  refine seqr_pure (v := .agg f.cells) (by rfl) (fun ρ => by rfl) (fun ρ w hE hF => ?_) ?_
  · (try simp only [fill, Act.put, List.setIfInBounds_toArray, List.set_cons_zero, List.set_cons_succ])
    exact exec_load_row 38 _ rfl rfl (hE.blk HGN.out) Tryd.underlying38 rfl (by kernel_rfl)
  (try simp only [Act.put, List.setIfInBounds_toArray, List.set_cons_zero, List.set_cons_succ])
  refine seqr_rel (OneV f) (OneV.lasts _) rfl (by rfl) (fun ρ => by rfl) (fun ρ w hE hF => ?_) ?_
  · refine outcome_value ?_ (below_alloc1 w _) (⟨w.heap.size, rfl, hq_at _ _ rfl⟩)
    (try simp only [fill, Act.put, List.setIfInBounds_toArray, List.set_cons_zero, List.set_cons_succ])
    exact exec_bs 36 1 _ rfl (l := [(0, .agg f.cells)]) rfl (bs1 f w)
  (try simp only [Act.put, List.setIfInBounds_toArray, List.set_cons_zero, List.set_cons_succ])
  refine seqr_rel (TreeZ W6.heap.size (.mk (parS 8 1) [t])) (TreeZ.lasts _ _) rfl (by rfl) (fun ρ => by rfl) (fun ρ w hE hF => ?_) ?_
  · have hv := hF.get (.head _) (by rfl)
    obtain ⟨p, hp⟩ := OneV.sl hv
    refine outcome_value (v := .agg ((parS 8 1).fl p 1 1).cells) ?_ (Ext.refl w) (TreeZ.of_one (parS_ok _ _) HKN.out hv (Rep.apz HT.out hE) (fun p' n c e => by rw [hp] at e; cases e; rfl))
    (try simp only [fill, Act.put, List.setIfInBounds_toArray, List.set_cons_zero, List.set_cons_succ])
    exact exec_build 38 _ rfl (l := [(0, .int .i64 8), (1, .int .i64 1), (6, .slice p 1 1)]) (by simp only [List.map_cons, List.map_nil, Act.eval]; first | (rw [← hp]; rfl) | (simp [hp]; done)) (by kernel_rfl)
  (try simp only [Act.put, List.setIfInBounds_toArray, List.set_cons_zero, List.set_cons_succ])
  refine seqr_pure (v := .agg #[.int .i64 9, .int .i64 0, .string ⟨#[]⟩]) (by rfl) (fun ρ => by rfl) (fun ρ w hE hF => ?_) ?_
  · (try simp only [fill, Act.put, List.setIfInBounds_toArray, List.set_cons_zero, List.set_cons_succ])
    exact exec_build 31 _ rfl rfl (by kernel_rfl)
  (try simp only [Act.put, List.setIfInBounds_toArray, List.set_cons_zero, List.set_cons_succ])
  refine seqr_pure (v := .agg ((litS 9 0 ⟨#[]⟩).fl none 0 0).cells) (by rfl) (fun ρ => by rfl) (fun ρ w hE hF => ?_) ?_
  · (try simp only [fill, Act.put, List.setIfInBounds_toArray, List.set_cons_zero, List.set_cons_succ])
    exact exec_build 38 _ rfl rfl (by kernel_rfl)
  (try simp only [Act.put, List.setIfInBounds_toArray, List.set_cons_zero, List.set_cons_succ])
  refine seqr_pure (v := .agg #[.int .i64 0, .int .i64 26, .int .i64 0, .bool false, .bool false]) (by rfl) (fun ρ => by rfl) (fun ρ w hE hF => ?_) ?_
  · (try simp only [fill, Act.put, List.setIfInBounds_toArray, List.set_cons_zero, List.set_cons_succ])
    exact exec_load_row 35 _ rfl rfl (hE.blk HGR.out) Tryd.underlying35 rfl (by kernel_rfl)
  (try simp only [Act.put, List.setIfInBounds_toArray, List.set_cons_zero, List.set_cons_succ])
  (refine seqr_call0 (v := ?_) (f := ?_) (args := ?_) (by rfl) (fun ρ => by rfl) (fun ρ w => ?_) (fun w hE => ?_) ?_; rotate_left 3; (· ((try simp only [fill, Act.put, List.setIfInBounds_toArray, List.set_cons_zero, List.set_cons_succ]); go_simp; constructor <;> with_reducible rfl)); (· (with_reducible exact CallE.call (by assumption) hE)); (try simp only [Act.put, List.setIfInBounds_toArray, List.set_cons_zero, List.set_cons_succ]))
  refine seqr_pure (v := .agg #[.int .i64 0, .int .i64 0, .int .i64 0, .bool false, .bool false]) (by rfl) (fun ρ => by rfl) (fun ρ w hE hF => ?_) ?_
  · (try simp only [fill, Act.put, List.setIfInBounds_toArray, List.set_cons_zero, List.set_cons_succ])
    exact exec_build 35 _ rfl rfl (by kernel_rfl)
  (try simp only [Act.put, List.setIfInBounds_toArray, List.set_cons_zero, List.set_cons_succ])
  refine seqr_pure (v := .agg #[.int .i64 0, .int .i64 26, .int .i64 0, .bool false, .bool false]) (by rfl) (fun ρ => by rfl) (fun ρ w hE hF => ?_) ?_
  · (try simp only [fill, Act.put, List.setIfInBounds_toArray, List.set_cons_zero, List.set_cons_succ])
    exact exec_load_row 35 _ rfl rfl (hE.blk HGR.out) Tryd.underlying35 rfl (by kernel_rfl)
  (try simp only [Act.put, List.setIfInBounds_toArray, List.set_cons_zero, List.set_cons_succ])
  (refine seqr_call0 (v := ?_) (f := ?_) (args := ?_) (by rfl) (fun ρ => by rfl) (fun ρ w => ?_) (fun w hE => ?_) ?_; rotate_left 3; (· ((try simp only [fill, Act.put, List.setIfInBounds_toArray, List.set_cons_zero, List.set_cons_succ]); go_simp; constructor <;> with_reducible rfl)); (· (with_reducible exact CallE.call (by assumption) hE)); (try simp only [Act.put, List.setIfInBounds_toArray, List.set_cons_zero, List.set_cons_succ]))
  refine seqr_pure (v := .agg (wordS.fl none 0 0).cells) (by rfl) (fun ρ => by rfl) (fun ρ w hE hF => ?_) ?_
  · (try simp only [fill, Act.put, List.setIfInBounds_toArray, List.set_cons_zero, List.set_cons_succ])
    exact exec_build 38 _ rfl rfl (by kernel_rfl)
  (try simp only [Act.put, List.setIfInBounds_toArray, List.set_cons_zero, List.set_cons_succ])
  refine seqr_pure (v := .agg f.cells) (by rfl) (fun ρ => by rfl) (fun ρ w hE hF => ?_) ?_
  · (try simp only [fill, Act.put, List.setIfInBounds_toArray, List.set_cons_zero, List.set_cons_succ])
    exact exec_load_row 38 _ rfl rfl (hE.blk HGN.out) Tryd.underlying38 rfl (by kernel_rfl)
  (try simp only [Act.put, List.setIfInBounds_toArray, List.set_cons_zero, List.set_cons_succ])
  refine seqr_rel (OneV f) (OneV.lasts _) rfl (by rfl) (fun ρ => by rfl) (fun ρ w hE hF => ?_) ?_
  · refine outcome_value ?_ (below_alloc1 w _) (⟨w.heap.size, rfl, hq_at _ _ rfl⟩)
    (try simp only [fill, Act.put, List.setIfInBounds_toArray, List.set_cons_zero, List.set_cons_succ])
    exact exec_bs 36 1 _ rfl (l := [(0, .agg f.cells)]) rfl (bs1 f w)
  (try simp only [Act.put, List.setIfInBounds_toArray, List.set_cons_zero, List.set_cons_succ])
  refine seqr_rel (TreeZ W6.heap.size (.mk (parS 1 0) [t])) (TreeZ.lasts _ _) rfl (by rfl) (fun ρ => by rfl) (fun ρ w hE hF => ?_) ?_
  · have hv := hF.get (.head _) (by rfl)
    obtain ⟨p, hp⟩ := OneV.sl hv
    refine outcome_value (v := .agg ((parS 1 0).fl p 1 1).cells) ?_ (Ext.refl w) (TreeZ.of_one (parS_ok _ _) HKN.out hv (Rep.apz HT.out hE) (fun p' n c e => by rw [hp] at e; cases e; rfl))
    (try simp only [fill, Act.put, List.setIfInBounds_toArray, List.set_cons_zero, List.set_cons_succ])
    exact exec_build 38 _ rfl (l := [(0, .int .i64 1), (6, .slice p 1 1)]) (by simp only [List.map_cons, List.map_nil, Act.eval]; first | (rw [← hp]; rfl) | (simp [hp]; done)) (by kernel_rfl)
  (try simp only [Act.put, List.setIfInBounds_toArray, List.set_cons_zero, List.set_cons_succ])
  refine seqr_rel (TenV W6.heap.size (bads t)) (TenV.lasts _ _) rfl (by rfl) (fun ρ => by rfl) (fun ρ w hE hF => ?_) ?_
  · obtain ⟨u9, hu9, r9⟩ := hF.get (.head _) (by rfl)
    obtain ⟨u4, hu4, r4⟩ := hF.get (.tail _ (.tail _ (.head _))) (by rfl)
    obtain ⟨u3, hu3, r3⟩ := hF.get (.tail _ (.tail _ (.tail _ (.tail _ (.head _))))) (by rfl)
    refine outcome_value ?_ (below_alloc1 w _) ⟨w.heap.size, _, rfl, ⟨[], hq_at _ _ rfl, rfl⟩, ten_reps (below_alloc1 w _) r3 r4 r9⟩
    (try simp only [fill, Act.put, List.setIfInBounds_toArray, List.set_cons_zero, List.set_cons_succ])
    exact exec_bs 36 10 _ rfl (l := [(0, .agg ((parS 0 0).fl none 0 0).cells), (1, .agg ((parS 9 0).fl none 0 0).cells), (2, .agg ((parS 5 0).fl none 0 0).cells), (3, .agg u3.cells), (4, .agg u4.cells), (5, .agg ((litS 9 0 ⟨#[]⟩).fl none 0 0).cells), (6, .agg (oneF r26).cells), (7, .agg (areaF rf0 r26).cells), (8, .agg (wordS.fl none 0 0).cells), (9, .agg u9.cells)]) (by simp only [List.map_cons, List.map_nil, Act.eval]; first | (rw [← hu3, ← hu4, ← hu9]; rfl) | (simp [hu3, hu4, hu9]; done)) (bs10 _ _ _ _ _ _ _ _ _ _ w)
  (try simp only [Act.put, List.setIfInBounds_toArray, List.set_cons_zero, List.set_cons_succ])
  refine seqr_pure (v := .int .i64 which) (by rfl) (fun ρ => by rfl) (fun ρ w hE hF => ?_) ?_
  · (try simp only [fill, Act.put, List.setIfInBounds_toArray, List.set_cons_zero, List.set_cons_succ])
    go_simp
  (try simp only [Act.put, List.setIfInBounds_toArray, List.set_cons_zero, List.set_cons_succ])
  refine seqr_pure (v := .int .i64 m) (by rfl) (fun ρ => by rfl) (fun ρ w hE hF => ?_) ?_
  · (try simp only [fill, Act.put, List.setIfInBounds_toArray, List.set_cons_zero, List.set_cons_succ])
    have hm := HM.out
    go_simp
  (try simp only [Act.put, List.setIfInBounds_toArray, List.set_cons_zero, List.set_cons_succ])
  refine seqr_pure (v := .int .i64 (m + 10)) (by rfl) (fun ρ => by rfl) (fun ρ w hE hF => ?_) ?_
  · (try simp only [fill, Act.put, List.setIfInBounds_toArray, List.set_cons_zero, List.set_cons_succ])
    have hm := HWM.out
    go_simp
  (try simp only [Act.put, List.setIfInBounds_toArray, List.set_cons_zero, List.set_cons_succ])
  refine seqr_pure (v := .int .i64 (k : Int)) (by rfl) (fun ρ => by rfl) (fun ρ w hE hF => ?_) ?_
  · (try simp only [fill, Act.put, List.setIfInBounds_toArray, List.set_cons_zero, List.set_cons_succ])
    have hm := HMK.out
    go_simp
  (try simp only [Act.put, List.setIfInBounds_toArray, List.set_cons_zero, List.set_cons_succ])
  obtain ⟨B, hB⟩ : ∃ B, (bads t)[k]? = some B := ⟨_, List.getElem?_eq_getElem (show k < 10 from HK10.out)⟩
  have HBN := Lib.hid (bads_none t B (List.mem_of_getElem? hB))
  have HB := Lib.hid hB
  clear hB
  refine seqr_rel (AtV W6.heap.size B) (AtV.lasts _ _) rfl (by rfl) (fun ρ => by rfl) (fun ρ w hE hF => ?_) ?_
  · obtain ⟨g, l, hv, hp, hr⟩ := hF.get (.head _) (by rfl)
    obtain ⟨u, hu, ru⟩ := hr k B HB.out
    refine outcome_value ?_ (Ext.refl w) ⟨g, 0 + k * 17, u, rfl, hp.node hu, ru⟩
    (try simp only [fill, Act.put, List.setIfInBounds_toArray, List.set_cons_zero, List.set_cons_succ])
    exact exec_index 36 _ _ rfl (by simp only [Act.eval]; exact hv) rfl (at_node g k HK10.out w)
  (try simp only [Act.put, List.setIfInBounds_toArray, List.set_cons_zero, List.set_cons_succ])
  refine seqr_rel (TreeZ W6.heap.size B) (TreeZ.lasts _ _) rfl (by rfl) (fun ρ => by rfl) (fun ρ w hE hF => ?_) ?_
  · obtain ⟨g, o, u, hv, hn, ru⟩ := hF.get (.head _) (by rfl)
    refine outcome_value ?_ (Ext.refl w) ⟨u, rfl, ru⟩
    (try simp only [fill, Act.put, List.setIfInBounds_toArray, List.set_cons_zero, List.set_cons_succ])
    exact exec_load_at 38 _ rfl (by simp only [Act.eval]; exact hv) hn Tryd.underlying38 rfl (by kernel_rfl)
  (try simp only [Act.put, List.setIfInBounds_toArray, List.set_cons_zero, List.set_cons_succ])
  (refine seqr_own 38 (#[.int .i64 0, .int .i64 0, .int .i64 0, .int .i64 0, .string ⟨#[]⟩, .int .i64 0, .int .i64 0, .int .i64 0, .bool false, .bool false, .int .i64 0, .int .i64 0, .int .i64 0, .bool false, .bool false, .string ⟨#[]⟩, .slice none 0 0]) rfl (by decide) (by rfl) (fun ρ => by rfl) (fun ρ w hE hF => ?_) ?_; (· ((try simp only [fill, Act.put, List.setIfInBounds_toArray, List.set_cons_zero, List.set_cons_succ]); go_simp; try rfl)); (try simp only [Act.put, List.setIfInBounds_toArray, List.set_cons_zero, List.set_cons_succ]))
  refine seqr_tails (by kernel_rfl) (fun ρ wN hEN hFN hAN => ?_); (try simp only [fill, Act.put, List.setIfInBounds_toArray, List.set_cons_zero, List.set_cons_succ])
  obtain ⟨fb, hb1, hb2⟩ := hFN _ (.tail _ (.head _))
  obtain ⟨g7, hp7, hl7, hb7⟩ := hFN _ (.head _)
  simp only at hp7 hb1
  rw [hp7, hb1]
  clear hp7 hb1 hFN hAN
  go_wp2_with ((with_reducible refine wpl_guard (isStore 38) ?_ ?_); (· rfl); refine wpl_store (t := ?_) (old := ?_) (w' := ?_) rfl 38 _ _ rfl rfl rfl ?_ ?_ ?_ ?_ ?_ ?_; rotate_left 2; (· (first | (with_reducible assumption) | (simp (disch := (first | omega | (simp only [World.size_alloc, World.size_setCell, World.size_drew, size_setRow]; done) | (simp only [World.size_alloc, World.size_setCell, World.size_drew, size_setRow]; omega))) only [hq_at, hq_past, hq_drew, hq_drewN, hq_cell, hq_row, hq_same, rowOf_cells, Option.map_some, *]; rfl) | (simp (disch := (first | omega | (simp only [World.size_alloc, World.size_setCell, World.size_drew, size_setRow]; done) | (simp only [World.size_alloc, World.size_setCell, World.size_drew, size_setRow]; omega))) only [hq_at, hq_past, hq_drew, hq_drewN, hq_cell, hq_row, hq_same, rowOf_cells, Option.map_some, *]))); (· kernel_rfl); (· rfl); (· rfl); rotate_left 1; (· (first | (simp (disch := (first | omega | (simp only [World.size_alloc, World.size_setCell, World.size_drew, size_setRow]; done) | (simp only [World.size_alloc, World.size_setCell, World.size_drew, size_setRow]; omega))) only [setRow_at, setRow_past, setRow_drew]; rfl) | rfl)))
  refine (show K _ _ from hK.out _ _ ?_); clear hK K
  obtain ⟨V1, hV1, hE1, hG7⟩ := put_blk hEN hl7 hb7 fb.cells
  have HV1 := Lib.hid (Ext.trans HE6.out hE1)
  have HTB := Lib.hid ((hb2.keeps (w := V1) (fun b hS _ => by rw [← hV1]; exact hq_row (ApZ.ne hS hl7 hb7))).imp' (S' := fun _ => True) (fun _ _ _ => trivial))
  rw [hV1]
  have HG7 := Lib.hid hG7
  have HGN1 := Lib.hid (hE1.blk HGN.out)
  have HT1 := Lib.hid ((HT.out.ext hE1).imp' (S' := fun _ => True) (fun _ _ _ => trivial))
  have HQ1 := Lib.hid (HQ6.out.ext hE1)
  have e46 : CallE Tryd.prog V1 16 #[.agg fb.cells] (.bool false) := fun w hE => by
    have h := right_v (w := w) (t := B) ⟨fb, rfl, HTB.out.ext hE⟩ (HQ1.out.ext hE)
    rwa [bad_right HBN.out] at h
  clear hV1 hE1 hG7 hl7 hb7 hb2 hEN
  go_wp2_with fail
  refine region_any (by kernel_rfl) (by kernel_rfl) rfl (fun K hK => ?_)
  refine seqr_pure (v := .agg fb.cells) (by rfl) (fun ρ => by rfl) (fun ρ w hE hF => ?_) ?_
  · (try simp only [fill, Act.put, List.setIfInBounds_toArray, List.set_cons_zero, List.set_cons_succ])
    exact exec_load_row 38 _ rfl rfl (hE.blk HG7.out) Tryd.underlying38 rfl (by kernel_rfl)
  (try simp only [Act.put, List.setIfInBounds_toArray, List.set_cons_zero, List.set_cons_succ])
  (refine seqr_call0 (v := ?_) (f := ?_) (args := ?_) (by rfl) (fun ρ => by rfl) (fun ρ w => ?_) (fun w hE => ?_) ?_; rotate_left 3; (· ((try simp only [fill, Act.put, List.setIfInBounds_toArray, List.set_cons_zero, List.set_cons_succ]); go_simp; constructor <;> with_reducible rfl)); (· (with_reducible exact CallE.call (by assumption) hE)); (try simp only [Act.put, List.setIfInBounds_toArray, List.set_cons_zero, List.set_cons_succ]))
  (refine seqr_pure (v := ?_) (by rfl) (fun ρ => by rfl) (fun ρ w hE hF => ?_) ?_; rotate_left 1; (· ((try simp only [fill, Act.put, List.setIfInBounds_toArray, List.set_cons_zero, List.set_cons_succ]); go_simp; try with_reducible rfl)); (try simp only [Act.put, List.setIfInBounds_toArray, List.set_cons_zero, List.set_cons_succ]))
  (refine seqr_pure (v := ?_) (by rfl) (fun ρ => by rfl) (fun ρ w hE hF => ?_) ?_; rotate_left 1; (· ((try simp only [fill, Act.put, List.setIfInBounds_toArray, List.set_cons_zero, List.set_cons_succ]); go_simp; try with_reducible rfl)); (try simp only [Act.put, List.setIfInBounds_toArray, List.set_cons_zero, List.set_cons_succ]))
  refine seqr_pure (v := .agg fb.cells) (by rfl) (fun ρ => by rfl) (fun ρ w hE hF => ?_) ?_
  · (try simp only [fill, Act.put, List.setIfInBounds_toArray, List.set_cons_zero, List.set_cons_succ])
    exact exec_load_row 38 _ rfl rfl (hE.blk HG7.out) Tryd.underlying38 rfl (by kernel_rfl)
  (try simp only [Act.put, List.setIfInBounds_toArray, List.set_cons_zero, List.set_cons_succ])
  refine seqr_rel (TreeV (.mk (parS 5 0) [B])) (TreeV.lasts _) rfl (by rfl) (fun ρ => by rfl) (fun ρ w hE hF => ?_) ?_
  · refine outcome_call (f := 17) (args := #[.int .i64 5, .agg fb.cells]) ?_ (unary_v 5 ⟨fb, rfl, HTB.out.ext hE⟩)
    (try simp only [fill, Act.put, List.setIfInBounds_toArray, List.set_cons_zero, List.set_cons_succ])
    go_simp
  (try simp only [Act.put, List.setIfInBounds_toArray, List.set_cons_zero, List.set_cons_succ])
  (refine seqr_call (v := .bool false) (args := fun ρ => #[ρ 50]) (by rfl) (fun ρ => by rfl) (fun ρ w => ?_) (fun ρ w hE hF => by have h := right_v (w := w) (hF.get (.head _) (by rfl)) (HQ1.out.ext hE); rwa [bad_neg HBN.out] at h) ?_; (· ((try simp only [fill, Act.put, List.setIfInBounds_toArray, List.set_cons_zero, List.set_cons_succ]); go_simp)); (try simp only [Act.put, List.setIfInBounds_toArray, List.set_cons_zero, List.set_cons_succ]))
  (refine seqr_pure (v := ?_) (by rfl) (fun ρ => by rfl) (fun ρ w hE hF => ?_) ?_; rotate_left 1; (· ((try simp only [fill, Act.put, List.setIfInBounds_toArray, List.set_cons_zero, List.set_cons_succ]); go_simp; try with_reducible rfl)); (try simp only [Act.put, List.setIfInBounds_toArray, List.set_cons_zero, List.set_cons_succ]))
  (refine seqr_pure (v := ?_) (by rfl) (fun ρ => by rfl) (fun ρ w hE hF => ?_) ?_; rotate_left 1; (· ((try simp only [fill, Act.put, List.setIfInBounds_toArray, List.set_cons_zero, List.set_cons_succ]); go_simp; try with_reducible rfl)); (try simp only [Act.put, List.setIfInBounds_toArray, List.set_cons_zero, List.set_cons_succ]))
  (refine seqr_pure (v := ?_) (by rfl) (fun ρ => by rfl) (fun ρ w hE hF => ?_) ?_; rotate_left 1; (· ((try simp only [fill, Act.put, List.setIfInBounds_toArray, List.set_cons_zero, List.set_cons_succ]); go_simp; try with_reducible rfl)); (try simp only [Act.put, List.setIfInBounds_toArray, List.set_cons_zero, List.set_cons_succ]))
  refine seqr_pure (v := .agg fb.cells) (by rfl) (fun ρ => by rfl) (fun ρ w hE hF => ?_) ?_
  · (try simp only [fill, Act.put, List.setIfInBounds_toArray, List.set_cons_zero, List.set_cons_succ])
    exact exec_load_row 38 _ rfl rfl (hE.blk HG7.out) Tryd.underlying38 rfl (by kernel_rfl)
  (try simp only [Act.put, List.setIfInBounds_toArray, List.set_cons_zero, List.set_cons_succ])
  refine seqr_pure (v := .agg fb.cells) (by rfl) (fun ρ => by rfl) (fun ρ w hE hF => ?_) ?_
  · (try simp only [fill, Act.put, List.setIfInBounds_toArray, List.set_cons_zero, List.set_cons_succ])
    exact exec_load_row 38 _ rfl rfl (hE.blk HG7.out) Tryd.underlying38 rfl (by kernel_rfl)
  (try simp only [Act.put, List.setIfInBounds_toArray, List.set_cons_zero, List.set_cons_succ])
  refine seqr_rel (TreeV (.mk (parS 6 0) [B])) (TreeV.lasts _) rfl (by rfl) (fun ρ => by rfl) (fun ρ w hE hF => ?_) ?_
  · refine outcome_call (f := 17) (args := #[.int .i64 6, .agg fb.cells]) ?_ (unary_v 6 ⟨fb, rfl, HTB.out.ext hE⟩)
    (try simp only [fill, Act.put, List.setIfInBounds_toArray, List.set_cons_zero, List.set_cons_succ])
    go_simp
  (try simp only [Act.put, List.setIfInBounds_toArray, List.set_cons_zero, List.set_cons_succ])
  (refine seqr_call (v := .bool false) (args := fun ρ => #[.agg fb.cells, ρ 57]) (by rfl) (fun ρ => by rfl) (fun ρ w => ?_) (fun ρ w hE hF => by have h := same_v (w := w) (t := B) ⟨fb, rfl, HTB.out.ext hE⟩ (hF.get (.head _) (by rfl)); rwa [bad_same] at h) ?_; (· ((try simp only [fill, Act.put, List.setIfInBounds_toArray, List.set_cons_zero, List.set_cons_succ]); go_simp)); (try simp only [Act.put, List.setIfInBounds_toArray, List.set_cons_zero, List.set_cons_succ]))
  (refine seqr_pure (v := ?_) (by rfl) (fun ρ => by rfl) (fun ρ w hE hF => ?_) ?_; rotate_left 1; (· ((try simp only [fill, Act.put, List.setIfInBounds_toArray, List.set_cons_zero, List.set_cons_succ]); go_simp; try with_reducible rfl)); (try simp only [Act.put, List.setIfInBounds_toArray, List.set_cons_zero, List.set_cons_succ]))
  (refine seqr_pure (v := ?_) (by rfl) (fun ρ => by rfl) (fun ρ w hE hF => ?_) ?_; rotate_left 1; (· ((try simp only [fill, Act.put, List.setIfInBounds_toArray, List.set_cons_zero, List.set_cons_succ]); go_simp; try with_reducible rfl)); (try simp only [Act.put, List.setIfInBounds_toArray, List.set_cons_zero, List.set_cons_succ]))
  (refine seqr_pure (v := ?_) (by rfl) (fun ρ => by rfl) (fun ρ w hE hF => ?_) ?_; rotate_left 1; (· ((try simp only [fill, Act.put, List.setIfInBounds_toArray, List.set_cons_zero, List.set_cons_succ]); go_simp; try with_reducible rfl)); (try simp only [Act.put, List.setIfInBounds_toArray, List.set_cons_zero, List.set_cons_succ]))
  refine seqr_pure (v := .agg f.cells) (by rfl) (fun ρ => by rfl) (fun ρ w hE hF => ?_) ?_
  · (try simp only [fill, Act.put, List.setIfInBounds_toArray, List.set_cons_zero, List.set_cons_succ])
    exact exec_load_row 38 _ rfl rfl (hE.blk HGN1.out) Tryd.underlying38 rfl (by kernel_rfl)
  (try simp only [Act.put, List.setIfInBounds_toArray, List.set_cons_zero, List.set_cons_succ])
  refine seqr_rel (TreeV (.mk (parS 6 0) [t])) (TreeV.lasts _) rfl (by rfl) (fun ρ => by rfl) (fun ρ w hE hF => ?_) ?_
  · refine outcome_call (f := 17) (args := #[.int .i64 6, .agg f.cells]) ?_ (unary_v 6 ⟨f, rfl, HT1.out.ext hE⟩)
    (try simp only [fill, Act.put, List.setIfInBounds_toArray, List.set_cons_zero, List.set_cons_succ])
    go_simp
  (try simp only [Act.put, List.setIfInBounds_toArray, List.set_cons_zero, List.set_cons_succ])
  (refine seqr_call (v := .bool true) (args := fun ρ => #[ρ 63]) (by rfl) (fun ρ => by rfl) (fun ρ w => ?_) (fun ρ w hE hF => by have h := right_v (w := w) (hF.get (.head _) (by rfl)) (HQ1.out.ext hE); rwa [ft_pct HF3.out] at h) ?_; (· ((try simp only [fill, Act.put, List.setIfInBounds_toArray, List.set_cons_zero, List.set_cons_succ]); go_simp)); (try simp only [Act.put, List.setIfInBounds_toArray, List.set_cons_zero, List.set_cons_succ]))
  (refine seqr_pure (v := ?_) (by rfl) (fun ρ => by rfl) (fun ρ w hE hF => ?_) ?_; rotate_left 1; (· ((try simp only [fill, Act.put, List.setIfInBounds_toArray, List.set_cons_zero, List.set_cons_succ]); go_simp; try with_reducible rfl)); (try simp only [Act.put, List.setIfInBounds_toArray, List.set_cons_zero, List.set_cons_succ]))
  (refine seqr_pure (v := ?_) (by rfl) (fun ρ => by rfl) (fun ρ w hE hF => ?_) ?_; rotate_left 1; (· ((try simp only [fill, Act.put, List.setIfInBounds_toArray, List.set_cons_zero, List.set_cons_succ]); go_simp; try with_reducible rfl)); (try simp only [Act.put, List.setIfInBounds_toArray, List.set_cons_zero, List.set_cons_succ]))
  refine seqr_done (fun ρ wN hEN hFN => ?_); (try simp only [fill, Act.put, List.setIfInBounds_toArray, List.set_cons_zero, List.set_cons_succ]); refine (show K _ _ from hK.out _ _ ?_); clear hK K
  go_wp2_with fail
  go_ret
  exact ⟨rfl, (HX3.out.trans HV1.out).trans hEN⟩
theorem walk (a : Option Addr) (len cap : Nat) (which : Int) (W : World) (hS : SeedIn W a len cap) (hwh : (Lit.int .i64 which).wf = true) (hE : EnvQ W) :
    Calls Tryd.prog 4 #[.slice a len cap, .int .i64 which] W fun e w' => e = .returned (.bool true) ∧ Below W.heap.size W w' := walk0 a len cap which W hS (bounds_i64 hwh) hE
end Go.Proofs.YtmbjomeiiihofaaDoor.treeWrong
