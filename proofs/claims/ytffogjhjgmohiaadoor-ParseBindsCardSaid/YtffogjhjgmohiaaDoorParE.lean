/-
  parse: inside: walk. Conditions: each theorem's own.
-/
import Derived.Test.YtffogjhjgmohiaaDoorParD
namespace Go.Proofs.YtffogjhjgmohiaaDoor
open Go.RowKit
set_option linter.unusedVariables false
set_option linter.unusedSimpArgs false

/-- What a parser hands back: a tree, and what is left of the tokens; else where it gave up. -/
def PostT (b sh E d : Nat) (W : World) (R : Except (Nat × Nat) (Tr × List Tok)) (e : Ending) (w' : World) : Prop :=
  (∃ x ts f, R = .ok (x, ts) ∧ e = .returned f.val ∧ Rep w' (fun g => W.heap.size ≤ g) x f ∧ PAt b sh E d ts w' ∧ ExtX b W w') ∨ (∃ c p, R = .error (c, p) ∧ e = .panicked [faultE c p] ∧ ExtX b W w')
theorem PS.deeper {b sh E d : Nat} {ts : List Tok} {p : Option Addr} {c : Nat} {W : World} (h : PS b sh E d ts p c W) (d' : Nat) (hd : d' ≤ 64) : PS b sh E d' ts p c (W.setCell ⟨b, 3, none⟩ (.int .i64 (d' : Int))) := by
  refine ⟨?_, h.cap, fun i t ht => ?_, h.lim.1, h.lim.2.1, h.lim.2.2.1, h.lim.2.2.2.1, hd⟩
  · rw [hq_put rfl, h.blk]; rfl
  · obtain ⟨g, o, hp, hg, h3⟩ := h.tok i t ht
    refine ⟨g, o, hp, hg, fun j v hj => ?_⟩
    have := h3 j v hj
    rw [← this]
    simp only [World.cell?, Below.heap_setCell W ⟨b, 3, none⟩ _ g (show g ≠ b by omega)]
theorem PAt.deeper {b sh E d : Nat} {ts : List Tok} {W : World} (h : PAt b sh E d ts W) (d' : Nat) (hd : d' ≤ 64) : PAt b sh E d' ts (W.setCell ⟨b, 3, none⟩ (.int .i64 (d' : Int))) := by
  obtain ⟨p, c, h⟩ := h
  exact ⟨p, c, h.deeper d' hd⟩
theorem PAt.deep {b sh E d : Nat} {ts : List Tok} {W : World} (h : PAt b sh E d ts W) : W.cell? ⟨b, 3, none⟩ = some (.int .i64 (d : Int)) ∧ W.frozen? ⟨b, 3, none⟩ = false ∧ b < W.heap.size := by
  obtain ⟨p, c, h⟩ := h
  exact ⟨h.cells.2.2.2, frozen_of_row W b 3 _ _ h.blk, h.lt⟩
theorem PAt.lims {b sh E d : Nat} {ts : List Tok} {W : World} (h : PAt b sh E d ts W) : ts.length ≤ 1000 ∧ (∀ t ∈ ts, t.s.length ≤ 1000 ∧ t.p ≤ 1000 ∧ 1 ≤ t.k ∧ t.k ≤ 5) ∧ sh < 3 ∧ E ≤ 1000 ∧ d ≤ 64 := by
  obtain ⟨p, c, h⟩ := h
  exact h.lim
/-- A node's zero. -/
def zN : Array Value := #[.int .i64 0, .int .i64 0, .int .i64 0, .int .i64 0, .string ⟨#[]⟩, .int .i64 0, .int .i64 0, .int .i64 0, .bool false, .bool false, .int .i64 0, .int .i64 0, .int .i64 0, .bool false, .bool false, .string ⟨#[]⟩, .slice none 0 0]
theorem PAt.row {b sh E d : Nat} {ts : List Tok} {W : World} (h : PAt b sh E d ts W) {g : Nat} (hg : b < g) (cs : Array Value) : PAt b sh E d ts (W.setRow g cs) := by
  obtain ⟨p, c, h⟩ := h
  refine ⟨p, c, by rw [setRow_other W g b cs (by omega)]; exact h.blk, h.cap, fun i t ht => ?_, h.lim⟩
  obtain ⟨g', o, hp, hg', h3⟩ := h.tok i t ht
  refine ⟨g', o, hp, hg', fun j v hj => ?_⟩
  rw [← h3 j v hj]
  simp only [World.cell?, setRow_other W g g' cs (show g' ≠ g by omega)]
/-- How a parser function ends: its result lies in block g. -/
theorem par_end {b sh E d : Nat} {F : Func} {q : Tmp} {W w : World} {a : Act} {f : Fl} {x : Tr} {ts : List Tok} {R : Except (Nat × Nat) (Tr × List Tok)} {g : Nat} {old : Array Value} (hF : F.results = #[.cell q 33]) (hb : b < W.heap.size) (hgW : W.heap.size ≤ g) (hX : ExtX b W w)
    (hP : PAt b sh E d ts w) (hg : w.heap[g]? = some (.cells old 33 (0, 0))) (hR : Rep w (fun k => W.heap.size ≤ k ∧ k ≠ g) x f) (hRR : R = .ok (x, ts)) (h4 : a.tmps.getD q undef = .pointer (some ⟨g, 0, none⟩)) (hd : a.defers = []) :
    bodyPost Tryd.prog F (PostT b sh E d W R) Exit.ret a (w.setRow g f.cells) := by
  have hg' : (w.setRow g f.cells).heap[g]? = some (.cells f.cells 33 (0, 0)) := by rw [hq_same rfl, hg]; rfl
  refine ret_row hF h4 hg' Tryd.underlying33 rfl (by kernel_rfl) hd (.inl ⟨x, ts, f, hRR, rfl, ?_, hP.row (by omega) _, hX.row hgW _⟩)
  exact (hR.keeps (fun k hk _ => setRow_other w _ k _ hk.2)).imp' (fun k hk _ => hk.1)
set_option maxRecDepth 100000 in
set_option maxHeartbeats 8000000 in
theorem inside_deep (b sh E : Nat) (ts : List Tok) (fn : Nat) (fst caps : Array Value) (W : World) (h : PAt b sh E 64 ts W) :
    Calls Tryd.prog 39 #[.pointer (some ⟨b, 0, none⟩), .func (.func fn) fst caps] W (PostT b sh E 64 W (.error (3, posF E ts))) := by
  obtain ⟨W1, hW1, hE1, hG1, hL1, hS1⟩ := new_blk W zN 33
  have h1 := h.ext hE1
  have HF := Lib.hid (fail_at b sh E 64 ts 3 W1 h1)
  have HW1 := Lib.hid hW1
  have HE1 := Lib.hid hE1
  obtain ⟨c3, f3, hlt⟩ := h1.deep
  clear h h1 hW1 hE1 hG1 hL1 hS1
  unfold zN at HW1
  go_enter Tryd.func39, Tryd.ntmps39
  go_upto_region 1 with (fail)
  rw [HW1.out]
  clear HW1
  go_wp2_with fail
  refine HF.out.mono ?_
  rintro e w3 ⟨rfl, rfl⟩
  exact ⟨rfl, .inr ⟨3, _, rfl, rfl, .of_ext HE1.out⟩⟩
set_option maxRecDepth 100000 in
set_option maxHeartbeats 8000000 in
theorem inside_any (b sh E d : Nat) (ts : List Tok) (fn : Nat) (fst caps : Array Value) (R : Except (Nat × Nat) (Tr × List Tok)) (W : World) (h : PAt b sh E d ts W) (hd : d < 64)
    (hen : ∀ (args : Array Value) (w : World), (callFunc fn args).run Tryd.prog w = .ok (.enter fn args) w)
    (hfn : ∀ W2, PAt b sh E (d + 1) ts W2 → ExtX b W W2 → Calls Tryd.prog fn (fst ++ caps) W2 (PostT b sh E (d + 1) W2 R)) :
    Calls Tryd.prog 39 #[.pointer (some ⟨b, 0, none⟩), .func (.func fn) fst caps] W (PostT b sh E d W R) := by
  obtain ⟨W1, hW1, hE1, hG1, hL1, hS1⟩ := new_blk W zN 33
  have h1 := h.ext hE1
  have HP1 := Lib.hid h1
  have HW1 := Lib.hid hW1
  have HE1 := Lib.hid hE1
  have HG1 := Lib.hid hG1
  have HB := Lib.hid h.deep.2.2
  have HD := Lib.hid hd
  have HFN := Lib.hid hfn
  have HSZ := Lib.hid hS1
  obtain ⟨c3, f3, hlt⟩ := h1.deep
  have hdq : ((d : Int) == 64) = false := by rw [beq_eq_false_iff_ne]; omega
  have hdq' : ¬ ((d : Int) = 64) := by omega
  have hd64 : (d : Int) < 64 := by omega
  clear h h1 hW1 hE1 hG1 hL1 hS1 hd hfn
  unfold zN at HW1
  go_enter Tryd.func39, Tryd.ntmps39
  go_upto_region 1 with (fail)
  rw [HW1.out]
  clear HW1
  go_upto_region 4 with (fail)
  obtain ⟨W2, hW2⟩ : ∃ W2, W1.setCell ⟨b, 3, none⟩ (.int .i64 ((d : Int) + 1)) = W2 := ⟨_, rfl⟩
  have HP2 : Hid (PAt b sh E (d + 1) ts W2) := Lib.hid (by rw [← hW2]; exact HP1.out.deeper (d + 1) (by have := HD.out; omega))
  have HX2 : Hid (ExtX b W W2) := Lib.hid (by rw [← hW2]; exact (ExtX.of_ext HE1.out).trans (set_ext _ _))
  have HX12 : Hid (ExtX b W1 W2) := Lib.hid (by rw [← hW2]; exact set_ext _ _)
  rw [hW2]
  clear hW2 c3 f3 hlt hdq hdq' hd64
  go_wp2_with fail
  refine (HFN.out W2 HP2.out HX2.out).mono ?_
  rintro e w3 (⟨x, ts', f, hR, rfl, hRep, hP, hX⟩ | ⟨c, p, hR, rfl, hX⟩)
  case inr => exact ⟨rfl, .inr ⟨c, p, hR, rfl, HX2.out.trans hX⟩⟩
  obtain ⟨W4, hW4, hE4, hG4, hL4, hS4⟩ := new_blk w3 f.cells 33
  have HW4 := Lib.hid hW4
  have HE4 := Lib.hid hE4
  have HG4 := Lib.hid hG4
  have HRR := Lib.hid hR
  have HREP := Lib.hid hRep
  have HP3 := Lib.hid hP
  have HX3 := Lib.hid hX
  obtain ⟨c3, f3, hlt⟩ := (hP.ext hE4).deep
  rw [Int.natCast_add] at c3
  have hd64 : (d : Int) < 64 := by have := HD.out; omega
  clear hW4 hE4 hG4 hL4 hS4 hR hRep hP hX hlt
  unfold Fl.val
  go_upto_region 5 with (first | ((with_reducible refine wpl_guard (isStore 33) ?_ ?_); (· rfl); refine wpl_store (t := ?_) (old := ?_) (w' := ?_) rfl 33 _ _ rfl rfl rfl ?_ ?_ ?_ ?_ ?_ ?_; rotate_left 2; (· (first | (with_reducible assumption) | (simp (disch := (first | omega | (simp only [World.size_alloc, World.size_setCell, World.size_drew, size_setRow]; done) | (simp only [World.size_alloc, World.size_setCell, World.size_drew, size_setRow]; omega))) only [hq_at, hq_past, hq_drew, hq_drewN, hq_cell, hq_row, hq_same, rowOf_cells, Option.map_some, *]; rfl) | (simp (disch := (first | omega | (simp only [World.size_alloc, World.size_setCell, World.size_drew, size_setRow]; done) | (simp only [World.size_alloc, World.size_setCell, World.size_drew, size_setRow]; omega))) only [hq_at, hq_past, hq_drew, hq_drewN, hq_cell, hq_row, hq_same, rowOf_cells, Option.map_some, *]))); (· kernel_rfl); (· rfl); (· rfl); rotate_left 1; (· (first | (simp (disch := (first | omega | (simp only [World.size_alloc, World.size_setCell, World.size_drew, size_setRow]; done) | (simp only [World.size_alloc, World.size_setCell, World.size_drew, size_setRow]; omega))) only [setRow_at, setRow_past, setRow_drew]; rfl) | rfl))))
  rw [HW4.out]
  clear HW4
  go_upto_region 6 with (fail)
  obtain ⟨W5, hW5⟩ : ∃ W5, W4.setCell ⟨b, 3, none⟩ (.int .i64 (d : Int)) = W5 := ⟨_, rfl⟩
  have HX45 : Hid (ExtX b W4 W5) := Lib.hid (by rw [← hW5]; exact set_ext _ _)
  have HP5 : Hid (PAt b sh E d ts' W5) := Lib.hid (by rw [← hW5]; exact (HP3.out.ext HE4.out).deeper d (by have := HD.out; omega))
  have HX15 : Hid (ExtX b W1 W5) := Lib.hid (((HX12.out.trans HX3.out).trans (.of_ext HE4.out)).trans HX45.out)
  have hgR : W5.heap[W.heap.size]? = some (.cells zN 33 (0, 0)) := HX15.out.blk HG1.out (by have := HB.out; omega)
  have hgL : W5.heap[w3.heap.size]? = some (.cells f.cells 33 (0, 0)) := HX45.out.blk HG4.out (by have := HB.out; have := HX2.out.size; have := HX3.out.size; omega)
  rw [hW5]
  clear hW5 c3 f3 hd64
  unfold zN at hgR
  go_wp2_with (first | ((with_reducible refine wpl_guard (isLoad 33) ?_ ?_); (· rfl); refine wpl_load (t := ?_) (cs := ?_) (fr := ?_) rfl 33 _ rfl rfl ?_ Tryd.underlying33 rfl ?_ ?_; rotate_left 3; (· (first | (with_reducible assumption) | (simp (disch := (first | omega | (simp only [World.size_alloc, World.size_setCell, World.size_drew, size_setRow]; done) | (simp only [World.size_alloc, World.size_setCell, World.size_drew, size_setRow]; omega))) only [hq_at, hq_past, hq_drew, hq_drewN, hq_cell, hq_row, hq_same, rowOf_cells, Option.map_some, *]; rfl) | (simp (disch := (first | omega | (simp only [World.size_alloc, World.size_setCell, World.size_drew, size_setRow]; done) | (simp only [World.size_alloc, World.size_setCell, World.size_drew, size_setRow]; omega))) only [hq_at, hq_past, hq_drew, hq_drewN, hq_cell, hq_row, hq_same, rowOf_cells, Option.map_some, *]))); (· kernel_rfl); (try dsimp only [Act.put, List.setIfInBounds_toArray, List.set_cons_zero, List.set_cons_succ])) | ((with_reducible refine wpl_guard (isStore 33) ?_ ?_); (· rfl); refine wpl_store (t := ?_) (old := ?_) (w' := ?_) rfl 33 _ _ rfl rfl rfl ?_ ?_ ?_ ?_ ?_ ?_; rotate_left 2; (· (first | (with_reducible assumption) | (simp (disch := (first | omega | (simp only [World.size_alloc, World.size_setCell, World.size_drew, size_setRow]; done) | (simp only [World.size_alloc, World.size_setCell, World.size_drew, size_setRow]; omega))) only [hq_at, hq_past, hq_drew, hq_drewN, hq_cell, hq_row, hq_same, rowOf_cells, Option.map_some, *]; rfl) | (simp (disch := (first | omega | (simp only [World.size_alloc, World.size_setCell, World.size_drew, size_setRow]; done) | (simp only [World.size_alloc, World.size_setCell, World.size_drew, size_setRow]; omega))) only [hq_at, hq_past, hq_drew, hq_drewN, hq_cell, hq_row, hq_same, rowOf_cells, Option.map_some, *]))); (· kernel_rfl); (· rfl); (· rfl); rotate_left 1; (· (first | (simp (disch := (first | omega | (simp only [World.size_alloc, World.size_setCell, World.size_drew, size_setRow]; done) | (simp only [World.size_alloc, World.size_setCell, World.size_drew, size_setRow]; omega))) only [setRow_at, setRow_past, setRow_drew]; rfl) | rfl))))
  refine par_end rfl HB.out (Nat.le_refl _) ((ExtX.of_ext HE1.out).trans HX15.out) HP5.out hgR ?_ HRR.out rfl rfl
  have h21 : W.heap.size + 1 ≤ W2.heap.size := by have := HX12.out.size; have := HSZ.out; omega
  exact ((HREP.out.ext HE4.out).keeps (HX45.out.keeps (by have := HB.out; have := HX2.out.size; omega))).imp' (fun k hk _ => ⟨by omega, by omega⟩)
/-! ### What the functions of the parser are to do, with so much fuel -/
def ExprS (sh E n : Nat) : Prop := ∀ (b d lvl : Nat) (ts : List Tok) (R) (W : World), exprF E sh n lvl d ts = some R → lvl ≤ 4 → PAt b sh E d ts W → EnvX W → LowX b →
  Calls Tryd.prog 19 #[.pointer (some ⟨b, 0, none⟩), .int .i64 (lvl : Int)] W (PostT b sh E d W R)
def UnaryS (sh E n : Nat) : Prop := ∀ (b d : Nat) (ts : List Tok) (R) (W : World), unaryF E sh n d ts = some R → PAt b sh E d ts W → EnvX W → LowX b →
  Calls Tryd.prog 24 #[.pointer (some ⟨b, 0, none⟩)] W (PostT b sh E d W R)
def PrimS (sh E n : Nat) : Prop := ∀ (b d : Nat) (ts : List Tok) (R) (W : World), primF E sh n d ts = some R → PAt b sh E d ts W → EnvX W → LowX b →
  Calls Tryd.prog 40 #[.pointer (some ⟨b, 0, none⟩)] W (PostT b sh E d W R)
theorem isS_len {x : List UInt8} {ts r : List Tok} (h : isS x ts = some r) : ts.length = r.length + 1 := by
  cases ts with
  | nil => cases h
  | cons t l =>
    simp only [isS] at h
    split at h
    · injection h with h; rw [h]; rfl
    · cases h
theorem pct_yes {ts r : List Tok} (x : Tr) (h : isS [37] ts = some r) : pctF x ts = pctF (.mk (parS 6 0) [x]) r := by
  cases ts with
  | nil => cases h
  | cons t l =>
    simp only [isS] at h
    split at h
    · rename_i hc
      injection h with h
      rw [pctF, if_pos hc, h]
    · cases h
theorem pct_no {ts : List Tok} (x : Tr) (h : isS [37] ts = none) : pctF x ts = (x, ts) := by
  cases ts with
  | nil => rfl
  | cons t l =>
    simp only [isS] at h
    split at h
    · cases h
    · rename_i hc
      rw [pctF, if_neg hc]
theorem unary_neg {sh E n d : Nat} {ts ts1 : List Tok} {R} (hi : isS [45] ts = some ts1) (h : unaryF E sh (n + 1) d ts = some R) :
    (d = 64 ∧ R = .error (3, posF E ts1)) ∨ (d ≠ 64 ∧ ∃ R1, unaryF E sh n (d + 1) ts1 = some R1 ∧ R = R1.map fun y => (.mk (parS 5 0) [y.1], y.2)) := by
  rw [unaryF, hi] at h
  simp only [beq_iff_eq] at h
  by_cases hd : d = 64
  · rw [if_pos hd] at h
    injection h with h
    exact .inl ⟨hd, h.symm⟩
  · rw [if_neg hd] at h
    refine .inr ⟨hd, ?_⟩
    cases hu : unaryF E sh n (d + 1) ts1 with
    | none => rw [hu] at h; cases h
    | some R1 =>
      rw [hu] at h
      rcases R1 with e | ⟨x, ts2⟩
      · injection h with h; exact ⟨_, rfl, h.symm⟩
      · injection h with h; exact ⟨_, rfl, h.symm⟩
theorem unary_no {sh E n d : Nat} {ts : List Tok} {R} (hi : isS [45] ts = none) (h : unaryF E sh (n + 1) d ts = some R) :
    ∃ R1, primF E sh n d ts = some R1 ∧ R = R1.map fun y => pctF y.1 y.2 := by
  rw [unaryF, hi] at h
  simp only at h
  cases hu : primF E sh n d ts with
  | none => rw [hu] at h; cases h
  | some R1 =>
    rw [hu] at h
    rcases R1 with e | ⟨x, ts2⟩
    · injection h with h; exact ⟨_, rfl, h.symm⟩
    · injection h with h; exact ⟨_, rfl, h.symm⟩
/-- How many tokens are left. -/
def leftAt (b : Nat) (w : World) : Nat := match w.cell? ⟨b, 0, none⟩ with | some (.slice _ n _) => n | _ => 0
theorem PAt.left {b sh E d : Nat} {ts : List Tok} {W : World} (h : PAt b sh E d ts W) : leftAt b W = ts.length := by
  obtain ⟨p, c, h⟩ := h
  simp only [leftAt, h.cells.1]
theorem PostT.ext {b sh E d : Nat} {W0 W : World} {R} {e : Ending} {w' : World} (h : PostT b sh E d W R e w') (hX : ExtX b W0 W) : PostT b sh E d W0 R e w' := by
  rcases h with ⟨x, ts, f, hR, he, hRep, hP, hE⟩ | ⟨c, p, hR, he, hE⟩
  · exact .inl ⟨x, ts, f, hR, he, hRep.imp' (fun g hg _ => Nat.le_trans hX.size hg), hP, hX.trans hE⟩
  · exact .inr ⟨c, p, hR, he, hX.trans hE⟩
set_option maxRecDepth 100000 in
set_option maxHeartbeats 8000000 in
theorem unary_w (sh E n : Nat) (hU : UnaryS sh E n) (hP : PrimS sh E n) (hen : ∀ (args : Array Value) (w : World), (callFunc 24 args).run Tryd.prog w = .ok (.enter 24 args) w) : UnaryS sh E (n + 1) := by
  intro b d ts R W hR h hE hb
  obtain ⟨W1, hW1, hE1, hG1, hL1, hS1⟩ := new_blk W zN 33
  have h1 := h.ext hE1
  have HI := Lib.hid (is_any b sh E d ts [45] W1 h1)
  have HW1 := Lib.hid hW1
  have HE1 := Lib.hid hE1
  have HG1 := Lib.hid hG1
  have HSZ := Lib.hid hS1
  have HP1 := Lib.hid h1
  have HENV := Lib.hid hE
  have HLOW := Lib.hid hb
  have HU := Lib.hid hU
  have HP := Lib.hid hP
  have HR := Lib.hid hR
  have HB := Lib.hid h.deep.2.2
  clear h h1 hW1 hE1 hG1 hL1 hS1 hE hb hU hP hR
  unfold zN at HW1
  go_enter Tryd.func24, Tryd.ntmps24
  go_upto_region 1 with (fail)
  rw [HW1.out]
  clear HW1
  go_wp2_with fail
  refine HI.out.mono ?_
  rintro e w2 (⟨ts1, hi, rfl, hP2, hX2⟩ | ⟨hi, rfl, rfl⟩)
  · have HP2 := Lib.hid hP2
    have HX2 := Lib.hid hX2
    have HX02 := Lib.hid ((ExtX.of_ext HE1.out).trans hX2)
    have HRR := Lib.hid (unary_neg hi HR.out)
    clear hP2 hX2 hi
    go_wp2_with fail
    rcases HRR.out with ⟨rfl, hRe⟩ | ⟨hd, R1, hu, hRe⟩
    · refine (inside_deep b sh E ts1 _ _ _ w2 HP2.out).mono ?_
      rintro e w3 hpost
      rcases hpost.ext HX02.out with ⟨x, ts', f, hR, -⟩ | ⟨c, p, hR, rfl, hX⟩
      · cases hR
      · exact ⟨rfl, .inr ⟨c, p, by rw [hRe, hR], rfl, hX⟩⟩
    · have hd64 : d < 64 := by have := HP2.out.lims.2.2.2.2; omega
      · have HRR1 := Lib.hid hRe
        have HUU := Lib.hid hu
        have HIN := Lib.hid (inside_any b sh E d ts1 24 #[.pointer (some ⟨b, 0, none⟩)] #[] R1 w2 HP2.out hd64 hen (fun W2 hPP hXX => HU.out b (d + 1) ts1 R1 W2 HUU.out hPP (HENV.out.extX HLOW.out (HX02.out.trans hXX)) HLOW.out))
        clear hu hd64 hd hRe
        refine HIN.out.mono ?_
        rintro e w3 (⟨x, ts', f, rfl, rfl, hRep, hP3, hX3⟩ | ⟨c, p, rfl, rfl, hX3⟩)
        case inr => exact ⟨rfl, .inr ⟨c, p, HRR1.out, rfl, HX02.out.trans hX3⟩⟩
        have HRep := Lib.hid hRep
        have HP3 := Lib.hid hP3
        have HX3 := Lib.hid hX3
        clear hRep hP3 hX3
        unfold Fl.val
        go_wp2_with fail
        refine (unary_any 5 f x (fun k => W.heap.size < k) w3 (HRep.out.imp' (fun k hk _ => by have := HX2.out.size; have := HSZ.out; omega)) (fun g hg => by have := HX2.out.size; have := HX3.out.size; have := HSZ.out; omega)).mono ?_
        rintro e w4 ⟨⟨f', rfl, hR4⟩, hE4⟩
        have HR4 := Lib.hid hR4
        have HE4 := Lib.hid hE4
        have hgR : w4.heap[W.heap.size]? = some (.cells zN 33 (0, 0)) := hE4.blk (HX3.out.blk (HX2.out.blk HG1.out (by have := HB.out; omega)) (by have := HB.out; omega))
        clear hR4 hE4
        unfold zN at hgR
        unfold Fl.val
        go_wp2_with (first | ((with_reducible refine wpl_guard (isStore 33) ?_ ?_); (· rfl); refine wpl_store (t := ?_) (old := ?_) (w' := ?_) rfl 33 _ _ rfl rfl rfl ?_ ?_ ?_ ?_ ?_ ?_; rotate_left 2; (· (first | (with_reducible assumption) | (simp (disch := (first | omega | (simp only [World.size_alloc, World.size_setCell, World.size_drew, size_setRow]; done) | (simp only [World.size_alloc, World.size_setCell, World.size_drew, size_setRow]; omega))) only [hq_at, hq_past, hq_drew, hq_drewN, hq_cell, hq_row, hq_same, rowOf_cells, Option.map_some, *]; rfl) | (simp (disch := (first | omega | (simp only [World.size_alloc, World.size_setCell, World.size_drew, size_setRow]; done) | (simp only [World.size_alloc, World.size_setCell, World.size_drew, size_setRow]; omega))) only [hq_at, hq_past, hq_drew, hq_drewN, hq_cell, hq_row, hq_same, rowOf_cells, Option.map_some, *]))); (· kernel_rfl); (· rfl); (· rfl); rotate_left 1; (· (first | (simp (disch := (first | omega | (simp only [World.size_alloc, World.size_setCell, World.size_drew, size_setRow]; done) | (simp only [World.size_alloc, World.size_setCell, World.size_drew, size_setRow]; omega))) only [setRow_at, setRow_past, setRow_drew]; rfl) | rfl))))
        refine par_end rfl HB.out (Nat.le_refl _) (HX02.out.trans (HX3.out.trans (.of_ext HE4.out))) (HP3.out.ext HE4.out) hgR (HR4.out.imp' (fun k hk _ => ⟨by omega, by omega⟩)) HRR1.out rfl rfl
  · obtain ⟨R1, hu, hRe⟩ := unary_no hi HR.out
    · have HRR1 := Lib.hid hRe
      have HIN := Lib.hid (HP.out b d ts R1 w2 hu HP1.out (HENV.out.ext HE1.out) HLOW.out)
      clear hRe hu hi
      go_wp2_with fail
      refine HIN.out.mono ?_
      rintro e w3 (⟨x, ts', f, rfl, rfl, hRep, hP3, hX3⟩ | ⟨c, p, rfl, rfl, hX3⟩)
      case inr => exact ⟨rfl, .inr ⟨c, p, HRR1.out, rfl, (ExtX.of_ext HE1.out).trans hX3⟩⟩
      have HRF := HRR1
      obtain ⟨W4, hW4, hE4, hG4, hL4, hS4⟩ := new_blk w3 f.cells 33
      have HW4 := Lib.hid hW4
      have HE4 := Lib.hid hE4
      have HG4 := Lib.hid hG4
      have HS4 := Lib.hid hS4
      have HRep := Lib.hid hRep
      have HP3 := Lib.hid hP3
      have HX3 := Lib.hid hX3
      clear hW4 hE4 hG4 hL4 hS4 hRep hP3 hX3 HRR1
      obtain ⟨g3, hg3⟩ : ∃ g, w3.heap.size = g := ⟨_, rfl⟩
      have HG32 : Hid (w2.heap.size ≤ g3) := Lib.hid (by have := HX3.out.size; omega)
      have HG3 : Hid (W.heap.size < g3 ∧ b < g3) := Lib.hid (by have := HX3.out.size; have := HSZ.out; have := HB.out; omega)
      unfold Fl.val
      go_wp2_with (first | ((with_reducible refine wpl_guard (isStore 33) ?_ ?_); (· rfl); refine wpl_store (t := ?_) (old := ?_) (w' := ?_) rfl 33 _ _ rfl rfl rfl ?_ ?_ ?_ ?_ ?_ ?_; rotate_left 2; (· (first | (with_reducible assumption) | (simp (disch := (first | omega | (simp only [World.size_alloc, World.size_setCell, World.size_drew, size_setRow]; done) | (simp only [World.size_alloc, World.size_setCell, World.size_drew, size_setRow]; omega))) only [hq_at, hq_past, hq_drew, hq_drewN, hq_cell, hq_row, hq_same, rowOf_cells, Option.map_some, *]; rfl) | (simp (disch := (first | omega | (simp only [World.size_alloc, World.size_setCell, World.size_drew, size_setRow]; done) | (simp only [World.size_alloc, World.size_setCell, World.size_drew, size_setRow]; omega))) only [hq_at, hq_past, hq_drew, hq_drewN, hq_cell, hq_row, hq_same, rowOf_cells, Option.map_some, *]))); (· kernel_rfl); (· rfl); (· rfl); rotate_left 1; (· (first | (simp (disch := (first | omega | (simp only [World.size_alloc, World.size_setCell, World.size_drew, size_setRow]; done) | (simp only [World.size_alloc, World.size_setCell, World.size_drew, size_setRow]; omega))) only [setRow_at, setRow_past, setRow_drew]; rfl) | rfl))))
      rw [HW4.out]
      simp only [Act.put]
      clear HW4
      rw [hg3] at HG4 HS4
      go_loopw [14] (fun _ wr => ∃ x' ts'' f', Hid (PAt b sh E d ts'' wr) ∧ Hid (ExtX b w2 wr) ∧ Hid (wr.heap[g3]? = some (.cells (Fl.cells f') 33 (0, 0))) ∧ Hid (Rep wr (fun k => W.heap.size < k ∧ k ≠ g3) x' f') ∧ Hid (pctF x ts' = pctF x' ts'')) (fun _ wr => leftAt b wr)
      case atStart =>
        exact ⟨x, ts', f, Lib.hid (HP3.out.ext HE4.out), Lib.hid (HX3.out.trans (.of_ext HE4.out)), HG4, Lib.hid ((HRep.out.imp' (fun k hk hlt => ⟨by have := HSZ.out; omega, by omega⟩)).ext HE4.out), Lib.hid rfl⟩
      case round =>
        obtain ⟨x', ts'', f', HPr, HXr, HGr, HRr, HV⟩ := hrel
        have hgr := HGr.out
        clear hg3
        go_wp2_with (fail)
        refine (is_any b sh E d ts'' [37] wr HPr.out).mono ?_
        rintro e w5 (⟨ts3, hi, rfl, hP5, hX5⟩ | ⟨hi, rfl, rfl⟩)
        · have hv := HV.out.trans (pct_yes x' hi)
          have hlen := isS_len hi
          have hl := HPr.out.left
          have HV5 := Lib.hid hv
          have HP5 := Lib.hid hP5
          have HX5 := Lib.hid hX5
          have HLEN := Lib.hid (show ts3.length < leftAt b wr by omega)
          have hgr5 : w5.heap[g3]? = some (.cells f'.cells 33 (0, 0)) := hX5.blk hgr (by have := HG3.out; omega)
          have hlt5 := blk_lt hgr5
          have HR5 : Hid (Rep w5 (fun k => W.heap.size < k ∧ k ≠ g3) x' f') := Lib.hid (HRr.out.keeps (hX5.keeps (by have := HB.out; omega)))
          have C5 := Lib.hid (unary_any 6 f' x' (fun k => W.heap.size < k ∧ k ≠ g3) w5 HR5.out (fun g hg => ⟨by have := HG3.out; omega, by omega⟩))
          clear hgr hi hP5 hX5 hv hlen hl hlt5
          unfold Fl.val at C5
          go_wp2_with (first | ((with_reducible refine wpl_guard (isLoad 33) ?_ ?_); (· rfl); refine wpl_load (t := ?_) (cs := ?_) (fr := ?_) rfl 33 _ rfl rfl ?_ Tryd.underlying33 rfl ?_ ?_; rotate_left 3; (· (first | (with_reducible assumption) | (simp (disch := (first | omega | (simp only [World.size_alloc, World.size_setCell, World.size_drew, size_setRow]; done) | (simp only [World.size_alloc, World.size_setCell, World.size_drew, size_setRow]; omega))) only [hq_at, hq_past, hq_drew, hq_drewN, hq_cell, hq_row, hq_same, rowOf_cells, Option.map_some, *]; rfl) | (simp (disch := (first | omega | (simp only [World.size_alloc, World.size_setCell, World.size_drew, size_setRow]; done) | (simp only [World.size_alloc, World.size_setCell, World.size_drew, size_setRow]; omega))) only [hq_at, hq_past, hq_drew, hq_drewN, hq_cell, hq_row, hq_same, rowOf_cells, Option.map_some, *]))); (· kernel_rfl); (try dsimp only [Act.put, List.setIfInBounds_toArray, List.set_cons_zero, List.set_cons_succ])))
          refine C5.out.mono ?_
          rintro e w6 ⟨⟨f6, rfl, hR6⟩, hE6⟩
          have hg6 : w6.heap[g3]? = some (.cells f'.cells 33 (0, 0)) := hE6.blk hgr5
          have HR6 := Lib.hid hR6
          have HE6 := Lib.hid hE6
          have HG6 := Lib.hid hg6
          clear hR6 hE6 hgr5
          go_wp2_with (first | ((with_reducible refine wpl_guard (isStore 33) ?_ ?_); (· rfl); refine wpl_store (t := ?_) (old := ?_) (w' := ?_) rfl 33 _ _ rfl rfl rfl ?_ ?_ ?_ ?_ ?_ ?_; rotate_left 2; (· (first | (with_reducible assumption) | (simp (disch := (first | omega | (simp only [World.size_alloc, World.size_setCell, World.size_drew, size_setRow]; done) | (simp only [World.size_alloc, World.size_setCell, World.size_drew, size_setRow]; omega))) only [hq_at, hq_past, hq_drew, hq_drewN, hq_cell, hq_row, hq_same, rowOf_cells, Option.map_some, *]; rfl) | (simp (disch := (first | omega | (simp only [World.size_alloc, World.size_setCell, World.size_drew, size_setRow]; done) | (simp only [World.size_alloc, World.size_setCell, World.size_drew, size_setRow]; omega))) only [hq_at, hq_past, hq_drew, hq_drewN, hq_cell, hq_row, hq_same, rowOf_cells, Option.map_some, *]))); (· kernel_rfl); (· rfl); (· rfl); rotate_left 1; (· (first | (simp (disch := (first | omega | (simp only [World.size_alloc, World.size_setCell, World.size_drew, size_setRow]; done) | (simp only [World.size_alloc, World.size_setCell, World.size_drew, size_setRow]; omega))) only [setRow_at, setRow_past, setRow_drew]; rfl) | rfl))))
          have HP7 : Hid (PAt b sh E d ts3 (w6.setRow g3 f6.cells)) := Lib.hid ((HP5.out.ext HE6.out).row HG3.out.2 _)
          have HX7 : Hid (ExtX b w2 (w6.setRow g3 f6.cells)) := Lib.hid (((HXr.out.trans HX5.out).trans (ExtX.of_ext HE6.out)).row HG32.out _)
          simp only [Act.put]
          refine ⟨⟨_, _, _, _, ⟨.mk (parS 6 0) [x'], ts3, f6, HP7, HX7, Lib.hid ?_, Lib.hid ?_, HV5⟩, rfl⟩, ?_⟩
          · rw [hq_same rfl, HG6.out]; rfl
          · exact HR6.out.keeps (fun k hk _ => setRow_other w6 _ k _ hk.2)
          · rw [HP7.out.left]; exact HLEN.out
        · have hv := HV.out.trans (pct_no x' hi)
          have HV5 := Lib.hid hv
          have hgR : w5.heap[W.heap.size]? = some (.cells zN 33 (0, 0)) := HXr.out.blk HG1.out (by have := HB.out; omega)
          clear hv hi
          unfold zN at hgR
          go_wp2_with (first | ((with_reducible refine wpl_guard (isLoad 33) ?_ ?_); (· rfl); refine wpl_load (t := ?_) (cs := ?_) (fr := ?_) rfl 33 _ rfl rfl ?_ Tryd.underlying33 rfl ?_ ?_; rotate_left 3; (· (first | (with_reducible assumption) | (simp (disch := (first | omega | (simp only [World.size_alloc, World.size_setCell, World.size_drew, size_setRow]; done) | (simp only [World.size_alloc, World.size_setCell, World.size_drew, size_setRow]; omega))) only [hq_at, hq_past, hq_drew, hq_drewN, hq_cell, hq_row, hq_same, rowOf_cells, Option.map_some, *]; rfl) | (simp (disch := (first | omega | (simp only [World.size_alloc, World.size_setCell, World.size_drew, size_setRow]; done) | (simp only [World.size_alloc, World.size_setCell, World.size_drew, size_setRow]; omega))) only [hq_at, hq_past, hq_drew, hq_drewN, hq_cell, hq_row, hq_same, rowOf_cells, Option.map_some, *]))); (· kernel_rfl); (try dsimp only [Act.put, List.setIfInBounds_toArray, List.set_cons_zero, List.set_cons_succ])) | ((with_reducible refine wpl_guard (isStore 33) ?_ ?_); (· rfl); refine wpl_store (t := ?_) (old := ?_) (w' := ?_) rfl 33 _ _ rfl rfl rfl ?_ ?_ ?_ ?_ ?_ ?_; rotate_left 2; (· (first | (with_reducible assumption) | (simp (disch := (first | omega | (simp only [World.size_alloc, World.size_setCell, World.size_drew, size_setRow]; done) | (simp only [World.size_alloc, World.size_setCell, World.size_drew, size_setRow]; omega))) only [hq_at, hq_past, hq_drew, hq_drewN, hq_cell, hq_row, hq_same, rowOf_cells, Option.map_some, *]; rfl) | (simp (disch := (first | omega | (simp only [World.size_alloc, World.size_setCell, World.size_drew, size_setRow]; done) | (simp only [World.size_alloc, World.size_setCell, World.size_drew, size_setRow]; omega))) only [hq_at, hq_past, hq_drew, hq_drewN, hq_cell, hq_row, hq_same, rowOf_cells, Option.map_some, *]))); (· kernel_rfl); (· rfl); (· rfl); rotate_left 1; (· (first | (simp (disch := (first | omega | (simp only [World.size_alloc, World.size_setCell, World.size_drew, size_setRow]; done) | (simp only [World.size_alloc, World.size_setCell, World.size_drew, size_setRow]; omega))) only [setRow_at, setRow_past, setRow_drew]; rfl) | rfl))))
          refine par_end rfl HB.out (Nat.le_refl _) ((ExtX.of_ext HE1.out).trans HXr.out) HPr.out hgR (HRr.out.imp' (fun k hk _ => ⟨by omega, by omega⟩)) ?_ rfl rfl
          rw [HRF.out]
          simp only [Except.map, HV5.out]
end Go.Proofs.YtffogjhjgmohiaaDoor
