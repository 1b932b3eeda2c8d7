/-
  parse: primary: walk. Conditions: each theorem's own.
-/
import Derived.Test.YtffogjhjgmohiaaDoorParJ
import Derived.BigRegion
namespace Go.Proofs.YtffogjhjgmohiaaDoor
open Go.RowKit
set_option linter.unusedVariables false
set_option linter.unusedSimpArgs false

/-- A box that holds the parser's address. -/
def BoxP (B b : Nat) (W : World) : Prop := W.heap[B]? = some (.cells #[.pointer (some ⟨b, 0, none⟩)] 53 (0, 0))
set_option maxRecDepth 100000 in
set_option maxHeartbeats 8000000 in
theorem prim1_any (sh E n B b d : Nat) (ts : List Tok) (R) (W : World) (hX : ExprS sh E n) (hR : exprF E sh n 0 d ts = some R) (h : PAt b sh E d ts W) (hE : EnvX W) (hb : LowX b) (hB : BoxP B b W) :
    Calls Tryd.prog 46 #[.pointer (some ⟨B, 0, none⟩)] W (PostT b sh E d W R) := by
  obtain ⟨W1, hW1, hE1, hG1, hL1, hS1⟩ := new_blk W zN 33
  have CU := Lib.hid (hX b d 0 ts R W1 hR (by omega) (h.ext hE1) (hE.ext hE1) hb)
  have hc := cell_of_row W1 B 0 _ _ _ (hE1.blk hB)
  simp only [List.getElem?_toArray, List.getElem?_cons_zero] at hc
  have HW1 := Lib.hid hW1
  have HE1 := Lib.hid hE1
  have HG1 := Lib.hid hG1
  have HSZ := Lib.hid hS1
  have HB := Lib.hid h.deep.2.2
  clear h hW1 hE1 hG1 hL1 hS1 hE hb hX hR hB
  unfold zN at HW1
  go_enter Tryd.func46, Tryd.ntmps46
  go_upto_region 1 with (fail)
  rw [HW1.out]
  clear HW1
  go_wp2_with fail
  refine CU.out.mono ?_
  rintro e w2 (⟨x, ts', f, rfl, rfl, hRep, hP2, hX2⟩ | ⟨c, p, rfl, rfl, hX2⟩)
  case inr => exact ⟨rfl, .inr ⟨c, p, rfl, rfl, (ExtX.of_ext HE1.out).trans hX2⟩⟩
  have HRep := Lib.hid hRep
  have HP2 := Lib.hid hP2
  have HX2 := Lib.hid hX2
  have hgR : w2.heap[W.heap.size]? = some (.cells zN 33 (0, 0)) := hX2.blk HG1.out (by have := HB.out; omega)
  clear hRep hP2 hX2
  unfold zN at hgR
  unfold Fl.val
  go_wp2_with (first | ((with_reducible refine wpl_guard (isStore 33) ?_ ?_); (· rfl); refine wpl_store (t := ?_) (old := ?_) (w' := ?_) rfl 33 _ _ rfl rfl rfl ?_ ?_ ?_ ?_ ?_ ?_; rotate_left 2; (· (first | (with_reducible assumption) | (simp (disch := (first | omega | (simp only [World.size_alloc, World.size_setCell, World.size_drew, size_setRow]; done) | (simp only [World.size_alloc, World.size_setCell, World.size_drew, size_setRow]; omega))) only [hq_at, hq_past, hq_drew, hq_drewN, hq_cell, hq_row, hq_same, rowOf_cells, Option.map_some, *]; rfl) | (simp (disch := (first | omega | (simp only [World.size_alloc, World.size_setCell, World.size_drew, size_setRow]; done) | (simp only [World.size_alloc, World.size_setCell, World.size_drew, size_setRow]; omega))) only [hq_at, hq_past, hq_drew, hq_drewN, hq_cell, hq_row, hq_same, rowOf_cells, Option.map_some, *]))); (· kernel_rfl); (· rfl); (· rfl); rotate_left 1; (· (first | (simp (disch := (first | omega | (simp only [World.size_alloc, World.size_setCell, World.size_drew, size_setRow]; done) | (simp only [World.size_alloc, World.size_setCell, World.size_drew, size_setRow]; omega))) only [setRow_at, setRow_past, setRow_drew]; rfl) | rfl))))
  exact par_end rfl HB.out (Nat.le_refl _) ((ExtX.of_ext HE1.out).trans HX2.out) HP2.out hgR (HRep.out.imp' (fun k hk _ => by have := HSZ.out; omega)) rfl rfl rfl
set_option maxRecDepth 100000 in
set_option maxHeartbeats 8000000 in
theorem call1_any (sh E n B b d : Nat) (ts : List Tok) (R) (W : World) (hX : ExprS sh E n) (hR : exprF E sh n 0 d ts = some R) (h : PAt b sh E d ts W) (hE : EnvX W) (hb : LowX b) (hB : BoxP B b W) :
    Calls Tryd.prog 69 #[.pointer (some ⟨B, 0, none⟩)] W (PostT b sh E d W R) := by
  obtain ⟨W1, hW1, hE1, hG1, hL1, hS1⟩ := new_blk W zN 33
  have CU := Lib.hid (hX b d 0 ts R W1 hR (by omega) (h.ext hE1) (hE.ext hE1) hb)
  have hc := cell_of_row W1 B 0 _ _ _ (hE1.blk hB)
  simp only [List.getElem?_toArray, List.getElem?_cons_zero] at hc
  have HW1 := Lib.hid hW1
  have HE1 := Lib.hid hE1
  have HG1 := Lib.hid hG1
  have HSZ := Lib.hid hS1
  have HB := Lib.hid h.deep.2.2
  clear h hW1 hE1 hG1 hL1 hS1 hE hb hX hR hB
  unfold zN at HW1
  go_enter Tryd.func69, Tryd.ntmps69
  go_upto_region 1 with (fail)
  rw [HW1.out]
  clear HW1
  go_wp2_with fail
  refine CU.out.mono ?_
  rintro e w2 (⟨x, ts', f, rfl, rfl, hRep, hP2, hX2⟩ | ⟨c, p, rfl, rfl, hX2⟩)
  case inr => exact ⟨rfl, .inr ⟨c, p, rfl, rfl, (ExtX.of_ext HE1.out).trans hX2⟩⟩
  have HRep := Lib.hid hRep
  have HP2 := Lib.hid hP2
  have HX2 := Lib.hid hX2
  have hgR : w2.heap[W.heap.size]? = some (.cells zN 33 (0, 0)) := hX2.blk HG1.out (by have := HB.out; omega)
  clear hRep hP2 hX2
  unfold zN at hgR
  unfold Fl.val
  go_wp2_with (first | ((with_reducible refine wpl_guard (isStore 33) ?_ ?_); (· rfl); refine wpl_store (t := ?_) (old := ?_) (w' := ?_) rfl 33 _ _ rfl rfl rfl ?_ ?_ ?_ ?_ ?_ ?_; rotate_left 2; (· (first | (with_reducible assumption) | (simp (disch := (first | omega | (simp only [World.size_alloc, World.size_setCell, World.size_drew, size_setRow]; done) | (simp only [World.size_alloc, World.size_setCell, World.size_drew, size_setRow]; omega))) only [hq_at, hq_past, hq_drew, hq_drewN, hq_cell, hq_row, hq_same, rowOf_cells, Option.map_some, *]; rfl) | (simp (disch := (first | omega | (simp only [World.size_alloc, World.size_setCell, World.size_drew, size_setRow]; done) | (simp only [World.size_alloc, World.size_setCell, World.size_drew, size_setRow]; omega))) only [hq_at, hq_past, hq_drew, hq_drewN, hq_cell, hq_row, hq_same, rowOf_cells, Option.map_some, *]))); (· kernel_rfl); (· rfl); (· rfl); rotate_left 1; (· (first | (simp (disch := (first | omega | (simp only [World.size_alloc, World.size_setCell, World.size_drew, size_setRow]; done) | (simp only [World.size_alloc, World.size_setCell, World.size_drew, size_setRow]; omega))) only [setRow_at, setRow_past, setRow_drew]; rfl) | rfl))))
  exact par_end rfl HB.out (Nat.le_refl _) ((ExtX.of_ext HE1.out).trans HX2.out) HP2.out hgR (HRep.out.imp' (fun k hk _ => by have := HSZ.out; omega)) rfl rfl rfl
theorem prim1_enter : ∀ (args : Array Value) (w : World), (callFunc 46 args).run Tryd.prog w = .ok (.enter 46 args) w := enters_of Tryd.func46 (by kernel_rfl) rfl
theorem call1_enter : ∀ (args : Array Value) (w : World), (callFunc 69 args).run Tryd.prog w = .ok (.enter 69 args) w := enters_of Tryd.func69 (by kernel_rfl) rfl
theorem unary_enter : ∀ (args : Array Value) (w : World), (callFunc 24 args).run Tryd.prog w = .ok (.enter 24 args) w := enters_of Tryd.func24 (by kernel_rfl) rfl
set_option maxRecDepth 100000 in
set_option maxHeartbeats 8000000 in
theorem prim_par_w (sh E n : Nat) (hX : ExprS sh E n) (b d : Nat) (ts ts1 : List Tok) (R) (W : World) (hi : isS [40] ts = some ts1) (hR : primF E sh (n + 1) d ts = some R) (h : PAt b sh E d ts W) (hE : EnvX W) (hb : LowX b) :
    Calls Tryd.prog 40 #[.pointer (some ⟨b, 0, none⟩)] W (PostT b sh E d W R) := by
  obtain ⟨W0, hW0, hE0, hG0, hL0, hS0⟩ := new_blk W #[.pointer (some ⟨b, 0, none⟩)] 53
  obtain ⟨W1, hW1, hE1, hG1, hL1, hS1⟩ := new_blk W0 zN 33
  rw [hS0] at hG1
  have HP1 := Lib.hid (h.ext (hE0.trans hE1))
  have HI := Lib.hid (is_any b sh E d ts [40] W1 HP1.out)
  have HW0 := Lib.hid hW0
  have HW1 := Lib.hid hW1
  have HE1 := Lib.hid (hE0.trans hE1)
  have HG0 := Lib.hid (hE1.blk hG0)
  have HG1 := Lib.hid hG1
  have HSZ : Hid (W1.heap.size = W.heap.size + 2) := Lib.hid (by omega)
  have HENV := Lib.hid hE
  have HLOW := Lib.hid hb
  have HB := Lib.hid h.deep.2.2
  have HX := Lib.hid hX
  have HRR := Lib.hid (prim_par hi hR)
  have HII := Lib.hid hi
  have hc := cell_of_row W1 W.heap.size 0 _ _ _ HG0.out
  simp only [List.getElem?_toArray, List.getElem?_cons_zero] at hc
  clear h hW0 hE0 hG0 hL0 hS0 hW1 hE1 hG1 hL1 hS1 hE hb hX hR hi
  unfold zN at HW1
  go_enter Tryd.func40, Tryd.ntmps40
  go_upto_region 1 with (fail)
  rw [HW0.out, HW1.out]
  clear HW0 HW1
  go_wp2_with fail
  refine HI.out.mono ?_
  rintro e w2 (⟨ts2, hi, rfl, hP2, hX2⟩ | ⟨hi, -⟩)
  case inr => rw [HII.out] at hi; cases hi
  obtain rfl : ts2 = ts1 := by rw [HII.out] at hi; injection hi with hi; exact hi.symm
  have HP2 := Lib.hid hP2
  have HX2 := Lib.hid hX2
  have HX02 := Lib.hid ((ExtX.of_ext HE1.out).trans hX2)
  have HG02 := Lib.hid (hX2.blk HG0.out (by have := HB.out; omega))
  have hc2 := cell_of_row w2 W.heap.size 0 _ _ _ HG02.out
  simp only [List.getElem?_toArray, List.getElem?_cons_zero] at hc2
  clear hP2 hX2 hi hc
  go_wp2_with fail
  rcases HRR.out with ⟨rfl, hRe⟩ | ⟨hd, R1, hu, hRe⟩
  · refine (inside_deep b sh E ts2 _ _ _ w2 HP2.out).mono ?_
    rintro e w3 hpost
    rcases hpost.ext HX02.out with ⟨x, ts', f, hR, -⟩ | ⟨c, p, hR, rfl, hX⟩
    · cases hR
    · exact ⟨rfl, .inr ⟨c, p, by rw [hRe, hR], rfl, hX⟩⟩
  have hd64 : d < 64 := by have := HP2.out.lims.2.2.2.2; omega
  have HRR1 := Lib.hid hRe
  have HUU := Lib.hid hu
  have HIN := Lib.hid (inside_any b sh E d ts2 46 #[] #[.pointer (some ⟨W.heap.size, 0, none⟩)] R1 w2 HP2.out hd64 prim1_enter (fun W2 hPP hXX => prim1_any sh E n W.heap.size b (d + 1) ts2 R1 W2 HX.out HUU.out hPP (HENV.out.extX HLOW.out (HX02.out.trans hXX)) HLOW.out (hXX.blk HG02.out (by have := HB.out; omega))))
  clear hu hd64 hd hRe
  refine HIN.out.mono ?_
  rintro e w3 (⟨x, ts', f, rfl, rfl, hRep, hP3, hX3⟩ | ⟨c, p, rfl, rfl, hX3⟩)
  case inr => exact ⟨rfl, .inr ⟨c, p, HRR1.out, rfl, HX02.out.trans hX3⟩⟩
  have hRF : R = shutP E (x, ts') := HRR1.out
  have HRF := Lib.hid hRF
  obtain ⟨W4, hW4, hE4, hG4, hL4, hS4⟩ := new_blk w3 f.cells 33
  obtain ⟨g3, hg3⟩ : ∃ g, w3.heap.size = g := ⟨_, rfl⟩
  have HG3 : Hid (W.heap.size + 1 < g3 ∧ b < g3) := Lib.hid (by have := hX3.size; have := HX2.out.size; have := HSZ.out; have := HB.out; omega)
  rw [hg3] at hG4
  have HW4 := Lib.hid hW4
  have HE4 := Lib.hid hE4
  have HG4 := Lib.hid hG4
  have HRep : Hid (Rep w3 (fun k => W.heap.size + 1 < k ∧ k ≠ g3) x f) := Lib.hid (hRep.imp' (fun k hk hlt => by have := HX2.out.size; have := HSZ.out; omega))
  have HP4 := Lib.hid (hP3.ext hE4)
  have HX34 := Lib.hid (hX3.trans (.of_ext hE4))
  have HWN := Lib.hid (want_any b sh E d ts' [41] W4 (hP3.ext hE4))
  have hc4 := cell_of_row W4 W.heap.size 0 _ _ _ (HX34.out.blk HG02.out (by have := HB.out; omega))
  simp only [List.getElem?_toArray, List.getElem?_cons_zero] at hc4
  clear hW4 hE4 hG4 hL4 hS4 hRep hP3 hX3 hRF HRR1 hc2
  unfold Fl.val
  go_upto_region 3 with (first | ((with_reducible refine wpl_guard (isStore 33) ?_ ?_); (· rfl); refine wpl_store (t := ?_) (old := ?_) (w' := ?_) rfl 33 _ _ rfl rfl rfl ?_ ?_ ?_ ?_ ?_ ?_; rotate_left 2; (· (first | (with_reducible assumption) | (simp (disch := (first | omega | (simp only [World.size_alloc, World.size_setCell, World.size_drew, size_setRow]; done) | (simp only [World.size_alloc, World.size_setCell, World.size_drew, size_setRow]; omega))) only [hq_at, hq_past, hq_drew, hq_drewN, hq_cell, hq_row, hq_same, rowOf_cells, Option.map_some, *]; rfl) | (simp (disch := (first | omega | (simp only [World.size_alloc, World.size_setCell, World.size_drew, size_setRow]; done) | (simp only [World.size_alloc, World.size_setCell, World.size_drew, size_setRow]; omega))) only [hq_at, hq_past, hq_drew, hq_drewN, hq_cell, hq_row, hq_same, rowOf_cells, Option.map_some, *]))); (· kernel_rfl); (· rfl); (· rfl); rotate_left 1; (· (first | (simp (disch := (first | omega | (simp only [World.size_alloc, World.size_setCell, World.size_drew, size_setRow]; done) | (simp only [World.size_alloc, World.size_setCell, World.size_drew, size_setRow]; omega))) only [setRow_at, setRow_past, setRow_drew]; rfl) | rfl))))
  rw [HW4.out]
  clear HW4
  go_wp2_with fail
  refine HWN.out.mono ?_
  rintro e w5 (⟨ts3, hj, rfl, hP5, hX5⟩ | ⟨hj, rfl, rfl⟩)
  case inr => exact ⟨rfl, .inr ⟨2, posF E ts', by rw [HRF.out, shutP]; simp only [hj], rfl, HX02.out.trans HX34.out⟩⟩
  have HRE : Hid (R = .ok (x, ts3)) := Lib.hid (by rw [HRF.out, shutP]; simp only [hj])
  have HP5 := Lib.hid hP5
  have HX5 := Lib.hid hX5
  have hg5 : w5.heap[g3]? = some (.cells f.cells 33 (0, 0)) := hX5.blk HG4.out (by have := HG3.out; omega)
  have hgR : w5.heap[W.heap.size + 1]? = some (.cells zN 33 (0, 0)) := hX5.blk (HX34.out.blk (HX2.out.blk HG1.out (by have := HB.out; omega)) (by have := HB.out; omega)) (by have := HB.out; omega)
  clear hj hP5 hX5 hc4 hg3
  unfold zN at hgR
  go_wp2_with (first | ((with_reducible refine wpl_guard (isLoad 33) ?_ ?_); (· rfl); refine wpl_load (t := ?_) (cs := ?_) (fr := ?_) rfl 33 _ rfl rfl ?_ Tryd.underlying33 rfl ?_ ?_; rotate_left 3; (· (first | (with_reducible assumption) | (simp (disch := (first | omega | (simp only [World.size_alloc, World.size_setCell, World.size_drew, size_setRow]; done) | (simp only [World.size_alloc, World.size_setCell, World.size_drew, size_setRow]; omega))) only [hq_at, hq_past, hq_drew, hq_drewN, hq_cell, hq_row, hq_same, rowOf_cells, Option.map_some, *]; rfl) | (simp (disch := (first | omega | (simp only [World.size_alloc, World.size_setCell, World.size_drew, size_setRow]; done) | (simp only [World.size_alloc, World.size_setCell, World.size_drew, size_setRow]; omega))) only [hq_at, hq_past, hq_drew, hq_drewN, hq_cell, hq_row, hq_same, rowOf_cells, Option.map_some, *]))); (· kernel_rfl); (try dsimp only [Act.put, List.setIfInBounds_toArray, List.set_cons_zero, List.set_cons_succ])) | ((with_reducible refine wpl_guard (isStore 33) ?_ ?_); (· rfl); refine wpl_store (t := ?_) (old := ?_) (w' := ?_) rfl 33 _ _ rfl rfl rfl ?_ ?_ ?_ ?_ ?_ ?_; rotate_left 2; (· (first | (with_reducible assumption) | (simp (disch := (first | omega | (simp only [World.size_alloc, World.size_setCell, World.size_drew, size_setRow]; done) | (simp only [World.size_alloc, World.size_setCell, World.size_drew, size_setRow]; omega))) only [hq_at, hq_past, hq_drew, hq_drewN, hq_cell, hq_row, hq_same, rowOf_cells, Option.map_some, *]; rfl) | (simp (disch := (first | omega | (simp only [World.size_alloc, World.size_setCell, World.size_drew, size_setRow]; done) | (simp only [World.size_alloc, World.size_setCell, World.size_drew, size_setRow]; omega))) only [hq_at, hq_past, hq_drew, hq_drewN, hq_cell, hq_row, hq_same, rowOf_cells, Option.map_some, *]))); (· kernel_rfl); (· rfl); (· rfl); rotate_left 1; (· (first | (simp (disch := (first | omega | (simp only [World.size_alloc, World.size_setCell, World.size_drew, size_setRow]; done) | (simp only [World.size_alloc, World.size_setCell, World.size_drew, size_setRow]; omega))) only [setRow_at, setRow_past, setRow_drew]; rfl) | rfl))))
  exact par_end rfl HB.out (Nat.le_succ _) (HX02.out.trans (HX34.out.trans HX5.out)) HP5.out hgR (((HRep.out.ext HE4.out).keeps (HX5.out.keeps (by have := HB.out; omega))).imp' (fun k hk _ => by omega)) HRE.out rfl rfl
theorem num_le {l : List UInt8} {n : Nat} (h : Num.parse l = some n) : n ≤ 9223372036854775807 := by
  unfold Num.parse at h
  cases hp : Num.pv l 0 (-1) 0 with
  | none => rw [hp] at h; cases h
  | some x =>
    obtain ⟨m, p, d⟩ := x
    rw [hp] at h
    simp only [Num.pend] at h
    split at h
    · cases h
    · rename_i hc
      injection h with h
      omega
set_option maxRecDepth 100000 in
set_option maxHeartbeats 8000000 in
theorem prim_no_w (sh E n : Nat) (hW : WordS sh E n) (b d : Nat) (ts : List Tok) (R) (W : World) (hi : isS [40] ts = none) (hR : primF E sh (n + 1) d ts = some R) (h : PAt b sh E d ts W) (hE : EnvX W) (hb : LowX b) :
    Calls Tryd.prog 40 #[.pointer (some ⟨b, 0, none⟩)] W (PostT b sh E d W R) := by
  obtain ⟨W0, hW0, hE0, hG0, hL0, hS0⟩ := new_blk W #[.pointer (some ⟨b, 0, none⟩)] 53
  obtain ⟨W1, hW1, hE1, hG1, hL1, hS1⟩ := new_blk W0 zN 33
  rw [hS0] at hG1
  have HP1 := Lib.hid (h.ext (hE0.trans hE1))
  have HI := Lib.hid (is_any b sh E d ts [40] W1 HP1.out)
  have HF1 := Lib.hid (fail_at b sh E d ts 2 W1 HP1.out)
  have HW0 := Lib.hid hW0
  have HW1 := Lib.hid hW1
  have HE1 := Lib.hid (hE0.trans hE1)
  have HG0 := Lib.hid (hE1.blk hG0)
  have HG1 := Lib.hid hG1
  have HSZ : Hid (W1.heap.size = W.heap.size + 2) := Lib.hid (by omega)
  have HENV := Lib.hid hE
  have HLOW := Lib.hid hb
  have HB := Lib.hid h.deep.2.2
  have HWD := Lib.hid hW
  have HRR := Lib.hid (prim_no hi hR)
  have HII := Lib.hid hi
  have hc := cell_of_row W1 W.heap.size 0 _ _ _ HG0.out
  simp only [List.getElem?_toArray, List.getElem?_cons_zero] at hc
  clear h hW0 hE0 hG0 hL0 hS0 hW1 hE1 hG1 hL1 hS1 hE hb hW hR hi
  unfold zN at HW1
  go_enter Tryd.func40, Tryd.ntmps40
  go_upto_region 1 with (fail)
  rw [HW0.out, HW1.out]
  clear HW0 HW1
  go_wp2_with fail
  refine HI.out.mono ?_
  rintro e w2 (⟨ts2, hi, -⟩ | ⟨hi, rfl, rfl⟩)
  case inl => rw [HII.out] at hi; cases hi
  clear hi
  obtain ⟨p, cap, h⟩ := HP1.out
  rcases HRR.out with ⟨rfl, hRe⟩ | ⟨t, r, rfl, hcase⟩
  · obtain ⟨c0, c1, c2, c3⟩ := h.cells
    clear h
    go_wp2_with fail
    refine HF1.out.mono ?_
    rintro e w3 ⟨rfl, rfl⟩
    exact ⟨rfl, .inr ⟨2, _, by first | exact hRe | rfl, rfl, .of_ext HE1.out⟩⟩
  obtain ⟨N, hN⟩ : ∃ N, r.length = N := ⟨_, rfl⟩
  obtain ⟨g, o, rfl, hg, c0, d0, d1, d2, hcap⟩ := h.read hN
  have hl := h.lim.1
  rw [List.length_cons, hN] at hl
  have hq : (((N : Int) + 1) == 0) = false := by rw [beq_eq_false_iff_ne]; omega
  have hq' : ¬ ((N : Int) + 1 = 0) := by omega
  have hpos : (0 : Int) < (N : Int) + 1 := by omega
  have hpos1 : (1 : Int) ≤ (N : Int) + 1 := by omega
  have hcI : (N : Int) + 1 ≤ (cap : Int) := by omega
  have HPS := Lib.hid h
  have HN := Lib.hid hN
  have HCAP := Lib.hid hcap
  have HLIM := Lib.hid (h.lim.2.1 t (by simp))
  have f0 : w2.frozen? ⟨b, 0, none⟩ = false := frozen_of_row w2 b 0 _ _ h.blk
  have HLT := Lib.hid h.lt
  have HGLT := Lib.hid (World.block_lt_of_cell? _ _ d0)
  clear h hl hN hcap
  by_cases hk4 : t.k = 4
  · rw [hk4] at d0
    have hRe : R = .error (2, t.p) := by
      rcases hcase with ⟨-, h⟩ | ⟨h, -⟩ | ⟨h, -, -⟩
      · exact h
      · omega
      · exact absurd hk4 h
    clear hcase hk4
    go_wp2_with fail
    refine HF1.out.mono ?_
    rintro e w3 ⟨rfl, rfl⟩
    exact ⟨rfl, .inr ⟨2, _, by first | exact hRe | rfl, rfl, .of_ext HE1.out⟩⟩
  have hkq : ((t.k : Int) == 4) = false := by rw [beq_eq_false_iff_ne]; omega
  have hkq' : ¬ ((t.k : Int) = 4) := by omega
  obtain ⟨W4, hW4, hE4, hG4, hL4, hS4⟩ := new_blk w2 (tokC t.k t.s t.p) 61
  obtain ⟨g4, hg4⟩ : ∃ g, w2.heap.size = g := ⟨_, rfl⟩
  rw [hg4] at hG4
  have HW4 := Lib.hid hW4
  have HE4 := Lib.hid hE4
  have HG4 := Lib.hid hG4
  have HK4 := Lib.hid hk4
  have HG4B : Hid (b < g4) := Lib.hid (by rw [← hg4]; exact HLT.out)
  clear hW4 hE4 hG4 hL4 hS4 hk4
  unfold tokC at HW4
  go_upto_region 8 with (fail)
  rw [HW4.out]
  clear HW4
  have k0 := cell_of_row W4 g4 0 _ _ _ HG4.out
  have k1 := cell_of_row W4 g4 1 _ _ _ HG4.out
  unfold tokC at k0 k1
  simp only [List.getElem?_toArray, List.getElem?_cons_zero, List.getElem?_cons_succ] at k0 k1
  have hlt0 : W.heap.size < w2.heap.size := by have := HSZ.out; omega
  have HLT0 := Lib.hid hlt0
  have HC2 := Lib.hid hc
  have HC0 := Lib.hid c0
  have hc4 := ext_cell hlt0 hc W4 HE4.out
  have HX04 := Lib.hid (ExtX.of_ext (b := b) (HE1.out.trans HE4.out))
  have HP4 := Lib.hid (HP1.out.ext HE4.out)
  clear c0 d0 d1 d2 hc hq hq' hkq hkq' hlt0
  by_cases hk3 : t.k = 3
  · have hwf : wordF E sh n d t r = some R := by
      rcases hcase with ⟨h, -⟩ | ⟨-, h⟩ | ⟨-, h, -⟩
      · exact absurd h HK4.out
      · exact h
      · exact absurd hk3 h
    have CW := Lib.hid (HWD.out b d t r R W4 hwf hk3 HP4.out (HENV.out.extX HLOW.out HX04.out) HLOW.out)
    have hg44 := HG4.out
    unfold tokC at CW hg44
    rw [hk3] at k0
    clear hcase hwf f0 k1 hk3 hg4
    go_wp2_with (first | ((with_reducible refine wpl_guard (isLoad 61) ?_ ?_); (· rfl); refine wpl_load (t := ?_) (cs := ?_) (fr := ?_) rfl 61 _ rfl rfl ?_ Tryd.underlying61 rfl ?_ ?_; rotate_left 3; (· (first | (with_reducible assumption) | (simp (disch := (first | omega | (simp only [World.size_alloc, World.size_setCell, World.size_drew, size_setRow]; done) | (simp only [World.size_alloc, World.size_setCell, World.size_drew, size_setRow]; omega))) only [hq_at, hq_past, hq_drew, hq_drewN, hq_cell, hq_row, hq_same, rowOf_cells, Option.map_some, *]; rfl) | (simp (disch := (first | omega | (simp only [World.size_alloc, World.size_setCell, World.size_drew, size_setRow]; done) | (simp only [World.size_alloc, World.size_setCell, World.size_drew, size_setRow]; omega))) only [hq_at, hq_past, hq_drew, hq_drewN, hq_cell, hq_row, hq_same, rowOf_cells, Option.map_some, *]))); (· kernel_rfl); (try dsimp only [Act.put, List.setIfInBounds_toArray, List.set_cons_zero, List.set_cons_succ])))
    refine CW.out.mono ?_
    rintro e w5 (⟨x, ts', f, rfl, rfl, hRep, hP5, hX5⟩ | ⟨c, p, rfl, rfl, hX5⟩)
    case inr => exact ⟨rfl, .inr ⟨c, p, rfl, rfl, HX04.out.trans hX5⟩⟩
    have HRep := Lib.hid hRep
    have HP5 := Lib.hid hP5
    have HX5 := Lib.hid hX5
    have hgR : w5.heap[W.heap.size + 1]? = some (.cells zN 33 (0, 0)) := hX5.blk (HE4.out.blk HG1.out) (by have := HB.out; omega)
    clear hRep hP5 hX5 k0 hg44 hc4
    unfold zN at hgR
    unfold Fl.val
    go_wp2_with (first | ((with_reducible refine wpl_guard (isStore 33) ?_ ?_); (· rfl); refine wpl_store (t := ?_) (old := ?_) (w' := ?_) rfl 33 _ _ rfl rfl rfl ?_ ?_ ?_ ?_ ?_ ?_; rotate_left 2; (· (first | (with_reducible assumption) | (simp (disch := (first | omega | (simp only [World.size_alloc, World.size_setCell, World.size_drew, size_setRow]; done) | (simp only [World.size_alloc, World.size_setCell, World.size_drew, size_setRow]; omega))) only [hq_at, hq_past, hq_drew, hq_drewN, hq_cell, hq_row, hq_same, rowOf_cells, Option.map_some, *]; rfl) | (simp (disch := (first | omega | (simp only [World.size_alloc, World.size_setCell, World.size_drew, size_setRow]; done) | (simp only [World.size_alloc, World.size_setCell, World.size_drew, size_setRow]; omega))) only [hq_at, hq_past, hq_drew, hq_drewN, hq_cell, hq_row, hq_same, rowOf_cells, Option.map_some, *]))); (· kernel_rfl); (· rfl); (· rfl); rotate_left 1; (· (first | (simp (disch := (first | omega | (simp only [World.size_alloc, World.size_setCell, World.size_drew, size_setRow]; done) | (simp only [World.size_alloc, World.size_setCell, World.size_drew, size_setRow]; omega))) only [setRow_at, setRow_past, setRow_drew]; rfl) | rfl))))
    exact par_end rfl HB.out (Nat.le_succ _) (HX04.out.trans HX5.out) HP5.out hgR (HRep.out.imp' (fun k hk _ => by have := HSZ.out; have := HE4.out.size; omega)) rfl rfl rfl
  have HRS : Hid (R = simpleP t r) := Lib.hid (by
    rcases hcase with ⟨h, -⟩ | ⟨h, -⟩ | ⟨-, -, h⟩
    · exact absurd h HK4.out
    · exact absurd h hk3
    · exact h)
  clear hcase
  by_cases hk1 : t.k = 1
  · rw [hk1] at k0
    have NP := Lib.hid (num_any t.s W4 HLIM.out.1)
    have HK1 := Lib.hid hk1
    clear hk1 hk3 hg4
    go_wp2_with fail
    refine NP.out.mono ?_
    rintro e w5 (⟨m, hp, rfl, hE5⟩ | ⟨hp, rfl, hE5⟩)
    case inr =>
      have HRE : Hid (R = .error (2, posF E (t :: r))) := Lib.hid (by rw [HRS.out, simpleP]; simp [HK1.out, hp, posF])
      have hc5 := ext_cell HLT0.out HC2.out w5 (HE4.out.trans hE5)
      have HF5 := Lib.hid (fail_at b sh E d (t :: r) 2 w5 (HP4.out.ext hE5))
      have HE5 := Lib.hid hE5
      clear hp hE5 k0 k1 hc4 f0
      go_wp2_with fail
      refine HF5.out.mono ?_
      rintro e w3 ⟨rfl, rfl⟩
      exact ⟨rfl, .inr ⟨2, _, HRE.out, rfl, HX04.out.trans (.of_ext HE5.out)⟩⟩
    have HRE : Hid (R = .ok (litT 1 (m : Int) [], r)) := Lib.hid (by rw [HRS.out, simpleP]; simp [HK1.out, hp])
    have hc5 := ext_cell HLT0.out HC2.out w5 (HE4.out.trans hE5)
    have c05 := ext_cell HLT.out HC0.out w5 (HE4.out.trans hE5)
    have f05 := ext_frozen HLT.out f0 w5 (HE4.out.trans hE5)
    have HE5 := Lib.hid hE5
    have HP5 := Lib.hid (HP4.out.ext hE5)
    have HNP := Lib.hid hp
    clear hp hE5 k0 k1 hc4 f0
    have hr := Ext.refl w5
    have z0 := ext_cell (World.block_lt_of_cell? _ _ hc5) hc5
    have z1 := ext_cell (World.block_lt_of_cell? _ _ c05) c05
    have z2 := ext_frozen (World.block_lt_of_cell? _ _ c05) f05
    go_upto_region 13 with (fail)
    clear hc5 c05 f05
    refine region_any (by kernel_rfl) (by kernel_rfl) rfl (fun K hK => ?_)
    repeat (first | (refine seqr_skip (by rfl) (fun ρ => by rfl) ?_; (try simp only [Act.put, List.setIfInBounds_toArray, List.set_cons_zero, List.set_cons_succ])) | (refine seqr_pure (v := ?_) (by rfl) (fun ρ => by rfl) (fun ρ w hE hF => ?_) ?_; rotate_left 1; (· ((try simp only [fill, Act.put, List.setIfInBounds_toArray, List.set_cons_zero, List.set_cons_succ]); go_simp; try with_reducible rfl)); (try simp only [Act.put, List.setIfInBounds_toArray, List.set_cons_zero, List.set_cons_succ])) | (refine seqr_call0 (v := ?_) (f := ?_) (args := ?_) (by rfl) (fun ρ => by rfl) (fun ρ w => ?_) (fun w hE => ?_) ?_; rotate_left 3; (· ((try simp only [fill, Act.put, List.setIfInBounds_toArray, List.set_cons_zero, List.set_cons_succ]); go_simp; constructor <;> with_reducible rfl)); (· (with_reducible exact CallE.call (by assumption) hE)); (try simp only [Act.put, List.setIfInBounds_toArray, List.set_cons_zero, List.set_cons_succ])))
    refine seqr_tails (by kernel_rfl) (fun ρ wN hEN hFN hAN => ?_); (try simp only [fill, Act.put, List.setIfInBounds_toArray, List.set_cons_zero, List.set_cons_succ])
    have f0N := z2 wN hEN
    have c0N := z1 wN hEN
    have HEN := Lib.hid hEN
    clear z0 z1 z2 hEN hFN hAN hr
    obtain ⟨p', hp'⟩ : ∃ p', (if cap = 1 then (some ⟨g, o, none⟩ : Option Addr) else some ⟨g, o + 3, none⟩) = p' := ⟨_, rfl⟩
    rw [hp']
    go_wp2_with fail
    refine (show K _ _ from hK.out _ _ ?_); clear hK K
    obtain ⟨W6, hW6⟩ : ∃ W6, wN.setCell ⟨b, 0, none⟩ (.slice p' N (cap - 1)) = W6 := ⟨_, rfl⟩
    have HP6 : Hid (PAt b sh E d r W6) := Lib.hid (by
      rw [← hW6]
      refine PAt.taken (HPS.out.ext ((HE4.out.trans HE5.out).trans HEN.out)) HN.out ?_ ?_
      · intro h0
        have := HCAP.out
        rw [← hp', if_neg (by omega)]
      · have := HCAP.out
        omega)
    have HX6 : Hid (ExtX b wN W6) := Lib.hid (by rw [← hW6]; exact set_ext _ _)
    rw [hW6]
    clear hW6 hp' f0N c0N
    have HX06 := Lib.hid ((HX04.out.trans (.of_ext (HE5.out.trans HEN.out))).trans HX6.out)
    go_wp2_with fail
    refine (vnum_any (m : Int) _).mono ?_
    rintro e w7 ⟨rfl, hE7⟩
    go_wp2_with fail
    refine (tval_any 1 (m : Int) ⟨#[]⟩ _).mono ?_
    rintro e w8 ⟨rfl, hE8⟩
    have HE7 : Hid (Ext W6 w8) := Lib.hid (Ext.trans hE7 hE8)
    have hgR : w8.heap[W.heap.size + 1]? = some (.cells zN 33 (0, 0)) := HE7.out.blk (HX6.out.blk (((HE4.out.trans HE5.out).trans HEN.out).blk HG1.out) (by have := HB.out; omega))
    clear hE7 hE8
    unfold zN at hgR
    unfold Fl.val
    go_wp2_with (first | ((with_reducible refine wpl_guard (isStore 33) ?_ ?_); (· rfl); refine wpl_store (t := ?_) (old := ?_) (w' := ?_) rfl 33 _ _ rfl rfl rfl ?_ ?_ ?_ ?_ ?_ ?_; rotate_left 2; (· (first | (with_reducible assumption) | (simp (disch := (first | omega | (simp only [World.size_alloc, World.size_setCell, World.size_drew, size_setRow]; done) | (simp only [World.size_alloc, World.size_setCell, World.size_drew, size_setRow]; omega))) only [hq_at, hq_past, hq_drew, hq_drewN, hq_cell, hq_row, hq_same, rowOf_cells, Option.map_some, *]; rfl) | (simp (disch := (first | omega | (simp only [World.size_alloc, World.size_setCell, World.size_drew, size_setRow]; done) | (simp only [World.size_alloc, World.size_setCell, World.size_drew, size_setRow]; omega))) only [hq_at, hq_past, hq_drew, hq_drewN, hq_cell, hq_row, hq_same, rowOf_cells, Option.map_some, *]))); (· kernel_rfl); (· rfl); (· rfl); rotate_left 1; (· (first | (simp (disch := (first | omega | (simp only [World.size_alloc, World.size_setCell, World.size_drew, size_setRow]; done) | (simp only [World.size_alloc, World.size_setCell, World.size_drew, size_setRow]; omega))) only [setRow_at, setRow_past, setRow_drew]; rfl) | rfl))))
    exact par_end rfl HB.out (Nat.le_succ _) (HX06.out.trans (.of_ext HE7.out)) (HP6.out.ext HE7.out) hgR (rep_lit ⟨by omega, by have := num_le HNP.out; omega⟩ (by show 0 ≤ _; omega)) HRE.out rfl rfl
  by_cases hk2 : t.k = 2
  · rw [hk2] at k0
    have HK2 := Lib.hid hk2
    by_cases hlen : 64 < t.s.length
    · have HRE : Hid (R = .error (4, posF E (t :: r))) := Lib.hid (by rw [HRS.out, simpleP]; simp [HK2.out, hlen, posF])
      have hsz : 64 < ((mk t.s).size : Int) := by rw [mk_size]; omega
      have HF4 := Lib.hid (fail_at b sh E d (t :: r) 4 W4 HP4.out)
      clear hk2 hk3 hg4 hlen hk1
      go_wp2_with fail
      refine HF4.out.mono ?_
      rintro e w3 ⟨rfl, rfl⟩
      exact ⟨rfl, .inr ⟨4, _, HRE.out, rfl, HX04.out⟩⟩
    have HRE : Hid (R = .ok (litT 2 0 t.s, r)) := Lib.hid (by rw [HRS.out, simpleP]; simp [HK2.out, hlen])
    have hsz : ((mk t.s).size : Int) ≤ 64 := by rw [mk_size]; omega
    have HLN : Hid (t.s.length ≤ 64) := Lib.hid (by omega)
    have HE5 : Hid (Ext W4 W4) := Lib.hid (Ext.refl _)
    have hc5 := hc4
    have c05 := ext_cell HLT.out HC0.out W4 HE4.out
    have f05 := ext_frozen HLT.out f0 W4 HE4.out
    clear hk2 hk3 hg4 hlen hk1 hc4 f0
    have hr := Ext.refl W4
    have z0 := ext_cell (World.block_lt_of_cell? _ _ hc5) hc5
    have z1 := ext_cell (World.block_lt_of_cell? _ _ c05) c05
    have z2 := ext_frozen (World.block_lt_of_cell? _ _ c05) f05
    go_upto_region 18 with (fail)
    clear hc5 c05 f05
    refine region_any (by kernel_rfl) (by kernel_rfl) rfl (fun K hK => ?_)
    repeat (first | (refine seqr_skip (by rfl) (fun ρ => by rfl) ?_; (try simp only [Act.put, List.setIfInBounds_toArray, List.set_cons_zero, List.set_cons_succ])) | (refine seqr_pure (v := ?_) (by rfl) (fun ρ => by rfl) (fun ρ w hE hF => ?_) ?_; rotate_left 1; (· ((try simp only [fill, Act.put, List.setIfInBounds_toArray, List.set_cons_zero, List.set_cons_succ]); go_simp; try with_reducible rfl)); (try simp only [Act.put, List.setIfInBounds_toArray, List.set_cons_zero, List.set_cons_succ])) | (refine seqr_call0 (v := ?_) (f := ?_) (args := ?_) (by rfl) (fun ρ => by rfl) (fun ρ w => ?_) (fun w hE => ?_) ?_; rotate_left 3; (· ((try simp only [fill, Act.put, List.setIfInBounds_toArray, List.set_cons_zero, List.set_cons_succ]); go_simp; constructor <;> with_reducible rfl)); (· (with_reducible exact CallE.call (by assumption) hE)); (try simp only [Act.put, List.setIfInBounds_toArray, List.set_cons_zero, List.set_cons_succ])))
    refine seqr_tails (by kernel_rfl) (fun ρ wN hEN hFN hAN => ?_); (try simp only [fill, Act.put, List.setIfInBounds_toArray, List.set_cons_zero, List.set_cons_succ])
    have f0N := z2 wN hEN
    have c0N := z1 wN hEN
    have HEN := Lib.hid hEN
    clear z0 z1 z2 hEN hFN hAN hr
    obtain ⟨p', hp'⟩ : ∃ p', (if cap = 1 then (some ⟨g, o, none⟩ : Option Addr) else some ⟨g, o + 3, none⟩) = p' := ⟨_, rfl⟩
    rw [hp']
    go_wp2_with fail
    refine (show K _ _ from hK.out _ _ ?_); clear hK K
    obtain ⟨W6, hW6⟩ : ∃ W6, wN.setCell ⟨b, 0, none⟩ (.slice p' N (cap - 1)) = W6 := ⟨_, rfl⟩
    have HP6 : Hid (PAt b sh E d r W6) := Lib.hid (by
      rw [← hW6]
      refine PAt.taken (HPS.out.ext ((HE4.out.trans HE5.out).trans HEN.out)) HN.out ?_ ?_
      · intro h0
        have := HCAP.out
        rw [← hp', if_neg (by omega)]
      · have := HCAP.out
        omega)
    have HX6 : Hid (ExtX b wN W6) := Lib.hid (by rw [← hW6]; exact set_ext _ _)
    rw [hW6]
    clear hW6 hp' f0N c0N
    have HX06 := Lib.hid ((HX04.out.trans (.of_ext (HE5.out.trans HEN.out))).trans HX6.out)
    have hgt6 := HX6.out.blk (HEN.out.blk HG4.out) (by have := HG4B.out; omega)
    have k16 := cell_of_row W6 g4 1 _ _ _ hgt6
    unfold tokC at k16
    simp only [List.getElem?_toArray, List.getElem?_cons_zero, List.getElem?_cons_succ] at k16
    clear hgt6
    go_wp2_with fail
    refine (vtext_short t.s _ HLN.out).mono ?_
    rintro e w7 ⟨rfl, hE7⟩
    go_wp2_with fail
    refine (tval_any 2 0 (mk t.s) _).mono ?_
    rintro e w8 ⟨rfl, hE8⟩
    have HE7 : Hid (Ext W6 w8) := Lib.hid (Ext.trans hE7 hE8)
    have hgR : w8.heap[W.heap.size + 1]? = some (.cells zN 33 (0, 0)) := HE7.out.blk (HX6.out.blk (((HE4.out.trans HE5.out).trans HEN.out).blk HG1.out) (by have := HB.out; omega))
    clear hE7 hE8
    unfold zN at hgR
    unfold Fl.val
    go_wp2_with (first | ((with_reducible refine wpl_guard (isStore 33) ?_ ?_); (· rfl); refine wpl_store (t := ?_) (old := ?_) (w' := ?_) rfl 33 _ _ rfl rfl rfl ?_ ?_ ?_ ?_ ?_ ?_; rotate_left 2; (· (first | (with_reducible assumption) | (simp (disch := (first | omega | (simp only [World.size_alloc, World.size_setCell, World.size_drew, size_setRow]; done) | (simp only [World.size_alloc, World.size_setCell, World.size_drew, size_setRow]; omega))) only [hq_at, hq_past, hq_drew, hq_drewN, hq_cell, hq_row, hq_same, rowOf_cells, Option.map_some, *]; rfl) | (simp (disch := (first | omega | (simp only [World.size_alloc, World.size_setCell, World.size_drew, size_setRow]; done) | (simp only [World.size_alloc, World.size_setCell, World.size_drew, size_setRow]; omega))) only [hq_at, hq_past, hq_drew, hq_drewN, hq_cell, hq_row, hq_same, rowOf_cells, Option.map_some, *]))); (· kernel_rfl); (· rfl); (· rfl); rotate_left 1; (· (first | (simp (disch := (first | omega | (simp only [World.size_alloc, World.size_setCell, World.size_drew, size_setRow]; done) | (simp only [World.size_alloc, World.size_setCell, World.size_drew, size_setRow]; omega))) only [setRow_at, setRow_past, setRow_drew]; rfl) | rfl))))
    exact par_end rfl HB.out (Nat.le_succ _) (HX06.out.trans (.of_ext HE7.out)) (HP6.out.ext HE7.out) hgR (rep_lit ⟨by omega, by omega⟩ (by rw [mk_size]; have := HLN.out; omega)) HRE.out rfl rfl
  have hk5 : t.k = 5 := by have := HLIM.out.2.2; have := HK4.out; omega
  rw [hk5] at k0
  have HRE : Hid (R = .ok (litT 4 (errNo t.s : Int) [], r)) := Lib.hid (by rw [HRS.out, simpleP]; simp [hk5])
  have EP := Lib.hid (errof_any t.s W4 (HENV.out.extX HLOW.out HX04.out).1.1)
  clear hk1 hk2 hk3 hk5 hg4
  go_wp2_with fail
  refine EP.out.mono ?_
  rintro e w5 ⟨⟨bo, rfl⟩, hE5⟩
  have hc5 := ext_cell HLT0.out HC2.out w5 (HE4.out.trans hE5)
  have c05 := ext_cell HLT.out HC0.out w5 (HE4.out.trans hE5)
  have f05 := ext_frozen HLT.out f0 w5 (HE4.out.trans hE5)
  have HE5 := Lib.hid hE5
  clear hE5 k0 k1 hc4 f0
  have hr := Ext.refl w5
  have z0 := ext_cell (World.block_lt_of_cell? _ _ hc5) hc5
  have z1 := ext_cell (World.block_lt_of_cell? _ _ c05) c05
  have z2 := ext_frozen (World.block_lt_of_cell? _ _ c05) f05
  go_upto_region 22 with (fail)
  clear hc5 c05 f05
  refine region_any (by kernel_rfl) (by kernel_rfl) rfl (fun K hK => ?_)
  repeat (first | (refine seqr_skip (by rfl) (fun ρ => by rfl) ?_; (try simp only [Act.put, List.setIfInBounds_toArray, List.set_cons_zero, List.set_cons_succ])) | (refine seqr_pure (v := ?_) (by rfl) (fun ρ => by rfl) (fun ρ w hE hF => ?_) ?_; rotate_left 1; (· ((try simp only [fill, Act.put, List.setIfInBounds_toArray, List.set_cons_zero, List.set_cons_succ]); go_simp; try with_reducible rfl)); (try simp only [Act.put, List.setIfInBounds_toArray, List.set_cons_zero, List.set_cons_succ])) | (refine seqr_call0 (v := ?_) (f := ?_) (args := ?_) (by rfl) (fun ρ => by rfl) (fun ρ w => ?_) (fun w hE => ?_) ?_; rotate_left 3; (· ((try simp only [fill, Act.put, List.setIfInBounds_toArray, List.set_cons_zero, List.set_cons_succ]); go_simp; constructor <;> with_reducible rfl)); (· (with_reducible exact CallE.call (by assumption) hE)); (try simp only [Act.put, List.setIfInBounds_toArray, List.set_cons_zero, List.set_cons_succ])))
  refine seqr_tails (by kernel_rfl) (fun ρ wN hEN hFN hAN => ?_); (try simp only [fill, Act.put, List.setIfInBounds_toArray, List.set_cons_zero, List.set_cons_succ])
  have f0N := z2 wN hEN
  have c0N := z1 wN hEN
  have HEN := Lib.hid hEN
  clear z0 z1 z2 hEN hFN hAN hr
  obtain ⟨p', hp'⟩ : ∃ p', (if cap = 1 then (some ⟨g, o, none⟩ : Option Addr) else some ⟨g, o + 3, none⟩) = p' := ⟨_, rfl⟩
  rw [hp']
  go_wp2_with fail
  refine (show K _ _ from hK.out _ _ ?_); clear hK K
  obtain ⟨W6, hW6⟩ : ∃ W6, wN.setCell ⟨b, 0, none⟩ (.slice p' N (cap - 1)) = W6 := ⟨_, rfl⟩
  have HP6 : Hid (PAt b sh E d r W6) := Lib.hid (by
    rw [← hW6]
    refine PAt.taken (HPS.out.ext ((HE4.out.trans HE5.out).trans HEN.out)) HN.out ?_ ?_
    · intro h0
      have := HCAP.out
      rw [← hp', if_neg (by omega)]
    · have := HCAP.out
      omega)
  have HX6 : Hid (ExtX b wN W6) := Lib.hid (by rw [← hW6]; exact set_ext _ _)
  rw [hW6]
  clear hW6 hp' f0N c0N
  have HX06 := Lib.hid ((HX04.out.trans (.of_ext (HE5.out.trans HEN.out))).trans HX6.out)
  go_wp2_with fail
  refine (fail_any (errNo t.s : Int) _).mono ?_
  rintro e w7 ⟨rfl, hE7⟩
  go_wp2_with fail
  refine (tval_any 4 (errNo t.s : Int) ⟨#[]⟩ _).mono ?_
  rintro e w8 ⟨rfl, hE8⟩
  have HE7 : Hid (Ext W6 w8) := Lib.hid (Ext.trans hE7 hE8)
  have hgR : w8.heap[W.heap.size + 1]? = some (.cells zN 33 (0, 0)) := HE7.out.blk (HX6.out.blk (((HE4.out.trans HE5.out).trans HEN.out).blk HG1.out) (by have := HB.out; omega))
  clear hE7 hE8
  unfold zN at hgR
  unfold Fl.val
  go_wp2_with (first | ((with_reducible refine wpl_guard (isStore 33) ?_ ?_); (· rfl); refine wpl_store (t := ?_) (old := ?_) (w' := ?_) rfl 33 _ _ rfl rfl rfl ?_ ?_ ?_ ?_ ?_ ?_; rotate_left 2; (· (first | (with_reducible assumption) | (simp (disch := (first | omega | (simp only [World.size_alloc, World.size_setCell, World.size_drew, size_setRow]; done) | (simp only [World.size_alloc, World.size_setCell, World.size_drew, size_setRow]; omega))) only [hq_at, hq_past, hq_drew, hq_drewN, hq_cell, hq_row, hq_same, rowOf_cells, Option.map_some, *]; rfl) | (simp (disch := (first | omega | (simp only [World.size_alloc, World.size_setCell, World.size_drew, size_setRow]; done) | (simp only [World.size_alloc, World.size_setCell, World.size_drew, size_setRow]; omega))) only [hq_at, hq_past, hq_drew, hq_drewN, hq_cell, hq_row, hq_same, rowOf_cells, Option.map_some, *]))); (· kernel_rfl); (· rfl); (· rfl); rotate_left 1; (· (first | (simp (disch := (first | omega | (simp only [World.size_alloc, World.size_setCell, World.size_drew, size_setRow]; done) | (simp only [World.size_alloc, World.size_setCell, World.size_drew, size_setRow]; omega))) only [setRow_at, setRow_past, setRow_drew]; rfl) | rfl))))
  exact par_end rfl HB.out (Nat.le_succ _) (HX06.out.trans (.of_ext HE7.out)) (HP6.out.ext HE7.out) hgR (rep_lit ⟨by omega, by have := errNo_le t.s; omega⟩ (by show 0 ≤ _; omega)) HRE.out rfl rfl
end Go.Proofs.YtffogjhjgmohiaaDoor
