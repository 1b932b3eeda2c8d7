/-
  parse: Parse: walk. Conditions: each theorem's own.
-/
import Derived.Test.YtffogjhjgmohiaaDoorParQ
import Derived.Test.YtffogjhjgmohiaaDoorAddrD
import Derived.Test.YtffogjhjgmohiaaDoorAddrJ
import Derived.Test.YtffogjhjgmohiaaDoorTreeI
namespace Go.Proofs.YtffogjhjgmohiaaDoor
open Go.RowKit
set_option linter.unusedVariables false
set_option linter.unusedSimpArgs false

theorem LowX.mono {b c : Nat} (h : LowX b) (hc : b ≤ c) : LowX c := by
  obtain ⟨⟨h1, h2, h3, h4, h5⟩, h6⟩ := h
  exact ⟨⟨by omega, by omega, by omega, by omega, by omega⟩, by omega⟩
theorem zN_ints {j : Nat} {k : Int} (h : zN[j]? = some (.int .i64 k)) : k = 0 := by
  have hall : (zN.toList.all fun v => match v with | .int _ k => k == 0 | _ => true) = true := by rfl
  have hm : Value.int .i64 k ∈ zN.toList := by
    obtain ⟨hl, he⟩ := Array.getElem?_eq_some_iff.1 h
    rw [← he]
    simp
  have := List.all_eq_true.1 hall _ hm
  simpa using this
/-- A node's zero block holds no token. -/
theorem PAt.rowz {b sh E d g : Nat} {ts : List Tok} {W : World} (h : PAt b sh E d ts W) (hn : W.heap[g]? = some (.cells zN 33 (0, 0))) (hg : g ≠ b) (cs : Array Value) : PAt b sh E d ts (W.setRow g cs) := by
  obtain ⟨p, c, h⟩ := h
  refine ⟨p, c, by rw [setRow_other W g b cs (Ne.symm hg)]; exact h.blk, h.cap, fun i t ht => ?_, h.lim⟩
  obtain ⟨g', o, hp, hg', h3⟩ := h.tok i t ht
  refine ⟨g', o, hp, hg', fun j v hj => ?_⟩
  have hne : g' ≠ g := by
    rintro rfl
    have h0 := h3 0 _ rfl
    rw [cell_of_row W g' _ _ _ _ hn] at h0
    have := zN_ints h0
    have := (h.lim.2.1 t (List.mem_of_getElem? ht)).2.2.1
    omega
  rw [← h3 j v hj]
  simp only [World.cell?, setRow_other W g g' cs hne]
/-- Parse's deferred call. -/
def defD (g : Nat) : Deferred := { target := .fn (.func 18) #[.pointer (some ⟨g, 0, none⟩), .pointer (some ⟨g + 1, 0, none⟩), .pointer (some ⟨g + 1 + 1, 0, none⟩)], args := #[] }
theorem defD_run (g : Nat) (w : World) : (invoke (.fn (.func 18) #[.pointer (some ⟨g, 0, none⟩), .pointer (some ⟨g + 1, 0, none⟩), .pointer (some ⟨g + 1 + 1, 0, none⟩)]) #[]).run Tryd.prog w = .ok (.enter 18 #[.pointer (some ⟨g, 0, none⟩), .pointer (some ⟨g + 1, 0, none⟩), .pointer (some ⟨g + 1 + 1, 0, none⟩)]) w := by
  simp [go_sem]
/-- A fault is caught. -/
theorem parse_caught {W w : World} {g c p : Nat} {R} {fn : Fl} {x y : Int} {tmps : Array Value} (hR : R = .error (c, p)) (hg : W.heap.size = g) (hE : Ext W w) (hn : w.heap[g]? = some (.cells fn.cells 33 (0, 0))) (ha : w.heap[g + 1]? = some (.cells #[.int .i64 x] 3 (0, 0))) (he : w.heap[g + 1 + 1]? = some (.cells #[.int .i64 y] 34 (0, 0)))
    (h4 : tmps.getD 4 undef = .pointer (some ⟨g, 0, none⟩)) (h5 : tmps.getD 5 undef = .pointer (some ⟨g + 1, 0, none⟩)) (h6 : tmps.getD 6 undef = .pointer (some ⟨g + 1 + 1, 0, none⟩)) : Leaves Tryd.prog Tryd.f11 tmps (ParP W R) [defD g] (.panicking [faultE c p]) w := by
  refine leaves_cons (by simp) (defD_run g w) ?_
  refine (catch_fault g (g + 1) (g + 1 + 1) fn x y c p w hn ha he (by omega) (by omega) (by omega)).mono ?_
  rintro e u' w' ⟨rfl, rfl, kn, ka, ke, hX⟩
  exact ⟨_, res3 h4 h5 h6 kn rfl ka ke, hX W hE (by omega) (by omega) (by omega), .inr ⟨c, p, hR, rfl⟩⟩
/-- .. nothing is. -/
theorem parse_idle {W w : World} {g : Nat} {R} {t : Tr} {f : Fl} {tmps : Array Value} (hR : R = .ok t) (hE : Ext W w) (hn : w.heap[g]? = some (.cells f.cells 33 (0, 0))) (ha : w.heap[g + 1]? = some (.cells #[.int .i64 0] 3 (0, 0))) (he : w.heap[g + 1 + 1]? = some (.cells #[.int .i64 0] 34 (0, 0)))
    (hr : Rep w (fun k => W.heap.size ≤ k) t f) (h4 : tmps.getD 4 undef = .pointer (some ⟨g, 0, none⟩)) (h5 : tmps.getD 5 undef = .pointer (some ⟨g + 1, 0, none⟩)) (h6 : tmps.getD 6 undef = .pointer (some ⟨g + 1 + 1, 0, none⟩)) : Leaves Tryd.prog Tryd.f11 tmps (ParP W R) [defD g] .returning w := by
  refine leaves_cons (by simp) (defD_run g w) ?_
  refine (catch_idle _ _ _ w).mono ?_
  rintro e u' w' ⟨rfl, rfl, hX⟩
  exact ⟨_, res3 h4 h5 h6 (hX.blk hn) rfl (hX.blk ha) (hX.blk he), hE.trans hX, .inl ⟨t, f, hR, rfl, hr.ext hX⟩⟩
set_option maxRecDepth 100000 in
set_option maxHeartbeats 4000000 in
/-- lex.All, of any text. -/
theorem all_every (s : ByteArray) (w : World) (ht : Tab w) : Calls Tryd.prog 17 #[.string s] w (AllP s w) := by
  by_cases hbig : 200 < s.size
  · have hb : (200 : Int) < (s.size : Int) := by omega
    have HR0 := Lib.hid (Ext.refl w)
    clear ht
    go_enter Tryd.func17, Tryd.ntmps17
    go_wp2_with fail
    refine bodyPost_ret (v := .tuple #[.slice none 0 0, .int .i64 0, .int .i64 4]) (by simp [results, Tryd.results17, go_sem]) rfl ⟨by rw [if_pos hbig], HR0.out⟩
  · exact all_any s w (by omega) ht
set_option maxRecDepth 100000 in
set_option maxHeartbeats 8000000 in
theorem pars_any (s : List UInt8) (sh : Nat) (R) (W : World) (hR : parseF s sh = some R) (hsh : sh < 3) (hE : EnvX W) :
    Calls Tryd.prog 11 #[.string (mk s), .int .i64 (sh : Int)] W (ParP W R) := by
  obtain ⟨W1, hW1, hE1, hG1, hL1, hS1⟩ := new_blk W zN 33
  obtain ⟨W2, hW2, hE2, hG2, hL2, hS2⟩ := new_blk W1 #[.int .i64 0] 3
  obtain ⟨W3, hW3, hE3, hG3, hL3, hS3⟩ := new_blk W2 #[.int .i64 0] 34
  rw [hS2, hS1] at hG3
  rw [hS1] at hG2
  obtain ⟨g, hg⟩ : ∃ g, W.heap.size = g := ⟨_, rfl⟩
  have HSZ : Hid (W3.heap.size = g + 3) := Lib.hid (by omega)
  rw [hg] at hG1 hG2 hG3
  have HG := Lib.hid hg
  have HE3 := Lib.hid ((hE1.trans hE2).trans hE3)
  have HG1 := Lib.hid (hE3.blk (hE2.blk hG1))
  have HG2 := Lib.hid (hE3.blk hG2)
  have HG3 := Lib.hid hG3
  have HW1 := Lib.hid hW1
  have HW2 := Lib.hid hW2
  have HW3 := Lib.hid hW3
  have HENV := Lib.hid (hE.ext HE3.out)
  have HA := Lib.hid (all_every (mk s) W3 HENV.out.1.1)
  have HR := Lib.hid hR
  have HSH := Lib.hid hsh
  obtain ⟨S, hSs⟩ : ∃ S, mk s = S := ⟨_, rfl⟩
  have HSS := Lib.hid hSs
  rw [hSs] at HA ⊢
  have HE := Lib.hid hE
  clear hR hE hW1 hE1 hG1 hL1 hS1 hW2 hE2 hG2 hL2 hS2 hW3 hE3 hG3 hL3 hS3 hg hSs hsh
  unfold zN at HW1
  go_enter_defers Tryd.func11, Tryd.ntmps11
  go_upto_region 1 with (fail)
  rw [HW1.out, HW2.out, HW3.out]
  clear HW1 HW2 HW3
  go_wp2_with fail
  rw [HG.out]
  refine HA.out.mono ?_
  rintro e w4 hall
  have HE4 := Lib.hid hall.2
  rcases parse_lex HR.out (by rw [HSS.out]; exact hall) HSH.out with ⟨i, c, h1, h6, hRe, rfl⟩ | ⟨ts, v, R1, rfl, hown, hlim, hx, hRe⟩
  · have HRe := Lib.hid hRe
    have ka := HE4.out.blk HG2.out
    have ke := HE4.out.blk HG3.out
    have kn := HE4.out.blk HG1.out
    have la := blk_lt ka
    have le := blk_lt ke
    have ln := blk_lt kn
    have KA := Lib.hid ka
    have KE := Lib.hid ke
    have KN := Lib.hid kn
    have za := frozen_of_row w4 (g + 1) 0 _ _ ka
    have ze := frozen_of_row w4 (g + 1 + 1) 0 _ _ ke
    have ca := cell_of_row w4 (g + 1) 0 _ _ _ ka
    have ce := cell_of_row w4 (g + 1 + 1) 0 _ _ _ ke
    simp only [List.getElem?_toArray, List.getElem?_cons_zero, List.getElem?_cons_succ] at ca ce
    have hcq : ((c : Int) == 0) = false := by rw [beq_eq_false_iff_ne]; omega
    have hcq' : ¬ ((c : Int) = 0) := by omega
    have HW0 : Hid (Ext W w4) := Lib.hid (HE3.out.trans HE4.out)
    clear ka ke kn h1 h6 hRe hall
    go_upto_region 3 with (fail)
    obtain ⟨W5, hW5⟩ : ∃ W5, (w4.setCell ⟨g + 1, 0, none⟩ (.int .i64 (i : Int))).setCell ⟨g + 1 + 1, 0, none⟩ (.int .i64 (c : Int)) = W5 := ⟨_, rfl⟩
    have hX5 : Ext W W5 := by rw [← hW5]; exact below_set (below_set HW0.out (by show W.heap.size ≤ g + 1; rw [HG.out]; omega)) (by show W.heap.size ≤ g + 1 + 1; rw [HG.out]; omega)
    have kn : W5.heap[g]? = some (.cells zN 33 (0, 0)) := by rw [← hW5, hq_cell (by omega), hq_cell (by omega)]; exact KN.out
    have ka : W5.heap[g + 1]? = some (.cells #[.int .i64 (i : Int)] 3 (0, 0)) := by rw [← hW5, hq_cell (by omega), hq_put rfl, KA.out]; rfl
    have ke : W5.heap[g + 1 + 1]? = some (.cells #[.int .i64 (c : Int)] 34 (0, 0)) := by rw [← hW5, hq_put rfl, hq_cell (by omega), KE.out]; rfl
    rw [hW5]
    clear hW5 za ze ca ce la le ln hcq hcq'
    have za := frozen_of_row W5 (g + 1) 0 _ _ ka
    have ze := frozen_of_row W5 (g + 1 + 1) 0 _ _ ke
    have ca := cell_of_row W5 (g + 1) 0 _ _ _ ka
    have ce := cell_of_row W5 (g + 1 + 1) 0 _ _ _ ke
    have n0 := cell_of_row W5 g 0 _ _ _ kn
    have z0 := frozen_of_row W5 g 0 _ _ kn
    have n1 := cell_of_row W5 g 1 _ _ _ kn
    have z1 := frozen_of_row W5 g 1 _ _ kn
    have n2 := cell_of_row W5 g 2 _ _ _ kn
    have z2 := frozen_of_row W5 g 2 _ _ kn
    have n3 := cell_of_row W5 g 3 _ _ _ kn
    have z3 := frozen_of_row W5 g 3 _ _ kn
    have n4 := cell_of_row W5 g 4 _ _ _ kn
    have z4 := frozen_of_row W5 g 4 _ _ kn
    have n5 := cell_of_row W5 g 5 _ _ _ kn
    have z5 := frozen_of_row W5 g 5 _ _ kn
    have n6 := cell_of_row W5 g 6 _ _ _ kn
    have z6 := frozen_of_row W5 g 6 _ _ kn
    have n7 := cell_of_row W5 g 7 _ _ _ kn
    have z7 := frozen_of_row W5 g 7 _ _ kn
    have n8 := cell_of_row W5 g 8 _ _ _ kn
    have z8 := frozen_of_row W5 g 8 _ _ kn
    have n9 := cell_of_row W5 g 9 _ _ _ kn
    have z9 := frozen_of_row W5 g 9 _ _ kn
    have n10 := cell_of_row W5 g 10 _ _ _ kn
    have z10 := frozen_of_row W5 g 10 _ _ kn
    have n11 := cell_of_row W5 g 11 _ _ _ kn
    have z11 := frozen_of_row W5 g 11 _ _ kn
    have n12 := cell_of_row W5 g 12 _ _ _ kn
    have z12 := frozen_of_row W5 g 12 _ _ kn
    have n13 := cell_of_row W5 g 13 _ _ _ kn
    have z13 := frozen_of_row W5 g 13 _ _ kn
    have n14 := cell_of_row W5 g 14 _ _ _ kn
    have z14 := frozen_of_row W5 g 14 _ _ kn
    have n15 := cell_of_row W5 g 15 _ _ _ kn
    have z15 := frozen_of_row W5 g 15 _ _ kn
    have n16 := cell_of_row W5 g 16 _ _ _ kn
    have z16 := frozen_of_row W5 g 16 _ _ kn
    simp only [zN, List.getElem?_toArray, List.getElem?_cons_zero, List.getElem?_cons_succ] at ca ce n0 n1 n2 n3 n4 n5 n6 n7 n8 n9 n10 n11 n12 n13 n14 n15 n16
    have la := blk_lt ka
    have le := blk_lt ke
    have ln := blk_lt kn
    have HX5 := Lib.hid hX5
    have KA := Lib.hid ka
    have KE := Lib.hid ke
    have KN := Lib.hid kn
    clear ka ke kn hX5 HA HSS HENV
    go_region
    generalize hW6 : World.drew _ = W6
    have kn6 : W6.heap[g]? = some (.cells zF.cells 33 (0, 0)) := by
      rw [← hW6]
      exact ((hq_drew _).trans ((hq_cell (by omega)).trans (hq_cell (by omega)))).trans (fill17 W5 g zF _ _ _ _ _ _ _ _ _ _ _ _ _ _ _ _ _ KN.out)
    have ka6 : W6.heap[g + 1]? = some (.cells #[.int .i64 (i : Int)] 3 (0, 0)) := by
      rw [← hW6]
      refine ((hq_drew _).trans ((hq_cell (by omega)).trans (hq_put rfl))).trans ?_
      rw [off17 W5 g (g + 1) _ _ _ _ _ _ _ _ _ _ _ _ _ _ _ _ _ (by omega), KA.out]
      rfl
    have ke6 : W6.heap[g + 1 + 1]? = some (.cells #[.int .i64 (c : Int)] 34 (0, 0)) := by
      rw [← hW6]
      refine ((hq_drew _).trans ((hq_put rfl).trans (congrArg _ (hq_cell (by omega))))).trans ?_
      rw [off17 W5 g (g + 1 + 1) _ _ _ _ _ _ _ _ _ _ _ _ _ _ _ _ _ (by omega), KE.out]
      rfl
    have hX6 : Ext W W6 := by
      rw [← hW6]
      exact below_drew1 (below_set (below_set (ext17 _ _ _ _ _ _ _ _ _ _ _ _ _ _ _ _ _ (by rw [HG.out]; exact Nat.le_refl _) HX5.out) (by show W.heap.size ≤ g + 1; rw [HG.out]; omega)) (by show W.heap.size ≤ g + 1 + 1; rw [HG.out]; omega))
    clear hW6
    have KA6 := Lib.hid ka6
    have KE6 := Lib.hid ke6
    have KN6 := Lib.hid kn6
    have HX6 := Lib.hid hX6
    clear ka6 ke6 kn6 hX6 za ze ca ce la le ln n0 z0 n1 z1 n2 z2 n3 z3 n4 z4 n5 z5 n6 z6 n7 z7 n8 z8 n9 z9 n10 z10 n11 z11 n12 z12 n13 z13 n14 z14 n15 z15 n16 z16
    go_wp2_with fail
    exact ⟨_, res3 rfl rfl rfl KN6.out rfl KA6.out KE6.out, HX6.out, .inr ⟨c, i, HRe.out, rfl⟩⟩
  · have hSz : s.length = S.size := by rw [← HSS.out, mk_size]
    rw [hSz] at hx hlim
    obtain ⟨p, cap, rfl, hcap, -⟩ := toks_at hown
    have HRe := Lib.hid hRe
    have HLIM := Lib.hid hlim
    have HX := Lib.hid hx
    have HOWN := Lib.hid hown
    have ka := HE4.out.blk HG2.out
    have ke := HE4.out.blk HG3.out
    have kn := HE4.out.blk HG1.out
    have la := blk_lt ka
    have le := blk_lt ke
    have KA := Lib.hid ka
    have KE := Lib.hid ke
    have KN := Lib.hid kn
    have za := frozen_of_row w4 (g + 1) 0 _ _ ka
    have ze := frozen_of_row w4 (g + 1 + 1) 0 _ _ ke
    have ca := cell_of_row w4 (g + 1) 0 _ _ _ ka
    have ce := cell_of_row w4 (g + 1 + 1) 0 _ _ _ ke
    simp only [List.getElem?_toArray, List.getElem?_cons_zero, List.getElem?_cons_succ] at ca ce
    have HW0 : Hid (Ext W w4) := Lib.hid (HE3.out.trans HE4.out)
    obtain ⟨N, hN⟩ : ∃ N, ts.length = N := ⟨_, rfl⟩
    have HN := Lib.hid hN
    rw [hN]
    clear ka ke kn hRe hall hlim hx hown hcap hSz hN
    go_upto_region 2 with (fail)
    obtain ⟨W5, hW5⟩ : ∃ W5, (w4.setCell ⟨g + 1, 0, none⟩ (.int .i64 0)).setCell ⟨g + 1 + 1, 0, none⟩ (.int .i64 0) = W5 := ⟨_, rfl⟩
    have hX5 : Ext W W5 := by rw [← hW5]; exact below_set (below_set HW0.out (by show W.heap.size ≤ g + 1; rw [HG.out]; omega)) (by show W.heap.size ≤ g + 1 + 1; rw [HG.out]; omega)
    have hX35 : Ext W3 W5 ∨ True := .inr trivial
    have kn : W5.heap[g]? = some (.cells zN 33 (0, 0)) := by rw [← hW5, hq_cell (by omega), hq_cell (by omega)]; exact KN.out
    have ka : W5.heap[g + 1]? = some (.cells #[.int .i64 0] 3 (0, 0)) := by rw [← hW5, hq_cell (by omega), hq_put rfl, KA.out]; rfl
    have ke : W5.heap[g + 1 + 1]? = some (.cells #[.int .i64 0] 34 (0, 0)) := by rw [← hW5, hq_put rfl, hq_cell (by omega), KE.out]; rfl
    have hown5 : W5.ownsRow W3.heap.size 61 3 (.slice p ts.length cap) ts.length (tcells ts) := by
      rw [← hW5]
      exact ownsRow_setCell_below (ownsRow_setCell_below HOWN.out (a := ⟨g + 1, 0, none⟩) (by show g + 1 < W3.heap.size; rw [HSZ.out]; omega) _) (a := ⟨g + 1 + 1, 0, none⟩) (by show g + 1 + 1 < W3.heap.size; rw [HSZ.out]; omega) _
    rw [hW5]
    clear hW5 za ze ca ce la le hX35
    have ce := cell_of_row W5 (g + 1 + 1) 0 _ _ _ ke
    simp only [List.getElem?_toArray, List.getElem?_cons_zero, List.getElem?_cons_succ] at ce
    obtain ⟨W6, hW6, hE6, hG6, hL6, hS6⟩ := new_blk W5 #[.slice p N cap, .int .i64 (sh : Int), .int .i64 (S.size : Int), .int .i64 0] 55
    have hP6 : PAt W5.heap.size sh S.size 0 ts W6 := by
      have := pat_new hown5 rfl HLIM.out
      rw [HN.out, hW6] at this
      exact this
    have HW6 := Lib.hid hW6
    have HX6 := Lib.hid (hX5.trans hE6)
    have HP6 := Lib.hid hP6
    have HKN := Lib.hid (hE6.blk kn)
    have HKA := Lib.hid (hE6.blk ka)
    have HKE := Lib.hid (hE6.blk ke)
    have HEX := Lib.hid (expr_any sh S.size _ W5.heap.size 0 0 ts R1 W6 HX.out (by omega) hP6 (HE.out.ext HX6.out) (HE.out.low.mono (by have := hX5.size; omega)))
    obtain ⟨b, hb⟩ : ∃ b, W5.heap.size = b := ⟨_, rfl⟩
    rw [hb] at HP6 HEX
    have HB : Hid (W5.heap.size = b) := Lib.hid hb
    have HB6 : Hid (b < W6.heap.size) := Lib.hid (by omega)
    have HGB : Hid (g + 2 < b) := Lib.hid (by have := blk_lt ke; omega)
    clear hW6 hE6 hG6 hL6 hS6 hP6 kn ka ke hown5 hX5 hb
    go_upto_region 6 with (fail)
    rw [HW6.out, HB.out]
    clear HW6 ce
    go_wp2_with fail
    refine HEX.out.mono ?_
    rintro e w7 (⟨x, r, f, rfl, rfl, hRep, hP7, hX7⟩ | ⟨c, q, rfl, rfl, hX7⟩)
    case inr =>
      exact parse_caught (fn := zF) (by rw [HRe.out]) HG.out (hX7.ext HX6.out (by have := HGB.out; have := HG.out; omega)) (hX7.blk HKN.out (by have := HGB.out; omega)) (hX7.blk HKA.out (by have := HGB.out; omega)) (hX7.blk HKE.out (by have := HGB.out; omega)) rfl rfl rfl
    have HRep := Lib.hid hRep
    have HP7 := Lib.hid hP7
    have HX7 := Lib.hid hX7
    have kn7 : w7.heap[g]? = some (.cells zN 33 (0, 0)) := hX7.blk HKN.out (by have := HGB.out; omega)
    obtain ⟨W8, hW8⟩ : ∃ W8, w7.setRow g f.cells = W8 := ⟨_, rfl⟩
    have HX78 : Hid (∀ k, k ≠ g → W8.heap[k]? = w7.heap[k]?) := Lib.hid (fun k hk => by rw [← hW8]; exact setRow_other w7 g k _ hk)
    have HW08 : Hid (Ext W W8) := Lib.hid (by rw [← hW8]; exact below_row (hX7.ext HX6.out (by have := HGB.out; have := HG.out; omega)) (by rw [HG.out]; exact Nat.le_refl _))
    have kn8 : W8.heap[g]? = some (.cells f.cells 33 (0, 0)) := by rw [← hW8, hq_same rfl, kn7]; rfl
    have ka8 : W8.heap[g + 1]? = some (.cells #[.int .i64 0] 3 (0, 0)) := by rw [HX78.out _ (by omega)]; exact hX7.blk HKA.out (by have := HGB.out; omega)
    have ke8 : W8.heap[g + 1 + 1]? = some (.cells #[.int .i64 0] 34 (0, 0)) := by rw [HX78.out _ (by omega)]; exact hX7.blk HKE.out (by have := HGB.out; omega)
    have HP8 : Hid (PAt b sh S.size 0 r W8) := Lib.hid (by rw [← hW8]; exact hP7.rowz kn7 (by have := HGB.out; omega) _)
    have hRep8 : Rep W8 (fun k => W.heap.size ≤ k ∧ k ≠ g) x f := by
      rw [← hW8]
      exact (hRep.keeps (fun k hk _ => setRow_other w7 g k _ (by have := HGB.out; have := HB6.out; omega))).imp' (fun k hk _ => by have := HX6.out.size; have := HG.out; have := HGB.out; have := HB6.out; omega)
    have HREP8 := Lib.hid hRep8
    have HF := Lib.hid (fail_at b sh S.size 0 r 2 W8 HP8.out)
    obtain ⟨p', c', hPS⟩ := HP8.out
    have cb := hPS.cells.1
    have hrl := hPS.lim.1
    have HW8 := Lib.hid hW8
    have KN8 := Lib.hid kn8
    have KA8 := Lib.hid ka8
    have KE8 := Lib.hid ke8
    clear hRep hP7 hX7 hW8 kn8 ka8 ke8 hRep8 hPS
    unfold Fl.val
    go_upto_region 7 with (first | ((with_reducible refine wpl_guard (isStore 33) ?_ ?_); (· rfl); refine wpl_store (t := ?_) (old := ?_) (w' := ?_) rfl 33 _ _ rfl rfl rfl ?_ ?_ ?_ ?_ ?_ ?_; rotate_left 2; (· (first | (with_reducible assumption) | (simp (disch := (first | omega | (simp only [World.size_alloc, World.size_setCell, World.size_drew, size_setRow]; done) | (simp only [World.size_alloc, World.size_setCell, World.size_drew, size_setRow]; omega))) only [hq_at, hq_past, hq_drew, hq_drewN, hq_cell, hq_row, hq_same, rowOf_cells, Option.map_some, *]; rfl) | (simp (disch := (first | omega | (simp only [World.size_alloc, World.size_setCell, World.size_drew, size_setRow]; done) | (simp only [World.size_alloc, World.size_setCell, World.size_drew, size_setRow]; omega))) only [hq_at, hq_past, hq_drew, hq_drewN, hq_cell, hq_row, hq_same, rowOf_cells, Option.map_some, *]))); (· kernel_rfl); (· rfl); (· rfl); rotate_left 1; (· (first | (simp (disch := (first | omega | (simp only [World.size_alloc, World.size_setCell, World.size_drew, size_setRow]; done) | (simp only [World.size_alloc, World.size_setCell, World.size_drew, size_setRow]; omega))) only [setRow_at, setRow_past, setRow_drew]; rfl) | rfl))))
    rw [HW8.out]
    clear HW8 kn7
    cases r with
    | cons t r =>
      have hq : (0 : Int) < (((t :: r).length : Nat) : Int) := by simp only [List.length_cons]; omega
      have hrl' : (((t :: r).length : Nat) : Int) ≤ 1000 := by omega
      obtain ⟨M, hM⟩ : ∃ M, (t :: r).length = M := ⟨_, rfl⟩
      rw [hM] at cb hq hrl'
      clear hrl hM
      go_wp2_with fail
      refine HF.out.mono ?_
      rintro e w9 ⟨rfl, rfl⟩
      exact parse_caught (by rw [HRe.out]; rfl) HG.out HW08.out KN8.out KA8.out KE8.out rfl rfl rfl
    | nil =>
      have ka := KA8.out
      have ke := KE8.out
      have kn := KN8.out
      simp only [List.length_nil] at cb
      clear hrl ka ke
      obtain ⟨W9, hW9⟩ : ∃ W9, W8.setRow g f.cells = W9 := ⟨_, rfl⟩
      have hn9 : ∀ k, k ≠ g → W9.heap[k]? = W8.heap[k]? := fun k hk => by rw [← hW9, hq_row hk]
      have KN9 : Hid (W9.heap[g]? = some (.cells f.cells 33 (0, 0))) := Lib.hid (by rw [← hW9, hq_same rfl, KN8.out]; rfl)
      have HX9 : Hid (Ext W W9) := Lib.hid (by rw [← hW9]; exact below_row HW08.out (by rw [HG.out]; exact Nat.le_refl _))
      have HREP9 : Hid (Rep W9 (fun k => W.heap.size ≤ k ∧ k ≠ g) x f) := Lib.hid (HREP8.out.keeps (fun k hk _ => hn9 k hk.2))
      have ka := (hn9 (g + 1) (by omega)).trans KA8.out
      have ke := (hn9 (g + 1 + 1) (by omega)).trans KE8.out
      have KA9 := Lib.hid ka
      have KE9 := Lib.hid ke
      have za := frozen_of_row W9 (g + 1) 0 _ _ ka
      have ze := frozen_of_row W9 (g + 1 + 1) 0 _ _ ke
      have ca := cell_of_row W9 (g + 1) 0 _ _ _ ka
      have ce := cell_of_row W9 (g + 1 + 1) 0 _ _ _ ke
      simp only [List.getElem?_toArray, List.getElem?_cons_zero, List.getElem?_cons_succ] at ca ce
      have la := blk_lt ka
      have le := blk_lt ke
      have HW9 := Lib.hid hW9
      clear ka ke hn9 hW9
      go_wp2_with (first | ((with_reducible refine wpl_guard (isLoad 33) ?_ ?_); (· rfl); refine wpl_load (t := ?_) (cs := ?_) (fr := ?_) rfl 33 _ rfl rfl ?_ Tryd.underlying33 rfl ?_ ?_; rotate_left 3; (· (first | (with_reducible assumption) | (simp (disch := (first | omega | (simp only [World.size_alloc, World.size_setCell, World.size_drew, size_setRow]; done) | (simp only [World.size_alloc, World.size_setCell, World.size_drew, size_setRow]; omega))) only [hq_at, hq_past, hq_drew, hq_drewN, hq_cell, hq_row, hq_same, rowOf_cells, Option.map_some, *]; rfl) | (simp (disch := (first | omega | (simp only [World.size_alloc, World.size_setCell, World.size_drew, size_setRow]; done) | (simp only [World.size_alloc, World.size_setCell, World.size_drew, size_setRow]; omega))) only [hq_at, hq_past, hq_drew, hq_drewN, hq_cell, hq_row, hq_same, rowOf_cells, Option.map_some, *]))); (· kernel_rfl); (try dsimp only [Act.put, List.setIfInBounds_toArray, List.set_cons_zero, List.set_cons_succ])) | ((with_reducible refine wpl_guard (isStore 33) ?_ ?_); (· rfl); refine wpl_store rfl 33 _ _ rfl rfl rfl kn ?_ rfl rfl HW9.out ?_; (· kernel_rfl)))
      have hn10 : ∀ k, ((W9.setCell ⟨g + 1, 0, none⟩ (.int .i64 0)).setCell ⟨g + 1 + 1, 0, none⟩ (.int .i64 0)).heap[k]? = W9.heap[k]? := fun k => by
        by_cases h2 : k = g + 1 + 1
        · subst h2
          rw [hq_put rfl, hq_cell (by omega), KE9.out]
          rfl
        · rw [hq_cell h2]
          by_cases h1 : k = g + 1
          · subst h1
            rw [hq_put rfl, KA9.out]
            rfl
          · rw [hq_cell h1]
      refine (show Leaves _ _ _ _ _ _ _ from ?_)
      refine parse_idle (R := R) (t := x) (f := f) HRe.out ?_ ((hn10 _).trans KN9.out) ((hn10 _).trans KA9.out) ((hn10 _).trans KE9.out) ((HREP9.out.keeps (fun k hk _ => hn10 k)).imp' (fun k hk _ => hk.1)) rfl rfl rfl
      exact below_set (below_set HX9.out (by show W.heap.size ≤ g + 1; rw [HG.out]; omega)) (by show W.heap.size ≤ g + 1 + 1; rw [HG.out]; omega)
open Go.RowKit Go.ChangeShapes
set_option linter.unusedVariables false

/-- An array of texts that reads as a list of them holds just these. -/
theorem cells_of_texts {H : Type} {enc : TypeId × Value → H} {P : Program} {w : World} {base : Nat} {sp : Nat → Bool} {held : Bool} {fuel : Nat} {t e : TypeId} {n : Nat} {cs : List Value} {zs : List (List UInt8)} {p : List MemPlace}
    (ht : P.underlying t = some (.array n e)) (he : P.underlying e = some .string) (hce : P.cellsOf e = 1) (hct : P.cellsOf t = n)
    (h : DataW.trod enc P w base sp held fuel t cs = some (.agg (zs.map fun z => .lit (.string z)), p)) : cs = zs.map fun z => Value.string ⟨z.toArray⟩ := by
  cases fuel with
  | zero => simp [DataW.trod] at h
  | succ fuel =>
    simp only [DataW.trod, ht, hce, hct, Nat.mul_one] at h
    split at h
    · rename_i hl
      obtain ⟨xs, hm, hx⟩ := Option.map_eq_some_iff.1 h
      have hxs : xs.map (·.1) = zs.map fun z => (DataW.lit (.string z) : DataW H) := by
        have := congrArg Prod.fst hx
        simpa using this
      have hxl : xs.length = n := by simpa using Lib.mapM_length hm
      have hzl : zs.length = n := by
        have := congrArg List.length hxs
        simp at this
        omega
      apply List.ext_getElem?
      intro i
      by_cases hi : i < n
      · obtain ⟨b, hb, hf⟩ := Lib.mapM_at hm i i (by simp [hi])
        obtain ⟨s, hc, rfl, _⟩ := DataW.trod_string he hf
        have h1 : cs[i]? = some (.string s) := by
          have := congrArg (·[0]?) hc
          simpa [List.getElem?_take, List.getElem?_drop] using this
        have h2 : (xs.map (·.1))[i]? = some (DataW.lit (.string s.data.toList) : DataW H) := by simp [hb]
        rw [hxs] at h2
        simp only [List.getElem?_map, Option.map_eq_some_iff, DataW.lit.injEq, Lit.string.injEq] at h2
        obtain ⟨z', hz', hzs⟩ := h2
        have hs : s = ⟨z'.toArray⟩ := ByteArray.ext (Array.ext' (by rw [hzs]))
        simp [h1, hz', hs]
      · rw [List.getElem?_eq_none (by omega), List.getElem?_eq_none (by simp; omega)]
    · cases h
def laidLX : List (String × DataW Unit) := [("math/bits.deBruijn32tab", Rows.laid_math_bits_deBruijn32tab), ("math/bits.deBruijn64tab", Rows.laid_math_bits_deBruijn64tab), ("internal/strconv.uint64pow10", Rows.laid_internal_strconv_uint64pow10), ("strconv.ErrRange", Rows.laid_strconv_ErrRange), ("strconv.ErrSyntax", Rows.laid_strconv_ErrSyntax), ("unicode.White_Space", Rows.laid_unicode_White_Space), ("strings.asciiSpace", Rows.laid_strings_asciiSpace), ("reckoner/parse.levels", Rows.laid_reckoner_parse_levels)]
theorem gLvl : Tryd.prog.globalNamed "reckoner/parse.levels" = some 1 := by kernel_rfl
theorem gLvlType : (Tryd.prog.globals[1]?).map (·.type) = some 79 := by kernel_rfl
theorem lvl_data : (Rows.laid_reckoner_parse_levels : DataW Unit) = .agg (((List.range 4).map fun k => (lvlTxt k).data.toList).map fun z => .lit (.string z)) := by kernel_rfl
theorem levels_of {W : World} {r : List (String × DataW Unit)} (h : laidMet Tryd.prog (("reckoner/parse.levels", Rows.laid_reckoner_parse_levels) :: r) W) : ∀ k, k < 4 → W.cell? ⟨1, k, none⟩ = some (.string (lvlTxt k)) := by
  obtain ⟨ps, ⟨g0, t0, cs0, f0, p0, q0, hg0, ht0, hv0, hd0, _, _⟩, _⟩ := h
  obtain rfl := Option.some.inj (gLvl.symm.trans hg0)
  obtain rfl := Option.some.inj (gLvlType.symm.trans ht0)
  rw [lvl_data] at hd0
  have hcs := cells_of_texts Tryd.underlying79 Tryd.underlying9 (by kernel_rfl) (by kernel_rfl) hd0
  intro k hk
  rw [World.var?_cell gLvl hv0 k, ← Array.getElem?_toList, hcs]
  have : k = 0 ∨ k = 1 ∨ k = 2 ∨ k = 3 := by omega
  rcases this with rfl | rfl | rfl | rfl <;> rfl
theorem env_of_laidX {W : World} (h : laidMetH Tryd.prog laidLX W) (hsh : W.ShapedOpen Tryd.prog) : EnvX W := by
  rw [MakeChecks.laidMetH_plain _ _ _ (by kernel_rfl)] at h
  exact ⟨⟨tab_of h.tail.tail.tail.tail.tail.tail, max_of_shape hsh, pow_of h.tail.tail, sx_of h.tail.tail.tail.tail, rg_of h.tail.tail.tail⟩, levels_of h.tail.tail.tail.tail.tail.tail.tail⟩
def numT (n : Int) : Tr := litT 1 n []
theorem fit_parse : parseF [49, 43, 50, 42, 51] 0 = some (.ok (.mk (parS 7 1) [numT 1000000, .mk (parS 7 3) [numT 2000000, numT 3000000]])) := by kernel_rfl
theorem len2 {α : Type} {l : List α} (h : l.length = 2) : ∃ a b, l = [a, b] := by
  match l, h with
  | [a, b], _ => exact ⟨a, b, rfl⟩
/-- A tree's parts, as they lie. -/
theorem Rep.open2 {W : World} {S : Nat → Prop} {s : Sc} {t u : Tr} {f : Fl} (h : Rep W S (.mk s [t, u]) f) : ∃ g o cap f0 f1, f = s.fl (some ⟨g, o, none⟩) 2 cap ∧ S g ∧ NodeAt W g o f0 ∧ NodeAt W g (o + 17) f1 ∧ Rep W S t f0 ∧ Rep W S u f1 := by
  cases h with
  | mk s ts p cap fs ho hn hl hs hk =>
    obtain ⟨f0, f1, rfl⟩ := len2 hl
    obtain ⟨g, o, hp, hS, hN⟩ := hs 0 f0 rfl
    obtain ⟨g', o', e, hS', hN'⟩ := hs 1 f1 rfl
    have he : (some (⟨g, o, none⟩ : Addr)) = some ⟨g', o', none⟩ := hp.symm.trans e
    injection he with he
    injection he with h1 h2
    subst hp h1 h2
    exact ⟨g, o, cap, f0, f1, rfl, hS, by simpa using hN, by simpa using hN', hk 0 t f0 rfl rfl, hk 1 u f1 rfl rfl⟩
theorem Rep.own {W : World} {S : Nat → Prop} {s : Sc} {l : List Tr} {f : Fl} (h : Rep W S (.mk s l) f) : ∃ p cap, f = s.fl p l.length cap := by
  cases h with
  | mk s ts p cap fs ho hn hl hs hk => exact ⟨p, cap, rfl⟩
theorem NodeAt.ext {W w : World} {g o : Nat} {f : Fl} (h : NodeAt W g o f) (hE : Ext W w) : NodeAt w g o f := fun j v hj => ext_cell (World.block_lt_of_cell? _ _ (h j v hj)) (h j v hj) w hE
/-- A node's kind, its operator, its value's kind. -/
theorem NodeAt.k {W : World} {g o : Nat} {f : Fl} (h : NodeAt W g o f) : W.cell? ⟨g, o, none⟩ = some (.int .i64 f.k) := h 0 _ rfl
theorem NodeAt.op {W : World} {g o : Nat} {f : Fl} (h : NodeAt W g o f) : W.cell? ⟨g, o + 1, none⟩ = some (.int .i64 f.op) := h 1 _ rfl
theorem NodeAt.vk {W : World} {g o : Nat} {f : Fl} (h : NodeAt W g o f) : W.cell? ⟨g, o + 2, none⟩ = some (.int .i64 f.vk) := h 2 _ rfl
theorem cyc (m : Nat) (n : Int) (h0 : 0 < m) (h1 : m ≤ 1000) : ∃ k : Nat, (wrap64 (n.tmod (m : Int) + (m : Int))).tmod (m : Int) = (k : Int) ∧ k < m := by
  have h2 := Int.tmod_lt_of_pos n (show (0 : Int) < (m : Int) by omega)
  have h3 : -(m : Int) < n.tmod (m : Int) := Int.lt_tmod_of_pos n (by omega)
  rw [IntWalk.wrap64_in _ ⟨by omega, by omega⟩, Int.tmod_eq_emod_of_nonneg (by omega)]
  have h4 := Int.emod_nonneg (n.tmod (m : Int) + (m : Int)) (show (m : Int) ≠ 0 by omega)
  have h5 := Int.emod_lt_of_pos (n.tmod (m : Int) + (m : Int)) (show (0 : Int) < (m : Int) by omega)
  exact ⟨((n.tmod (m : Int) + (m : Int)) % (m : Int)).toNat, by omega, by omega⟩
set_option maxRecDepth 100000 in
set_option maxHeartbeats 4000000 in
theorem fit6 (W : World) (hE : EnvX W) : Calls Tryd.prog 10 #[] W fun e w' => e = .returned (.bool true) ∧ Ext W w' := by
  have HP := Lib.hid (pars_any [49, 43, 50, 42, 51] 0 _ W fit_parse (by decide) hE)
  clear hE
  go_enter Tryd.func10, Tryd.ntmps10
  go_wp2_with fail
  refine HP.out.mono ?_
  rintro e w2 ⟨hX, ⟨t, f, hR, rfl, hRep⟩ | ⟨c, p, hR, -⟩⟩
  case inr => cases hR
  injection hR with hR
  subst hR
  obtain ⟨g, o, cap, f0, f1, rfl, -, hN0, hN1, hr0, hr1⟩ := hRep.open2
  obtain ⟨p1, cap1, rfl⟩ := hr1.own
  obtain ⟨W3, hW3, hE3, hG3, hL3, hS3⟩ := new_blk w2 ((parS 7 1).fl (some ⟨g, o, none⟩) 2 cap).cells 33
  have HX := Lib.hid (hX.trans hE3)
  have c1 : W3.cell? ⟨w2.heap.size, 1, none⟩ = some (.int .i64 1) := by rw [cell_of_row W3 w2.heap.size 1 _ _ _ hG3]; rfl
  have c16 : W3.cell? ⟨w2.heap.size, 16, none⟩ = some (.slice (some ⟨g, o, none⟩) 2 cap) := by rw [cell_of_row W3 w2.heap.size 16 _ _ _ hG3]; rfl
  have cn : W3.cell? ⟨g, o + 17 + 1, none⟩ = some (.int .i64 3) := (hN1.ext hE3).op
  have HW3 := Lib.hid hW3
  clear hRep hN0 hN1 hr0 hr1 hX hW3 hE3 hG3 hL3 hS3 HP
  unfold Fl.val
  go_upto_region 2 with (first | ((with_reducible refine wpl_guard (isStore 33) ?_ ?_); (· rfl); refine wpl_store (t := ?_) (old := ?_) (w' := ?_) rfl 33 _ _ rfl rfl rfl ?_ ?_ ?_ ?_ ?_ ?_; rotate_left 2; (· (first | (with_reducible assumption) | (simp (disch := (first | omega | (simp only [World.size_alloc, World.size_setCell, World.size_drew, size_setRow]; done) | (simp only [World.size_alloc, World.size_setCell, World.size_drew, size_setRow]; omega))) only [hq_at, hq_past, hq_drew, hq_drewN, hq_cell, hq_row, hq_same, rowOf_cells, Option.map_some, *]; rfl) | (simp (disch := (first | omega | (simp only [World.size_alloc, World.size_setCell, World.size_drew, size_setRow]; done) | (simp only [World.size_alloc, World.size_setCell, World.size_drew, size_setRow]; omega))) only [hq_at, hq_past, hq_drew, hq_drewN, hq_cell, hq_row, hq_same, rowOf_cells, Option.map_some, *]))); (· kernel_rfl); (· rfl); (· rfl); rotate_left 1; (· (first | (simp (disch := (first | omega | (simp only [World.size_alloc, World.size_setCell, World.size_drew, size_setRow]; done) | (simp only [World.size_alloc, World.size_setCell, World.size_drew, size_setRow]; omega))) only [setRow_at, setRow_past, setRow_drew]; rfl) | rfl))))
  rw [HW3.out]
  clear HW3
  go_wp2_with fail
  go_ret
  exact ⟨rfl, HX.out⟩
end Go.Proofs.YtffogjhjgmohiaaDoor
