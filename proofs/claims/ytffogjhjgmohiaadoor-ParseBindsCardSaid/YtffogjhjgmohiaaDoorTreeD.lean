/-
  tree: Size: walk. Conditions: each theorem's own.
-/
import Derived.Test.YtffogjhjgmohiaaDoorTreeC
import Derived.Deep.CutBlock
import Derived.Deep.DeepCutAuto
namespace Go.Proofs.YtffogjhjgmohiaaDoor
open Go.RowKit
set_option linter.unusedVariables false
set_option linter.unusedSimpArgs false

set_option maxRecDepth 100000 in
set_option maxHeartbeats 4000000 in
theorem size_any (n : Nat) : ∀ (t : Tr) (f : Fl) (B : Nat → Prop) (W : World), sizeT t ≤ n → sizeT t ≤ 4000000000000000000 → Rep W B t f →
    Calls Tryd.prog 12 #[f.val] W fun e w' => e = .returned (.int .i64 (sizeT t : Int)) ∧ Ext W w' := by
  induction n with
  | zero =>
    rintro ⟨s, l⟩ f B W h
    simp only [sizeT] at h
    omega
  | succ n ih =>
    rintro t f B W hsz hbig ⟨s, ts, p, cap, fs, ho, hn, hl, hs, hk⟩
    have hSZ : sizeT (.mk s ts) = 1 + sizeL ts := by simp only [sizeT]
    rw [hSZ] at hsz hbig ⊢
    clear hSZ
    obtain ⟨W1, hW1, hE1, hG1, hL1, hS1⟩ := new_blk W (s.fl p ts.length cap).cells 33
    have HW1 := Lib.hid hW1
    have HE1 := Lib.hid hE1
    have HK := Lib.hid hk
    have HS := Lib.hid hs
    have HL := Lib.hid hl
    have HSZ := Lib.hid hsz
    have HBIG := Lib.hid hbig
    have HIH := Lib.hid ih
    obtain ⟨N, hN⟩ : ∃ N, ts.length = N := ⟨_, rfl⟩
    rw [hN] at hG1 hn
    have hG1' : W1.heap[W.heap.size]? = some (.cells #[.int .i64 s.k, .int .i64 s.op, .int .i64 s.vk, .int .i64 s.vn, .string s.vs, .int .i64 s.A.s, .int .i64 s.A.c, .int .i64 s.A.r, .bool s.A.x, .bool s.A.y,
      .int .i64 s.B.s, .int .i64 s.B.c, .int .i64 s.B.r, .bool s.B.x, .bool s.B.y, .string s.nm, .slice p N cap] 33 (0, 0)) := hG1
    have c16 := cell_of_row W1 W.heap.size 16 _ _ _ hG1'
    simp only [List.getElem?_toArray, List.getElem?_cons_zero, List.getElem?_cons_succ] at c16
    have hN' : (N : Int) ≤ 1000 := by omega
    have HN := Lib.hid hN
    clear ho hW1 hE1 hG1 hL1 hS1 hk hs hl hsz ih hN hG1' hbig
    unfold Fl.val
    go_enter Tryd.func12, Tryd.ntmps12
    go_upto_region 1 with (fail)
    rw [HW1.out]
    clear HW1
    go_wp2_with fail
    go_loopw [3, 5, 9] (fun ss _ si wr => ∃ k : Nat, k ≤ N ∧ si = .int .i64 (k : Int) ∧ ss = .int .i64 ((1 + sizeL (ts.take k) : Nat) : Int) ∧ Hid (Ext W1 wr)) (fun _ _ si _ => N - (intOf si).toNat)
    case atStart => exact ⟨0, by omega, rfl, rfl, Lib.hid (Ext.refl _)⟩
    case round =>
      obtain ⟨k, hk, rfl, rfl, HX⟩ := hrel
      by_cases hkN : k = N
      · subst hkN
        have HV : Hid (((1 + sizeL (ts.take k) : Nat) : Int) = ((1 + sizeL ts : Nat) : Int)) := Lib.hid (by rw [List.take_of_length_le (by rw [HN.out]; exact Nat.le_refl _)])
        go_wp2_with fail
        go_ret
        exact ⟨by rw [← HV.out]; rfl, HE1.out.trans HX.out⟩
      have hkN' : (k : Int) < (N : Int) := by omega
      obtain ⟨t, ht⟩ : ∃ t, ts[k]? = some t := ⟨_, List.getElem?_eq_getElem (by rw [HN.out]; omega)⟩
      obtain ⟨f, hf⟩ : ∃ f, fs[k]? = some f := ⟨_, List.getElem?_eq_getElem (by rw [HL.out, HN.out]; omega)⟩
      obtain ⟨g, o, rfl, hB, hNA⟩ := HS.out k f hf
      have hna := hNA.keeps hB (.of_ext (HE1.out.trans HX.out))
      clear hNA
      go_wp2_with (first | ((with_reducible refine wpl_guard (isLoad 33) ?_ ?_); (· rfl); refine wpl_load_node rfl 33 _ rfl rfl hna Tryd.underlying33 rfl ?_ ?_; (· kernel_rfl); (try dsimp only [Act.put, List.setIfInBounds_toArray, List.set_cons_zero, List.set_cons_succ])) | ((with_reducible refine wpl_guard (isLoad 33) ?_ ?_); (· rfl); refine wpl_load (t := ?_) (cs := ?_) (fr := ?_) rfl 33 _ rfl rfl ?_ Tryd.underlying33 rfl ?_ ?_; rotate_left 3; (· (first | (with_reducible assumption) | (simp (disch := (first | omega | (simp only [World.size_alloc, World.size_setCell, World.size_drew, size_setRow]; done) | (simp only [World.size_alloc, World.size_setCell, World.size_drew, size_setRow]; omega))) only [hq_at, hq_past, hq_drew, hq_drewN, hq_cell, hq_row, hq_same, rowOf_cells, Option.map_some, *]; rfl) | (simp (disch := (first | omega | (simp only [World.size_alloc, World.size_setCell, World.size_drew, size_setRow]; done) | (simp only [World.size_alloc, World.size_setCell, World.size_drew, size_setRow]; omega))) only [hq_at, hq_past, hq_drew, hq_drewN, hq_cell, hq_row, hq_same, rowOf_cells, Option.map_some, *]))); (· kernel_rfl); (try dsimp only [Act.put, List.setIfInBounds_toArray, List.set_cons_zero, List.set_cons_succ])) | ((with_reducible refine wpl_guard (isStore 33) ?_ ?_); (· rfl); refine wpl_store (t := ?_) (old := ?_) (w' := ?_) rfl 33 _ _ rfl rfl rfl ?_ ?_ ?_ ?_ ?_ ?_; rotate_left 2; (· (first | (with_reducible assumption) | (simp (disch := (first | omega | (simp only [World.size_alloc, World.size_setCell, World.size_drew, size_setRow]; done) | (simp only [World.size_alloc, World.size_setCell, World.size_drew, size_setRow]; omega))) only [hq_at, hq_past, hq_drew, hq_drewN, hq_cell, hq_row, hq_same, rowOf_cells, Option.map_some, *]; rfl) | (simp (disch := (first | omega | (simp only [World.size_alloc, World.size_setCell, World.size_drew, size_setRow]; done) | (simp only [World.size_alloc, World.size_setCell, World.size_drew, size_setRow]; omega))) only [hq_at, hq_past, hq_drew, hq_drewN, hq_cell, hq_row, hq_same, rowOf_cells, Option.map_some, *]))); (· kernel_rfl); (· rfl); (· rfl); rotate_left 1; (· (first | (simp (disch := (first | omega | (simp only [World.size_alloc, World.size_setCell, World.size_drew, size_setRow]; done) | (simp only [World.size_alloc, World.size_setCell, World.size_drew, size_setRow]; omega))) only [setRow_at, setRow_past, setRow_drew]; rfl) | rfl))))
      have hm := sizeL_mem ht
      have HT := Lib.hid (sizeL_take ht)
      have hle := sizeL_take_le ts (k + 1)
      rw [HT.out] at hle
      have hX2 := (HE1.out.trans HX.out).trans (below_alloc1 wr (.cells f.cells 33))
      refine (HIH.out t f B _ (by have := HSZ.out; omega) (by have := HBIG.out; omega) ((HK.out k t f ht hf).ext hX2)).mono ?_
      rintro e w' ⟨rfl, hE3⟩
      have HX3 : Hid (Ext W1 w') := Lib.hid ((HX.out.trans (below_alloc1 wr (.cells f.cells 33))).trans hE3)
      have hbig := HBIG.out
      obtain ⟨a, ha⟩ : ∃ a, sizeL (ts.take k) = a := ⟨_, rfl⟩
      obtain ⟨b, hb⟩ : ∃ b, sizeT t = b := ⟨_, rfl⟩
      rw [ha, hb] at hle
      rw [ha, hb] at HT
      have hsum : (1 : Int) + (a : Int) + (b : Int) ≤ 4000000000000000000 := by omega
      have ha0 : (0 : Int) ≤ (a : Int) := by omega
      have hb0 : (0 : Int) ≤ (b : Int) := by omega
      have HK1 : Hid (k + 1 ≤ N) := Lib.hid (by omega)
      rw [ha, hb]
      clear hm hle hX2 hE3 hna ht hf ha hb hbig HBIG HSZ HIH hB hk
      go_wp2_with fail
      exact ⟨⟨k + 1, HK1.out, rfl, by rw [HT.out]; congr 1; omega, HX3⟩, by simp [intOf]; omega⟩
end Go.Proofs.YtffogjhjgmohiaaDoor
