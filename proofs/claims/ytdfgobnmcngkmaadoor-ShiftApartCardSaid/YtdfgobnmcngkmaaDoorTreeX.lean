/-
  tree: Map, with any function's value, of trees whose leaves meet a property: walk. Conditions: each theorem's own.
-/
import Derived.Test.YtdfgobnmcngkmaaDoorTreeS
namespace Go.Proofs.YtdfgobnmcngkmaaDoor
open Go.RowKit
set_option linter.unusedVariables false
set_option linter.unusedSimpArgs false

/-- Each node that is turned meets G. -/
inductive LeafG (G : Sc → Prop) : Tr → Prop
  | mk (s : Sc) (l : List Tr) (h : l = [] → s.k ≠ 8 → G s) (hk : ∀ t ∈ l, LeafG G t) : LeafG G (.mk s l)
theorem LeafG.own {G : Sc → Prop} {s : Sc} {l : List Tr} (h : LeafG G (.mk s l)) : l = [] → s.k ≠ 8 → G s := by cases h; assumption
theorem LeafG.kid {G : Sc → Prop} {s : Sc} {l : List Tr} (h : LeafG G (.mk s l)) : ∀ t ∈ l, LeafG G t := by cases h; assumption
/-- A function that turns nodes without parts. -/
def TurnerG (k : Nat) (fst caps : Array Value) (tn : Sc → Tr) (G : Sc → Prop) (J : World → Prop) : Prop := ∀ (W : World) (s : Sc) (p : Option Addr) (cap : Nat), s.ok → G s → J W →
  Calls Tryd.prog k (fst ++ #[(s.fl p 0 cap).val] ++ caps) W fun e w' => (∃ f, e = .returned f.val ∧ Rep w' (fun g => W.heap.size ≤ g) (tn s) f) ∧ Ext W w'
set_option maxRecDepth 100000 in
set_option maxHeartbeats 8000000 in
theorem map_gen (fn : Nat) (fst caps : Array Value) (tn : Sc → Tr) (G : Sc → Prop) (J : World → Prop) (HJ : Hid (∀ W w, J W → Ext W w → J w)) (HT : Hid (TurnerG fn fst caps tn G J)) (hen : ∀ (args : Array Value) (w : World), (callFunc fn args).run Tryd.prog w = .ok (.enter fn args) w) (n : Nat) :
    ∀ (t : Tr) (f : Fl) (B : Nat → Prop) (W : World), sizeT t ≤ n → LeafG G t → Rep W B t f → J W →
    Calls Tryd.prog 30 #[f.val, .func (.func fn) fst caps] W fun e w' => (∃ r, e = .returned r.val ∧ Rep w' (fun g => W.heap.size ≤ g) (mapT tn t) r) ∧ Ext W w' := by
  induction n with
  | zero =>
    rintro ⟨s, l⟩ f B W h
    simp only [sizeT] at h
    omega
  | succ n ih =>
    rintro t f B W hsz hG ⟨s, ts, p, cap, fs, ho, hn, hl, hs, hk⟩ hJ
    have HG := Lib.hid hG.own
    have HGK := Lib.hid hG.kid
    clear hG
    have hSZ : sizeT (.mk s ts) = 1 + sizeL ts := by simp only [sizeT]
    rw [hSZ] at hsz
    clear hSZ
    obtain ⟨N, hN⟩ : ∃ N, ts.length = N := ⟨_, rfl⟩
    obtain ⟨W1, hW1, hE1, hG1, hL1, hS1⟩ := new_blk W (s.fl p N cap).cells 33
    obtain ⟨W2, hW2, hE2, hG2, hL2, hS2⟩ := new_blk W1 #[.int .i64 0, .int .i64 0, .int .i64 0, .int .i64 0, .string ⟨#[]⟩, .int .i64 0, .int .i64 0, .int .i64 0, .bool false, .bool false, .int .i64 0, .int .i64 0, .int .i64 0, .bool false, .bool false, .string ⟨#[]⟩, .slice none 0 0] 33
    rw [hS1] at hG2
    have HW1 := Lib.hid hW1
    have HW2 := Lib.hid hW2
    have HE2 := Lib.hid (hE1.trans hE2)
    have HG1 := Lib.hid (hE2.blk hG1)
    have HG2 := Lib.hid hG2
    have HO := Lib.hid ho
    have HK := Lib.hid hk
    have HS := Lib.hid hs
    have HL := Lib.hid hl
    have HSZ := Lib.hid hsz
    have HIH := Lib.hid ih
    have HJW := Lib.hid hJ
    have hN' : (N : Int) ≤ 1000 := by omega
    have HN := Lib.hid hN
    have HNN : Hid (N ≤ 1000) := Lib.hid (by omega)
    have hg1 := HG1.out
    have hg2 := HG2.out
    have c0 : W2.cell? ⟨W.heap.size, 0, none⟩ = some (.int .i64 s.k) := by rw [cell_of_row W2 W.heap.size 0 _ _ _ hg1]; rfl
    have c16 : W2.cell? ⟨W.heap.size, 16, none⟩ = some (.slice p N cap) := by rw [cell_of_row W2 W.heap.size 16 _ _ _ hg1]; rfl
    rw [hN] at hn ⊢
    clear ho hW1 hE1 hG1 hL1 hS1 hW2 hE2 hG2 hL2 hS2 hk hs hl hsz ih hN hJ
    unfold Fl.val
    go_enter Tryd.func30, Tryd.ntmps30
    go_upto_region 1 with (fail)
    rw [HW1.out, HW2.out]
    clear HW1 HW2
    by_cases hleaf : N = 0 ∧ s.k ≠ 8
    · obtain ⟨hN0, hk8⟩ := hleaf
      subst hN0
      obtain rfl : ts = [] := List.length_eq_zero_iff.1 HN.out
      have hkq : (s.k == 8) = false := by simpa using hk8
      have HM := Lib.hid (mapT_leaf (tn := tn) hk8)
      have HG0 := Lib.hid (HG.out rfl hk8)
      clear hk8
      go_wp2_with (first | ((with_reducible refine wpl_guard (isLoad 33) ?_ ?_); (· rfl); refine wpl_load (t := ?_) (cs := ?_) (fr := ?_) rfl 33 _ rfl rfl ?_ Tryd.underlying33 rfl ?_ ?_; rotate_left 3; (· (first | (with_reducible assumption) | (simp (disch := (first | omega | (simp only [World.size_alloc, World.size_setCell, World.size_drew, size_setRow]; done) | (simp only [World.size_alloc, World.size_setCell, World.size_drew, size_setRow]; omega))) only [hq_at, hq_past, hq_drew, hq_drewN, hq_cell, hq_row, hq_same, rowOf_cells, Option.map_some, *]; rfl) | (simp (disch := (first | omega | (simp only [World.size_alloc, World.size_setCell, World.size_drew, size_setRow]; done) | (simp only [World.size_alloc, World.size_setCell, World.size_drew, size_setRow]; omega))) only [hq_at, hq_past, hq_drew, hq_drewN, hq_cell, hq_row, hq_same, rowOf_cells, Option.map_some, *]))); (· kernel_rfl); (try dsimp only [Act.put, List.setIfInBounds_toArray, List.set_cons_zero, List.set_cons_succ])))
      refine (HT.out W2 s p cap HO.out HG0.out (HJ.out _ _ HJW.out HE2.out)).mono ?_
      rintro e w3 ⟨⟨r, rfl, hR3⟩, hE3⟩
      have HR3 := Lib.hid hR3
      have HE3 := Lib.hid hE3
      have hg3 := hE3.blk HG2.out
      have hlt : W.heap.size + 1 < W2.heap.size := blk_lt HG2.out
      have HLT := Lib.hid hlt
      clear hR3 hE3 hg1 hg2 c0 c16 hlt
      unfold Fl.val
      go_wp2_with (first | ((with_reducible refine wpl_guard (isStore 33) ?_ ?_); (· rfl); refine wpl_store (t := ?_) (old := ?_) (w' := ?_) rfl 33 _ _ rfl rfl rfl ?_ ?_ ?_ ?_ ?_ ?_; rotate_left 2; (· (first | (with_reducible assumption) | (simp (disch := (first | omega | (simp only [World.size_alloc, World.size_setCell, World.size_drew, size_setRow]; done) | (simp only [World.size_alloc, World.size_setCell, World.size_drew, size_setRow]; omega))) only [hq_at, hq_past, hq_drew, hq_drewN, hq_cell, hq_row, hq_same, rowOf_cells, Option.map_some, *]; rfl) | (simp (disch := (first | omega | (simp only [World.size_alloc, World.size_setCell, World.size_drew, size_setRow]; done) | (simp only [World.size_alloc, World.size_setCell, World.size_drew, size_setRow]; omega))) only [hq_at, hq_past, hq_drew, hq_drewN, hq_cell, hq_row, hq_same, rowOf_cells, Option.map_some, *]))); (· kernel_rfl); (· rfl); (· rfl); rotate_left 1; (· (first | (simp (disch := (first | omega | (simp only [World.size_alloc, World.size_setCell, World.size_drew, size_setRow]; done) | (simp only [World.size_alloc, World.size_setCell, World.size_drew, size_setRow]; omega))) only [setRow_at, setRow_past, setRow_drew]; rfl) | rfl))))
      have hg9 : (w3.setRow (W.heap.size + 1) r.cells).heap[W.heap.size + 1]? = some (.cells r.cells 33 (0, 0)) := by rw [hq_same rfl, hg3]; rfl
      refine ret_row rfl rfl hg9 Tryd.underlying33 rfl (by kernel_rfl) rfl ⟨⟨r, rfl, ?_⟩, below_row (HE2.out.trans HE3.out) (Nat.le_succ _)⟩
      rw [HM.out]
      exact (HR3.out.keeps (fun k hk _ => setRow_other w3 _ k _ (by have := HLT.out; omega))).imp' (fun g hg _ => by have := HLT.out; omega)
    have HNL : Hid (ts ≠ [] ∨ s.k = 8) := Lib.hid (by
      by_cases hN0 : N = 0
      · exact .inr (Classical.byContradiction fun h => hleaf ⟨hN0, h⟩)
      · exact .inl (fun e => hN0 (by rw [← HN.out, e]; rfl)))
    go_cut [16] (fun s16 wx => s16 = .bool false ∧ wx = W2)
    case first =>
      by_cases hN0 : N = 0
      · subst hN0
        have hk8 : s.k = 8 := Classical.byContradiction fun h => hleaf ⟨rfl, h⟩
        rw [hk8] at c0
        clear hleaf
        go_wp2_with fail
        go_meet
        case rel => exact ⟨rfl, rfl⟩
      · have hNq : ((N : Int) == 0) = false := by simp; omega
        clear hleaf
        go_wp2_with fail
        go_meet
        case rel => exact ⟨by first | rfl | (simp only [hNq]), rfl⟩
    case rest =>
      obtain ⟨rfl, rfl⟩ := hcut
      have HM := Lib.hid (mapT_node (tn := tn) HNL.out)
      obtain ⟨cs0, hcs0, hmk⟩ := mk_nodes N HNN.out wc
      obtain ⟨W3, hW3, hE3, hG3, hL3, hS3⟩ := new_blk wc cs0 33
      rw [hW3] at hmk
      have HG3 := Lib.hid hG3
      have HE3 := Lib.hid hE3
      have HCS := Lib.hid hcs0
      have c16' : W3.cell? ⟨W.heap.size, 16, none⟩ = some (.slice p N cap) := ext_cell (blk_lt HG1.out) c16 W3 hE3
      have HL3 : Hid (W.heap.size + 1 < wc.heap.size) := Lib.hid (blk_lt HG2.out)
      clear hleaf hcs0 hW3 hG3 hE3 hL3 hS3 HNL
      go_wp2_with (first | ((with_reducible refine wpl_guard isMake ?_ ?_); (· rfl); refine wpl_make rfl _ _ _ rfl rfl rfl hmk ?_))
      go_loopw [27] (fun si wr => ∃ (k : Nat) (l : List Fl), si = .int .i64 (k : Int) ∧ Hid (l.length = k) ∧ k ≤ N ∧ Hid (Part wr wc.heap.size N l) ∧
          Hid (∀ (i : Nat) t f, ts[i]? = some t → l[i]? = some f → Rep wr (fun g => W.heap.size + 1 < g ∧ g ≠ wc.heap.size) (mapT tn t) f) ∧ Hid (Ext wc wr)) (fun si _ => N - (intOf si).toNat)
      case atStart => exact ⟨0, [], rfl, Lib.hid rfl, Nat.zero_le _, Lib.hid ⟨cs0.toList, by simpa [fcells] using HG3.out, by rw [Array.length_toList, HCS.out]; rfl⟩, Lib.hid (fun i t f h1 h2 => by cases h2), HE3⟩
      case round =>
        obtain ⟨k, l, rfl, HLK, hk, HP, HR, HX⟩ := hrel
        clear c0 c16 c16' hg1 hg2
        by_cases hkN : k = N
        · subst hkN
          have hg1 := HX.out.blk HG1.out
          have hg2 := HX.out.blk HG2.out
          have c16r : wr.cell? ⟨W.heap.size, 16, none⟩ = some (.slice p k cap) := by rw [cell_of_row wr W.heap.size 16 _ _ _ hg1]; rfl
          have f16r : wr.frozen? ⟨W.heap.size, 16, none⟩ = false := frozen_of_row wr W.heap.size 16 _ _ hg1
          obtain ⟨w4, hw4⟩ : ∃ w, wr.setCell ⟨W.heap.size, 16, none⟩ (.slice (some ⟨wc.heap.size, 0, none⟩) k k) = w := ⟨_, rfl⟩
          have hg4 : w4.heap[W.heap.size]? = some (.cells (s.fl (some ⟨wc.heap.size, 0, none⟩) k k).cells 33 (0, 0)) := by rw [← hw4, hq_put rfl, hg1]; rfl
          have hg5 : w4.heap[W.heap.size + 1]? = some (.cells #[.int .i64 0, .int .i64 0, .int .i64 0, .int .i64 0, .string ⟨#[]⟩, .int .i64 0, .int .i64 0, .int .i64 0, .bool false, .bool false, .int .i64 0, .int .i64 0, .int .i64 0, .bool false, .bool false, .string ⟨#[]⟩, .slice none 0 0] 33 (0, 0)) := by
            rw [← hw4, Below.heap_setCell wr ⟨W.heap.size, 16, none⟩ _ _ (Nat.succ_ne_self _)]; exact hg2
          have HX4 : Hid (Ext W w4) := Lib.hid (by rw [← hw4]; exact ext_set (HE2.out.trans HX.out) (Nat.le_refl _))
          have HK4 : Hid (∀ g, g ≠ W.heap.size → w4.heap[g]? = wr.heap[g]?) := Lib.hid (fun g hg => by rw [← hw4, Below.heap_setCell wr ⟨W.heap.size, 16, none⟩ _ _ hg])
          have HW4 := Lib.hid hw4
          clear hw4 hg1 hg2
          go_upto_region 10 with (fail)
          rw [HW4.out]
          clear HW4
          go_wp2_with (first | ((with_reducible refine wpl_guard (isLoad 33) ?_ ?_); (· rfl); refine wpl_load (t := ?_) (cs := ?_) (fr := ?_) rfl 33 _ rfl rfl ?_ Tryd.underlying33 rfl ?_ ?_; rotate_left 3; (· (first | (with_reducible assumption) | (simp (disch := (first | omega | (simp only [World.size_alloc, World.size_setCell, World.size_drew, size_setRow]; done) | (simp only [World.size_alloc, World.size_setCell, World.size_drew, size_setRow]; omega))) only [hq_at, hq_past, hq_drew, hq_drewN, hq_cell, hq_row, hq_same, rowOf_cells, Option.map_some, *]; rfl) | (simp (disch := (first | omega | (simp only [World.size_alloc, World.size_setCell, World.size_drew, size_setRow]; done) | (simp only [World.size_alloc, World.size_setCell, World.size_drew, size_setRow]; omega))) only [hq_at, hq_past, hq_drew, hq_drewN, hq_cell, hq_row, hq_same, rowOf_cells, Option.map_some, *]))); (· kernel_rfl); (try dsimp only [Act.put, List.setIfInBounds_toArray, List.set_cons_zero, List.set_cons_succ])) | ((with_reducible refine wpl_guard (isStore 33) ?_ ?_); (· rfl); refine wpl_store (t := ?_) (old := ?_) (w' := ?_) rfl 33 _ _ rfl rfl rfl ?_ ?_ ?_ ?_ ?_ ?_; rotate_left 2; (· (first | (with_reducible assumption) | (simp (disch := (first | omega | (simp only [World.size_alloc, World.size_setCell, World.size_drew, size_setRow]; done) | (simp only [World.size_alloc, World.size_setCell, World.size_drew, size_setRow]; omega))) only [hq_at, hq_past, hq_drew, hq_drewN, hq_cell, hq_row, hq_same, rowOf_cells, Option.map_some, *]; rfl) | (simp (disch := (first | omega | (simp only [World.size_alloc, World.size_setCell, World.size_drew, size_setRow]; done) | (simp only [World.size_alloc, World.size_setCell, World.size_drew, size_setRow]; omega))) only [hq_at, hq_past, hq_drew, hq_drewN, hq_cell, hq_row, hq_same, rowOf_cells, Option.map_some, *]))); (· kernel_rfl); (· rfl); (· rfl); rotate_left 1; (· (first | (simp (disch := (first | omega | (simp only [World.size_alloc, World.size_setCell, World.size_drew, size_setRow]; done) | (simp only [World.size_alloc, World.size_setCell, World.size_drew, size_setRow]; omega))) only [setRow_at, setRow_past, setRow_drew]; rfl) | rfl))))
          have hg9 : (w4.setRow (W.heap.size + 1) (s.fl (some ⟨wc.heap.size, 0, none⟩) k k).cells).heap[W.heap.size + 1]? = some (.cells (s.fl (some ⟨wc.heap.size, 0, none⟩) k k).cells 33 (0, 0)) := by rw [hq_same rfl, hg5]; rfl
          refine ret_row rfl rfl hg9 Tryd.underlying33 rfl (by kernel_rfl) rfl ⟨⟨s.fl (some ⟨wc.heap.size, 0, none⟩) k k, rfl, ?_⟩, below_row HX4.out (Nat.le_succ _)⟩
          rw [HM.out]
          have hl0 : W.heap.size + 1 < wc.heap.size := blk_lt HG2.out
          have hk0 : ∀ g, W.heap.size + 1 < g → (w4.setRow (W.heap.size + 1) (s.fl (some ⟨wc.heap.size, 0, none⟩) k k).cells).heap[g]? = wr.heap[g]? := fun g hg => (setRow_other w4 _ g _ (by omega)).trans (HK4.out g (by omega))
          have hlm : (ts.map (mapT tn)).length = k := by rw [List.length_map, HN.out]
          have hfin := Rep.mk (W := w4.setRow (W.heap.size + 1) (s.fl (some ⟨wc.heap.size, 0, none⟩) k k).cells) (S := fun g => W.heap.size ≤ g) s (ts.map (mapT tn)) (some ⟨wc.heap.size, 0, none⟩) k l HO.out (by rw [hlm]; exact HNN.out) (by rw [hlm]; exact HLK.out)
            (fun i f hf => ⟨wc.heap.size, 0, rfl, by omega, (HP.out.node hf).keeps (S := fun g => W.heap.size + 1 < g) hl0 (fun g hg _ => hk0 g hg)⟩)
            (fun i t f h1 h2 => by
              rw [List.getElem?_map] at h1
              obtain ⟨t0, h3, rfl⟩ := Option.map_eq_some_iff.1 h1
              exact ((HR.out i t0 f h3 h2).keeps (fun g hg _ => hk0 g hg.1)).imp' (fun g hg _ => by omega))
          rw [hlm] at hfin
          exact hfin
        have hkN' : (k : Int) < (N : Int) := by omega
        obtain ⟨t, ht⟩ : ∃ t, ts[k]? = some t := ⟨_, List.getElem?_eq_getElem (by rw [HN.out]; omega)⟩
        obtain ⟨f, hf⟩ : ∃ f, fs[k]? = some f := ⟨_, List.getElem?_eq_getElem (by rw [HL.out, HN.out]; omega)⟩
        obtain ⟨g, o, rfl, hB, hNA⟩ := HS.out k f hf
        have hna := hNA.keeps hB (.of_ext (HE2.out.trans HX.out))
        clear hNA
        go_wp2_with (first | ((with_reducible refine wpl_guard (isLoad 33) ?_ ?_); (· rfl); refine wpl_load_node rfl 33 _ rfl rfl hna Tryd.underlying33 rfl ?_ ?_; (· kernel_rfl); (try dsimp only [Act.put, List.setIfInBounds_toArray, List.set_cons_zero, List.set_cons_succ])) | ((with_reducible refine wpl_guard (isLoad 33) ?_ ?_); (· rfl); refine wpl_load (t := ?_) (cs := ?_) (fr := ?_) rfl 33 _ rfl rfl ?_ Tryd.underlying33 rfl ?_ ?_; rotate_left 3; (· (first | (with_reducible assumption) | (simp (disch := (first | omega | (simp only [World.size_alloc, World.size_setCell, World.size_drew, size_setRow]; done) | (simp only [World.size_alloc, World.size_setCell, World.size_drew, size_setRow]; omega))) only [hq_at, hq_past, hq_drew, hq_drewN, hq_cell, hq_row, hq_same, rowOf_cells, Option.map_some, *]; rfl) | (simp (disch := (first | omega | (simp only [World.size_alloc, World.size_setCell, World.size_drew, size_setRow]; done) | (simp only [World.size_alloc, World.size_setCell, World.size_drew, size_setRow]; omega))) only [hq_at, hq_past, hq_drew, hq_drewN, hq_cell, hq_row, hq_same, rowOf_cells, Option.map_some, *]))); (· kernel_rfl); (try dsimp only [Act.put, List.setIfInBounds_toArray, List.set_cons_zero, List.set_cons_succ])) | ((with_reducible refine wpl_guard (isStore 33) ?_ ?_); (· rfl); refine wpl_store (t := ?_) (old := ?_) (w' := ?_) rfl 33 _ _ rfl rfl rfl ?_ ?_ ?_ ?_ ?_ ?_; rotate_left 2; (· (first | (with_reducible assumption) | (simp (disch := (first | omega | (simp only [World.size_alloc, World.size_setCell, World.size_drew, size_setRow]; done) | (simp only [World.size_alloc, World.size_setCell, World.size_drew, size_setRow]; omega))) only [hq_at, hq_past, hq_drew, hq_drewN, hq_cell, hq_row, hq_same, rowOf_cells, Option.map_some, *]; rfl) | (simp (disch := (first | omega | (simp only [World.size_alloc, World.size_setCell, World.size_drew, size_setRow]; done) | (simp only [World.size_alloc, World.size_setCell, World.size_drew, size_setRow]; omega))) only [hq_at, hq_past, hq_drew, hq_drewN, hq_cell, hq_row, hq_same, rowOf_cells, Option.map_some, *]))); (· kernel_rfl); (· rfl); (· rfl); rotate_left 1; (· (first | (simp (disch := (first | omega | (simp only [World.size_alloc, World.size_setCell, World.size_drew, size_setRow]; done) | (simp only [World.size_alloc, World.size_setCell, World.size_drew, size_setRow]; omega))) only [setRow_at, setRow_past, setRow_drew]; rfl) | rfl))))
        have hX2 := HX.out.trans (below_alloc1 wr (.cells f.cells 33))
        refine (HIH.out t f B (wr.alloc (.cells f.cells 33)) (by have := HSZ.out; have := sizeL_mem ht; omega) (HGK.out t (List.mem_of_getElem? ht)) ((HK.out k t f ht hf).ext (HE2.out.trans hX2)) (HJ.out _ _ HJW.out (HE2.out.trans hX2))).mono ?_
        rintro e w3 ⟨⟨r, rfl, hR3⟩, hE3⟩
        have hE3' := (below_alloc1 wr (.cells f.cells 33)).trans hE3
        have hkl : k < N := by omega
        have HKL := Lib.hid hkl
        obtain ⟨old, w4, ho1, ho2, ho3, ho4, ho5, ho6⟩ := (HP.out.ext hE3').next (by rw [HLK.out]; exact hkl) r
        rw [HLK.out] at ho2 ho3
        have hlr : wc.heap.size < (wr.alloc (.cells f.cells 33)).heap.size := by have := HX.out.size; rw [World.size_alloc]; omega
        have HR4 : Hid (∀ (i : Nat) t' f', ts[i]? = some t' → (l ++ [r])[i]? = some f' → Rep w4 (fun g => W.heap.size + 1 < g ∧ g ≠ wc.heap.size) (mapT tn t') f') := Lib.hid (fun i t' f' h1 h2 => by
          have hll := HLK.out
          have hl3 := HL3.out
          by_cases hi : i < l.length
          · rw [List.getElem?_append_left hi] at h2
            exact ((HR.out i t' f' h1 h2).ext hE3').keeps (fun g hg _ => ho5 g hg.2)
          · have hi' : i = l.length := by
              have := (List.getElem?_eq_some_iff.1 h2).1
              rw [List.length_append, List.length_singleton] at this
              omega
            subst hi'
            rw [List.getElem?_append_right (Nat.le_refl _), Nat.sub_self] at h2
            cases h2
            rw [hll, ht] at h1
            cases h1
            exact (hR3.imp' (S' := fun g => W.heap.size + 1 < g ∧ g ≠ wc.heap.size) (fun g hg _ => ⟨by omega, by omega⟩)).keeps (fun g hg _ => ho5 g hg.2))
        have HP4 := Lib.hid ho4
        have HX4 := Lib.hid (ho6 wc (hX2.trans hE3) (by omega))
        have HL4 : Hid ((l ++ [r]).length = k + 1) := Lib.hid (by rw [List.length_append, HLK.out]; rfl)
        clear hR3 hE3 hE3' hX2 ho4 ho5 ho6 hlr hna ht hf hB hk
        unfold Fl.val
        go_wp2_with (first | ((with_reducible refine wpl_guard (isStore 33) ?_ ?_); (· rfl); refine wpl_store_at rfl 33 _ _ rfl rfl rfl ho1 ho2 ?_ (fl_one r) ho3 ?_; (· kernel_rfl)))
        exact ⟨⟨k + 1, l ++ [r], rfl, HL4, HKL.out, HP4, HR4, HX4⟩, by simp [intOf]; omega⟩
end Go.Proofs.YtdfgobnmcngkmaaDoor
