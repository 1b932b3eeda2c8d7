/-
  TreeSeeds: walk. Conditions: the arguments' own.
-/
import Derived.Test.YtmbjomeiiihofaaDoorTreeU
namespace Go.Proofs.YtmbjomeiiihofaaDoor.treeSeeds
open Go.RowKit
set_option linter.unusedVariables false
set_option linter.unusedSimpArgs false

mutual
theorem map_id : ∀ t : Tr, mapT (fun s => .mk s []) t = t
  | .mk s l => by
    by_cases h : l = [] ∧ s.k ≠ 8
    · obtain ⟨rfl, h⟩ := h
      rw [mapT_leaf h]
    · rw [mapT_node (by
        by_cases hl : l = []
        · exact .inr (Classical.byContradiction fun h' => h ⟨hl, h'⟩)
        · exact .inl hl), mapL_id l]
theorem mapL_id : ∀ l : List Tr, l.map (mapT (fun s => .mk s [])) = l
  | [] => rfl
  | t :: l => by rw [List.map_cons, map_id t, mapL_id l]
end
theorem runY_all (c m : Nat) : runY (fun _ => true) c m = (true, c + m) := by
  induction m generalizing c with
  | zero => rfl
  | succ m ih => unfold runY; rw [if_pos rfl, ih]; congr 1; omega
set_option maxRecDepth 100000 in
set_option maxHeartbeats 8000000 in
theorem walk0 (a : Option Addr) (len cap : Nat) (W : World) (hS : SeedIn W a len cap) (hE : EnvQ W) :
    Calls Tryd.prog 7 #[.slice a len cap] W fun e w' => e = .returned (.bool true) ∧ Ext W w' := by
  obtain ⟨W1, hW1, hE1, hG1, hL1, hS1⟩ := new_blk W #[.slice a len cap] 29
  have HW1 := Lib.hid hW1
  have HE1 := Lib.hid hE1
  have HG1 := Lib.hid hG1
  have HS := Lib.hid hS
  have HQ1 := Lib.hid (hE.ext hE1)
  have HLow := Lib.hid hE.low
  clear hW1 hE1 hG1 hL1 hS1 hS hE
  go_enter Tryd.func7, Tryd.ntmps7
  go_upto_region 1 with (fail)
  rw [HW1.out]
  clear HW1
  go_wp2_with fail
  refine (fit5 W1 HQ1.out).mono ?_
  rintro e w2 ⟨rfl, hE2⟩
  have HE2 := Lib.hid hE2
  have HG2 := Lib.hid (hE2.blk HG1.out)
  have c2 : w2.cell? ⟨W.heap.size, 0, none⟩ = some (.slice a len cap) := by rw [cell_of_row w2 W.heap.size 0 _ _ _ HG2.out]; rfl
  clear hE2
  by_cases hz : 200 < len
  · have hz' : (200 : Int) < (len : Int) := by omega
    go_wp2_with fail
    go_ret
    exact ⟨rfl, HE1.out.trans HE2.out⟩
  have hz' : (len : Int) ≤ 200 := by omega
  have HSA : Hid (SeedAt W.heap.size w2) := Lib.hid (HS.out.at_ (HE1.out.trans HE2.out) (Nat.le_refl _) (by omega) HG2.out)
  clear hz
  go_wp2_with fail
  refine (show Calls Tryd.prog _ #[.pointer (some ⟨W.heap.size, 0, none⟩), .int .i64 6] w2 _ from formula 6 (by decide) W.heap.size w2 HSA.out (HQ1.out.ext HE2.out) HLow.out (blk_lt HG2.out)).mono ?_
  rintro e w3 ⟨⟨f, t, rfl, hR3, hF3⟩, hX3, hS3⟩
  obtain ⟨s, ts, p, cp, fs, ho, hn, hl, hs, hk⟩ := hR3
  obtain ⟨N, hN⟩ : ∃ N, ts.length = N := ⟨_, rfl⟩
  have HR3 := Lib.hid ((Rep.mk s ts p cp fs ho hn hl hs hk).imp' (S' := fun g => g < w3.heap.size) (fun g _ h => h))
  rw [hN] at HR3 hn ⊢
  have HF3 := Lib.hid hF3
  have HX3 : Hid (Ext W w3) := Lib.hid (hX3.ext (HE1.out.trans HE2.out) (Nat.le_refl _))
  have HQ3 : Hid (EnvQ w3) := Lib.hid ((HQ1.out.ext HE2.out).extX HLow.out hX3)
  have HK := Lib.hid hk
  have HS := Lib.hid hs
  have HL := Lib.hid hl
  have HN := Lib.hid hN
  obtain ⟨W5, hW5, hE5, hG5, hL5, hS5⟩ := new_blk w3 (s.fl p N cp).cells 38
  have HW5 := Lib.hid hW5
  have HE5 := Lib.hid hE5
  have HG5 := Lib.hid hG5
  clear hX3 hS3 c2 ho hl hs hk hN hW5 hE5 hG5 hL5 hS5 hF3
  unfold Fl.val
  go_upto_region 6 with (first | ((with_reducible refine wpl_guard (isStore 38) ?_ ?_); (· rfl); refine wpl_store (t := ?_) (old := ?_) (w' := ?_) rfl 38 _ _ rfl rfl rfl ?_ ?_ ?_ ?_ ?_ ?_; rotate_left 2; (· (first | (with_reducible assumption) | (simp (disch := (first | omega | (simp only [World.size_alloc, World.size_setCell, World.size_drew, size_setRow]; done) | (simp only [World.size_alloc, World.size_setCell, World.size_drew, size_setRow]; omega))) only [hq_at, hq_past, hq_drew, hq_drewN, hq_cell, hq_row, hq_same, rowOf_cells, Option.map_some, *]; rfl) | (simp (disch := (first | omega | (simp only [World.size_alloc, World.size_setCell, World.size_drew, size_setRow]; done) | (simp only [World.size_alloc, World.size_setCell, World.size_drew, size_setRow]; omega))) only [hq_at, hq_past, hq_drew, hq_drewN, hq_cell, hq_row, hq_same, rowOf_cells, Option.map_some, *]))); (· kernel_rfl); (· rfl); (· rfl); rotate_left 1; (· (first | (simp (disch := (first | omega | (simp only [World.size_alloc, World.size_setCell, World.size_drew, size_setRow]; done) | (simp only [World.size_alloc, World.size_setCell, World.size_drew, size_setRow]; omega))) only [setRow_at, setRow_past, setRow_drew]; rfl) | rfl))))
  rw [HW5.out]
  go_upto_region 7 with (fail)
  obtain ⟨W6, hW6, hE6, hG6, hL6, hS6⟩ := new_blk W5 #[.int .i64 0] 3
  rw [hW6]
  have HE6 := Lib.hid hE6
  have HG6 := Lib.hid (show CountAt W5.heap.size W6 0 from hG6)
  have HGN := Lib.hid (hE6.blk HG5.out)
  have HSZ : Hid (sizeT (.mk s ts) ≤ 10000000) := Lib.hid (ft_size HF3.out)
  have HSS : Hid (sizeT (.mk s ts) = 1 + sizeL ts) := Lib.hid (by simp only [sizeT])
  have c16 : W6.cell? ⟨w3.heap.size, 16, none⟩ = some (.slice p N cp) := by rw [cell_of_row W6 w3.heap.size 16 _ _ _ HGN.out]; rfl
  have hN' : (N : Int) ≤ 1000 := by omega
  clear hW6 hE6 hG6 hL6 hS6 HW5
  go_wp2_with fail
  go_loopw [4, 18] (fun ss si wr => ∃ k : Nat, k ≤ N ∧ si = .int .i64 (k : Int) ∧ ss = .int .i64 ((1 + sizeL (ts.take k) : Nat) : Int) ∧ Hid (Ext W6 wr)) (fun _ si _ => N - (intOf si).toNat)
  case atStart => exact ⟨0, by omega, rfl, rfl, Lib.hid (Ext.refl _)⟩
  case round =>
    obtain ⟨k, hk, rfl, rfl, HX⟩ := hrel
    clear c16
    by_cases hkN : k = N
    · subst hkN
      have HV : Hid (1 + sizeL (ts.take k) = 1 + sizeL ts) := Lib.hid (by rw [List.take_of_length_le (by rw [HN.out]; exact Nat.le_refl _)])
      rw [HV.out]
      have hgn := HX.out.blk HGN.out
      have LV := leaves_any 28 #[.pointer (some ⟨W5.heap.size, 0, none⟩)] W5.heap.size (fun _ => true) (fun _ => True) (Lib.hid (fun _ _ _ _ => trivial)) (Lib.hid (seeds1_counts _)) (enters_of Tryd.func28 (by kernel_rfl) rfl) (sizeT (.mk s ts)) (.mk s ts) (s.fl p k cp) (fun g => g < w3.heap.size) wr 0 (Nat.le_refl _)
        (by have := HE5.out.size; omega) (HR3.out.ext ((HE5.out.trans HE6.out).trans HX.out)) (by have h1 := (leaves_le (.mk s ts)).2; have h2 := HSZ.out; omega) (HG6.out.ext HX.out) trivial
      rw [runY_all] at LV
      have LV := Lib.hid LV
      clear hk
      go_wp2_with (first | ((with_reducible refine wpl_guard (isLoad 38) ?_ ?_); (· rfl); refine wpl_load (t := ?_) (cs := ?_) (fr := ?_) rfl 38 _ rfl rfl ?_ Tryd.underlying38 rfl ?_ ?_; rotate_left 3; (· (first | (with_reducible assumption) | (simp (disch := (first | omega | (simp only [World.size_alloc, World.size_setCell, World.size_drew, size_setRow]; done) | (simp only [World.size_alloc, World.size_setCell, World.size_drew, size_setRow]; omega))) only [hq_at, hq_past, hq_drew, hq_drewN, hq_cell, hq_row, hq_same, rowOf_cells, Option.map_some, *]; rfl) | (simp (disch := (first | omega | (simp only [World.size_alloc, World.size_setCell, World.size_drew, size_setRow]; done) | (simp only [World.size_alloc, World.size_setCell, World.size_drew, size_setRow]; omega))) only [hq_at, hq_past, hq_drew, hq_drewN, hq_cell, hq_row, hq_same, rowOf_cells, Option.map_some, *]))); (· kernel_rfl); (try dsimp only [Act.put, List.setIfInBounds_toArray, List.set_cons_zero, List.set_cons_succ])))
      refine LV.out.mono ?_
      rintro e w7 ⟨rfl, hX7, hC7⟩
      have HE7 := Lib.hid (hX7.ext (HE6.out.trans HX.out) (Nat.le_refl _))
      have HC7 := Lib.hid hC7
      have hg7 := HE7.out.blk HG5.out
      have MP := map_any 29 #[] (fun s => .mk s []) (fun _ => True) (Lib.hid (fun _ _ _ _ => trivial)) (Lib.hid seeds2_turns) (enters_of Tryd.func29 (by kernel_rfl) rfl) (sizeT (.mk s ts)) (.mk s ts) (s.fl p k cp) (fun g => g < w3.heap.size) w7 (Nat.le_refl _) (HR3.out.ext (HE5.out.trans HE7.out)) trivial
      rw [map_id] at MP
      have MP := Lib.hid MP
      clear hX7 hC7 hgn LV
      go_wp2_with (first | ((with_reducible refine wpl_guard (isLoad 38) ?_ ?_); (· rfl); refine wpl_load (t := ?_) (cs := ?_) (fr := ?_) rfl 38 _ rfl rfl ?_ Tryd.underlying38 rfl ?_ ?_; rotate_left 3; (· (first | (with_reducible assumption) | (simp (disch := (first | omega | (simp only [World.size_alloc, World.size_setCell, World.size_drew, size_setRow]; done) | (simp only [World.size_alloc, World.size_setCell, World.size_drew, size_setRow]; omega))) only [hq_at, hq_past, hq_drew, hq_drewN, hq_cell, hq_row, hq_same, rowOf_cells, Option.map_some, *]; rfl) | (simp (disch := (first | omega | (simp only [World.size_alloc, World.size_setCell, World.size_drew, size_setRow]; done) | (simp only [World.size_alloc, World.size_setCell, World.size_drew, size_setRow]; omega))) only [hq_at, hq_past, hq_drew, hq_drewN, hq_cell, hq_row, hq_same, rowOf_cells, Option.map_some, *]))); (· kernel_rfl); (try dsimp only [Act.put, List.setIfInBounds_toArray, List.set_cons_zero, List.set_cons_succ])))
      refine MP.out.mono ?_
      rintro e w8 ⟨⟨r, rfl, hR8⟩, hE8⟩
      obtain ⟨W9, hW9, hE9, hG9, hL9, hS9⟩ := new_blk w8 r.cells 38
      have HW9 := Lib.hid hW9
      have HR9 := Lib.hid ((hR8.ext hE9).imp' (S' := fun _ => True) (fun _ _ _ => trivial))
      have HE9 := Lib.hid (HE7.out.trans (hE8.trans hE9))
      have HC9 := Lib.hid (HC7.out.ext (hE8.trans hE9))
      have HG9 := Lib.hid hG9
      have hgn := HE9.out.blk HG5.out
      have HGN9 := Lib.hid hgn
      have HRN9 := Lib.hid ((HR3.out.ext (HE5.out.trans HE9.out)).imp' (S' := fun _ => True) (fun _ _ _ => trivial))
      have HQ9 := Lib.hid (HQ3.out.ext (HE5.out.trans HE9.out))
      obtain ⟨lv, hlv⟩ : ∃ lv, leavesT (.mk s ts) = lv := ⟨_, rfl⟩
      have hlv2 := leaves_le (.mk s ts)
      rw [HSS.out] at hlv2
      rw [hlv] at HC9 hlv2
      have HLV := Lib.hid hlv2
      clear hW9 hE9 hG9 hL9 hS9 hR8 hE8 hg7 MP hlv hlv2 HC7
      unfold Fl.val
      go_upto_region 14 with (first | ((with_reducible refine wpl_guard (isStore 38) ?_ ?_); (· rfl); refine wpl_store (t := ?_) (old := ?_) (w' := ?_) rfl 38 _ _ rfl rfl rfl ?_ ?_ ?_ ?_ ?_ ?_; rotate_left 2; (· (first | (with_reducible assumption) | (simp (disch := (first | omega | (simp only [World.size_alloc, World.size_setCell, World.size_drew, size_setRow]; done) | (simp only [World.size_alloc, World.size_setCell, World.size_drew, size_setRow]; omega))) only [hq_at, hq_past, hq_drew, hq_drewN, hq_cell, hq_row, hq_same, rowOf_cells, Option.map_some, *]; rfl) | (simp (disch := (first | omega | (simp only [World.size_alloc, World.size_setCell, World.size_drew, size_setRow]; done) | (simp only [World.size_alloc, World.size_setCell, World.size_drew, size_setRow]; omega))) only [hq_at, hq_past, hq_drew, hq_drewN, hq_cell, hq_row, hq_same, rowOf_cells, Option.map_some, *]))); (· kernel_rfl); (· rfl); (· rfl); rotate_left 1; (· (first | (simp (disch := (first | omega | (simp only [World.size_alloc, World.size_setCell, World.size_drew, size_setRow]; done) | (simp only [World.size_alloc, World.size_setCell, World.size_drew, size_setRow]; omega))) only [setRow_at, setRow_past, setRow_drew]; rfl) | rfl))))
      rw [HW9.out]
      clear HW9
      go_wp2_with (first | ((with_reducible refine wpl_guard (isLoad 38) ?_ ?_); (· rfl); refine wpl_load (t := ?_) (cs := ?_) (fr := ?_) rfl 38 _ rfl rfl ?_ Tryd.underlying38 rfl ?_ ?_; rotate_left 3; (· (first | (with_reducible assumption) | (simp (disch := (first | omega | (simp only [World.size_alloc, World.size_setCell, World.size_drew, size_setRow]; done) | (simp only [World.size_alloc, World.size_setCell, World.size_drew, size_setRow]; omega))) only [hq_at, hq_past, hq_drew, hq_drewN, hq_cell, hq_row, hq_same, rowOf_cells, Option.map_some, *]; rfl) | (simp (disch := (first | omega | (simp only [World.size_alloc, World.size_setCell, World.size_drew, size_setRow]; done) | (simp only [World.size_alloc, World.size_setCell, World.size_drew, size_setRow]; omega))) only [hq_at, hq_past, hq_drew, hq_drewN, hq_cell, hq_row, hq_same, rowOf_cells, Option.map_some, *]))); (· kernel_rfl); (try dsimp only [Act.put, List.setIfInBounds_toArray, List.set_cons_zero, List.set_cons_succ])))
      refine (tright_any (.mk s ts) (s.fl p k cp) _ W9 HRN9.out HQ9.out.1 HQ9.out.2).mono ?_
      rintro e w10 ⟨rfl, hE10⟩
      rw [ft_right HF3.out 200 (by decide)]
      have HE10 := Lib.hid hE10
      have hg10 := hE10.blk HGN9.out
      clear hE10 hgn
      go_wp2_with (first | ((with_reducible refine wpl_guard (isLoad 38) ?_ ?_); (· rfl); refine wpl_load_want (t := ?_) (cs := ?_) (fr := ?_) (by rfl) 38 _ rfl rfl ?_ Tryd.underlying38 rfl ?_ ?_; rotate_left 3; (· (first | (with_reducible assumption) | (simp (disch := (first | omega | (simp only [World.size_alloc, World.size_setCell, World.size_drew, size_setRow]; done) | (simp only [World.size_alloc, World.size_setCell, World.size_drew, size_setRow]; omega))) only [hq_at, hq_past, hq_drew, hq_drewN, hq_cell, hq_row, hq_same, rowOf_cells, Option.map_some, *]; rfl) | (simp (disch := (first | omega | (simp only [World.size_alloc, World.size_setCell, World.size_drew, size_setRow]; done) | (simp only [World.size_alloc, World.size_setCell, World.size_drew, size_setRow]; omega))) only [hq_at, hq_past, hq_drew, hq_drewN, hq_cell, hq_row, hq_same, rowOf_cells, Option.map_some, *]))); (· kernel_rfl); (try dsimp only [Act.put, List.setIfInBounds_toArray, List.set_cons_zero, List.set_cons_succ])))
      refine (size_any (sizeT (.mk s ts)) (.mk s ts) (s.fl p k cp) _ w10 (Nat.le_refl _) (by have := HSZ.out; omega) (HRN9.out.ext HE10.out)).mono ?_
      rintro e w11 ⟨rfl, hE11⟩
      rw [HSS.out]
      have HE11 := Lib.hid (HE10.out.trans hE11)
      have hg11 := HE11.out.blk HGN9.out
      have hm11 := HE11.out.blk HG9.out
      have c11 := (HC9.out.ext HE11.out).cell
      clear hE11 hg10
      have h1 : (1 : Int) ≤ (lv : Int) := by have := HLV.out; omega
      have h2 : (lv : Int) ≤ 1 + ((sizeL ts : Nat) : Int) := by have := HLV.out; omega
      go_wp2_with (first | ((with_reducible refine wpl_guard (isLoad 38) ?_ ?_); (· rfl); refine wpl_load_want (t := ?_) (cs := ?_) (fr := ?_) (by rfl) 38 _ rfl rfl ?_ Tryd.underlying38 rfl ?_ ?_; rotate_left 3; (· (first | (with_reducible assumption) | (simp (disch := (first | omega | (simp only [World.size_alloc, World.size_setCell, World.size_drew, size_setRow]; done) | (simp only [World.size_alloc, World.size_setCell, World.size_drew, size_setRow]; omega))) only [hq_at, hq_past, hq_drew, hq_drewN, hq_cell, hq_row, hq_same, rowOf_cells, Option.map_some, *]; rfl) | (simp (disch := (first | omega | (simp only [World.size_alloc, World.size_setCell, World.size_drew, size_setRow]; done) | (simp only [World.size_alloc, World.size_setCell, World.size_drew, size_setRow]; omega))) only [hq_at, hq_past, hq_drew, hq_drewN, hq_cell, hq_row, hq_same, rowOf_cells, Option.map_some, *]))); (· kernel_rfl); (try dsimp only [Act.put, List.setIfInBounds_toArray, List.set_cons_zero, List.set_cons_succ])))
      have SM := Lib.hid (fun w' (hE : Ext w11 w') => same_any (sizeT (.mk s ts)) (.mk s ts) (.mk s ts) (s.fl p k cp) r (fun _ => True) w' (Nat.le_refl _) (HRN9.out.ext (HE11.out.trans hE)) (HR9.out.ext (HE11.out.trans hE)))
      have SN := Lib.hid (fun w' (hE : Ext w11 w') => same_any (sizeT (.mk s ts)) (.mk s ts) (.mk s ts) r (s.fl p k cp) (fun _ => True) w' (Nat.le_refl _) (HR9.out.ext (HE11.out.trans hE)) (HRN9.out.ext (HE11.out.trans hE)))
      refine (SM.out w11 (Ext.refl _)).mono ?_
      rintro e w12 ⟨rfl, hE12⟩
      rw [sameT_self]
      have HE12 := Lib.hid hE12
      have hg12 := hE12.blk hg11
      have hm12 := hE12.blk hm11
      clear hE12 hg11 hm11 c11
      go_wp2_with (first | ((with_reducible refine wpl_guard (isLoad 38) ?_ ?_); (· rfl); refine wpl_load_want (t := ?_) (cs := ?_) (fr := ?_) (by rfl) 38 _ rfl rfl ?_ Tryd.underlying38 rfl ?_ ?_; rotate_left 3; (· (first | (with_reducible assumption) | (simp (disch := (first | omega | (simp only [World.size_alloc, World.size_setCell, World.size_drew, size_setRow]; done) | (simp only [World.size_alloc, World.size_setCell, World.size_drew, size_setRow]; omega))) only [hq_at, hq_past, hq_drew, hq_drewN, hq_cell, hq_row, hq_same, rowOf_cells, Option.map_some, *]; rfl) | (simp (disch := (first | omega | (simp only [World.size_alloc, World.size_setCell, World.size_drew, size_setRow]; done) | (simp only [World.size_alloc, World.size_setCell, World.size_drew, size_setRow]; omega))) only [hq_at, hq_past, hq_drew, hq_drewN, hq_cell, hq_row, hq_same, rowOf_cells, Option.map_some, *]))); (· kernel_rfl); (try dsimp only [Act.put, List.setIfInBounds_toArray, List.set_cons_zero, List.set_cons_succ])))
      refine (SN.out w12 HE12.out).mono ?_
      rintro e w13 ⟨rfl, hE13⟩
      rw [sameT_self]
      have HE13 := Lib.hid hE13
      clear hE13 hg12 hm12
      go_wp2_with fail
      go_ret
      exact ⟨rfl, HX3.out.trans ((HE5.out.trans HE9.out).trans ((HE11.out.trans HE12.out).trans HE13.out))⟩
    have hkN' : (k : Int) < (N : Int) := by omega
    have HX0 := Lib.hid ((HE5.out.trans HE6.out).trans HX.out)
    obtain ⟨t, ht⟩ : ∃ t, ts[k]? = some t := ⟨_, List.getElem?_eq_getElem (by rw [HN.out]; omega)⟩
    obtain ⟨f, hf⟩ : ∃ f, fs[k]? = some f := ⟨_, List.getElem?_eq_getElem (by rw [HL.out, HN.out]; omega)⟩
    obtain ⟨g, o, rfl, hB, hNA⟩ := HS.out k f hf
    have hna := hNA.keeps hB (.of_ext HX0.out)
    clear hNA
    go_wp2_with (first | ((with_reducible refine wpl_guard (isLoad 38) ?_ ?_); (· rfl); refine wpl_load_node rfl 38 _ rfl rfl hna Tryd.underlying38 rfl ?_ ?_; (· kernel_rfl); (try dsimp only [Act.put, List.setIfInBounds_toArray, List.set_cons_zero, List.set_cons_succ])) | ((with_reducible refine wpl_guard (isLoad 38) ?_ ?_); (· rfl); refine wpl_load (t := ?_) (cs := ?_) (fr := ?_) rfl 38 _ rfl rfl ?_ Tryd.underlying38 rfl ?_ ?_; rotate_left 3; (· (first | (with_reducible assumption) | (simp (disch := (first | omega | (simp only [World.size_alloc, World.size_setCell, World.size_drew, size_setRow]; done) | (simp only [World.size_alloc, World.size_setCell, World.size_drew, size_setRow]; omega))) only [hq_at, hq_past, hq_drew, hq_drewN, hq_cell, hq_row, hq_same, rowOf_cells, Option.map_some, *]; rfl) | (simp (disch := (first | omega | (simp only [World.size_alloc, World.size_setCell, World.size_drew, size_setRow]; done) | (simp only [World.size_alloc, World.size_setCell, World.size_drew, size_setRow]; omega))) only [hq_at, hq_past, hq_drew, hq_drewN, hq_cell, hq_row, hq_same, rowOf_cells, Option.map_some, *]))); (· kernel_rfl); (try dsimp only [Act.put, List.setIfInBounds_toArray, List.set_cons_zero, List.set_cons_succ])) | ((with_reducible refine wpl_guard (isStore 38) ?_ ?_); (· rfl); refine wpl_store (t := ?_) (old := ?_) (w' := ?_) rfl 38 _ _ rfl rfl rfl ?_ ?_ ?_ ?_ ?_ ?_; rotate_left 2; (· (first | (with_reducible assumption) | (simp (disch := (first | omega | (simp only [World.size_alloc, World.size_setCell, World.size_drew, size_setRow]; done) | (simp only [World.size_alloc, World.size_setCell, World.size_drew, size_setRow]; omega))) only [hq_at, hq_past, hq_drew, hq_drewN, hq_cell, hq_row, hq_same, rowOf_cells, Option.map_some, *]; rfl) | (simp (disch := (first | omega | (simp only [World.size_alloc, World.size_setCell, World.size_drew, size_setRow]; done) | (simp only [World.size_alloc, World.size_setCell, World.size_drew, size_setRow]; omega))) only [hq_at, hq_past, hq_drew, hq_drewN, hq_cell, hq_row, hq_same, rowOf_cells, Option.map_some, *]))); (· kernel_rfl); (· rfl); (· rfl); rotate_left 1; (· (first | (simp (disch := (first | omega | (simp only [World.size_alloc, World.size_setCell, World.size_drew, size_setRow]; done) | (simp only [World.size_alloc, World.size_setCell, World.size_drew, size_setRow]; omega))) only [setRow_at, setRow_past, setRow_drew]; rfl) | rfl))))
    have hm := sizeL_mem ht
    have HT := Lib.hid (sizeL_take ht)
    have hle := sizeL_take_le ts (k + 1)
    rw [HT.out] at hle
    have hbig := HSZ.out
    rw [HSS.out] at hbig
    have hX2 := HX0.out.trans (below_alloc1 wr (.cells f.cells 38))
    refine (size_any (sizeT t) t f _ _ (Nat.le_refl _) (by omega) ((HK.out k t f ht hf).ext hX2)).mono ?_
    rintro e w' ⟨rfl, hE3⟩
    have HX3 : Hid (Ext W6 w') := Lib.hid ((HX.out.trans (below_alloc1 wr (.cells f.cells 38))).trans hE3)
    obtain ⟨a, ha⟩ : ∃ a, sizeL (ts.take k) = a := ⟨_, rfl⟩
    obtain ⟨b, hb⟩ : ∃ b, sizeT t = b := ⟨_, rfl⟩
    rw [ha, hb] at hle
    rw [ha, hb] at HT
    have hsum : (1 : Int) + (a : Int) + (b : Int) ≤ 10000000 := by omega
    have ha0 : (0 : Int) ≤ (a : Int) := by omega
    have hb0 : (0 : Int) ≤ (b : Int) := by omega
    have HK1 : Hid (k + 1 ≤ N) := Lib.hid (by omega)
    rw [ha, hb]
    clear hm hle hX2 hE3 hna ht hf ha hb hbig HSZ hB hk
    go_wp2_with fail
    exact ⟨⟨k + 1, HK1.out, rfl, by rw [HT.out]; congr 1; omega, HX3⟩, by simp [intOf]; omega⟩
theorem walk (a : Option Addr) (len cap : Nat) (W : World) (hS : SeedIn W a len cap) (hE : EnvQ W) :
    Calls Tryd.prog 7 #[.slice a len cap] W fun e w' => e = .returned (.bool true) ∧ Below W.heap.size W w' := walk0 a len cap W hS hE
end Go.Proofs.YtmbjomeiiihofaaDoor.treeSeeds
