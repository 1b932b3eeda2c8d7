/-
  TreeMaps: walk. Conditions: the arguments' own.
-/
import Derived.Test.YtmbjomeiiihofaaDoorTreeU
import Derived.Test.YtmbjomeiiihofaaDoorRegion
namespace Go.Proofs.YtmbjomeiiihofaaDoor.treeMaps
open Go.RowKit
set_option linter.unusedVariables false
set_option linter.unusedSimpArgs false

/-- The blank's leaf, whatever was there. -/
def tn (s : Sc) : Tr := .mk (litS 0 0 ⟨#[]⟩) []
mutual
theorem size_map : ∀ t : Tr, sizeT (mapT tn t) = sizeT t
  | .mk s l => by
    by_cases h : l = [] ∧ s.k ≠ 8
    · obtain ⟨rfl, h⟩ := h
      rw [mapT_leaf h]; simp [tn, sizeT, sizeL]
    · rw [mapT_node (by
        by_cases hl : l = []
        · exact .inr (Classical.byContradiction fun h' => h ⟨hl, h'⟩)
        · exact .inl hl)]
      simp only [sizeT, sizeL_map l]
theorem sizeL_map : ∀ l : List Tr, sizeL (l.map (mapT tn)) = sizeL l
  | [] => rfl
  | t :: l => by simp only [List.map_cons, sizeL, size_map t, sizeL_map l]
end
mutual
theorem leaves_map : ∀ t : Tr, leavesT (mapT tn t) = leavesT t
  | .mk s [] => by
    by_cases h : s.k = 8
    · rw [mapT_node (.inr h)]; rfl
    · rw [mapT_leaf h]; simp [tn, leavesT]
  | .mk s (t :: l) => by
    rw [mapT_node (.inl (by simp))]
    simp only [List.map_cons, leavesT, leaves_map t, leavesL_map l]
theorem leavesL_map : ∀ l : List Tr, leavesL (l.map (mapT tn)) = leavesL l
  | [] => rfl
  | t :: l => by simp only [List.map_cons, leavesL, leaves_map t, leavesL_map l]
end
theorem runY_all (c m : Nat) : runY (fun _ => true) c m = (true, c + m) := by
  induction m generalizing c with
  | zero => rfl
  | succ m ih => unfold runY; rw [if_pos rfl, ih]; congr 1; omega
def yNe (stop : Int) (n : Nat) : Bool := decide ((n : Int) ≠ stop)
theorem runY_past {stop : Int} {c m : Nat} (h : stop ≤ c ∨ (c : Int) + m < stop) : runY (yNe stop) c m = (true, c + m) := by
  induction m generalizing c with
  | zero => rfl
  | succ m ih =>
    unfold runY
    rw [if_pos (by unfold yNe; simp; omega), ih (by omega)]
    congr 1
    omega
theorem runY_hit {stop : Int} {c m : Nat} (h : (c : Int) < stop) (h' : stop ≤ (c : Int) + m) : runY (yNe stop) c m = (false, stop.toNat) := by
  induction m generalizing c with
  | zero => omega
  | succ m ih =>
    unfold runY
    by_cases e : ((c + 1 : Nat) : Int) = stop
    · rw [if_neg (by unfold yNe; simp; omega)]
      congr 1
      omega
    · rw [if_pos (by unfold yNe; simp; omega)]
      exact ih (by omega) (by omega)
theorem yNe_eq (stop : Int) (c : Nat) : ((c : Int) + 1 != stop) = yNe stop (c + 1) := by
  unfold yNe
  rw [Bool.eq_iff_iff]
  simp
set_option maxRecDepth 100000 in
set_option maxHeartbeats 4000000 in
theorem maps1_turns : Turner 23 #[] tn (fun _ => True) := by
  intro W s p cap hs _
  obtain ⟨W1, hW1, hE1, hG1, hL1, hS1⟩ := new_blk W (s.fl p 0 cap).cells 38
  obtain ⟨W2, hW2, hE2, hG2, hL2, hS2⟩ := new_blk W1 #[.int .i64 0, .int .i64 0, .int .i64 0, .int .i64 0, .string ⟨#[]⟩, .int .i64 0, .int .i64 0, .int .i64 0, .bool false, .bool false, .int .i64 0, .int .i64 0, .int .i64 0, .bool false, .bool false, .string ⟨#[]⟩, .slice none 0 0] 38
  rw [hS1] at hG2
  have HW1 := Lib.hid hW1
  have HW2 := Lib.hid hW2
  have HE2 := Lib.hid (hE1.trans hE2)
  have HG2 := Lib.hid hG2
  clear hW1 hE1 hG1 hL1 hS1 hW2 hE2 hG2 hL2 hS2 hs
  unfold Fl.val
  change Calls _ _ #[.agg (s.fl p 0 cap).cells] W _
  go_enter Tryd.func23, Tryd.ntmps23
  go_upto_region 1 with (fail)
  rw [HW1.out, HW2.out]
  clear HW1 HW2
  go_wp2_with fail
  refine (tval_any 0 0 ⟨#[]⟩ W2).mono ?_
  rintro e w3 ⟨rfl, hE3⟩
  have HE3 := Lib.hid hE3
  have hg3 := hE3.blk HG2.out
  clear hE3
  unfold Fl.val
  go_wp2_with (first | ((with_reducible refine wpl_guard (isStore 38) ?_ ?_); (· rfl); refine wpl_store (t := ?_) (old := ?_) (w' := ?_) rfl 38 _ _ rfl rfl rfl ?_ ?_ ?_ ?_ ?_ ?_; rotate_left 2; (· (first | (with_reducible assumption) | (simp (disch := (first | omega | (simp only [World.size_alloc, World.size_setCell, World.size_drew, size_setRow]; done) | (simp only [World.size_alloc, World.size_setCell, World.size_drew, size_setRow]; omega))) only [hq_at, hq_past, hq_drew, hq_drewN, hq_cell, hq_row, hq_same, rowOf_cells, Option.map_some, *]; rfl) | (simp (disch := (first | omega | (simp only [World.size_alloc, World.size_setCell, World.size_drew, size_setRow]; done) | (simp only [World.size_alloc, World.size_setCell, World.size_drew, size_setRow]; omega))) only [hq_at, hq_past, hq_drew, hq_drewN, hq_cell, hq_row, hq_same, rowOf_cells, Option.map_some, *]))); (· kernel_rfl); (· rfl); (· rfl); rotate_left 1; (· (first | (simp (disch := (first | omega | (simp only [World.size_alloc, World.size_setCell, World.size_drew, size_setRow]; done) | (simp only [World.size_alloc, World.size_setCell, World.size_drew, size_setRow]; omega))) only [setRow_at, setRow_past, setRow_drew]; rfl) | rfl))))
  have hg9 : (w3.setRow (W.heap.size + 1) (litF 0 0 ⟨#[]⟩).cells).heap[W.heap.size + 1]? = some (.cells (litF 0 0 ⟨#[]⟩).cells 38 (0, 0)) := by rw [hq_same rfl, hg3]; rfl
  exact ret_row rfl rfl hg9 Tryd.underlying38 rfl (by kernel_rfl) rfl ⟨⟨litF 0 0 ⟨#[]⟩, rfl, rep_blank _ _⟩, below_row (HE2.out.trans HE3.out) (Nat.le_succ _)⟩
set_option maxRecDepth 100000 in
set_option maxHeartbeats 4000000 in
theorem maps3_counts (b : Nat) : Yields 27 #[.pointer (some ⟨b, 0, none⟩)] b (fun _ => true) (fun _ => True) := by
  intro W c f hc hC _
  obtain ⟨W1, hW1, hE1, hG1, hL1, hS1⟩ := new_blk W f.cells 38
  have hC1 := hC.ext hE1
  have c0 := hC1.cell
  have f0 := hC1.frozen
  have hb : b < W.heap.size := blk_lt hC
  have HC1 := Lib.hid hC1
  have HE1 := Lib.hid hE1
  have HW1 := Lib.hid hW1
  have hc' : (c : Int) < 1000000000 := by omega
  have hc0 : (0 : Int) ≤ (c : Int) := by omega
  clear hC hC1 hW1 hE1 hG1 hL1 hS1 hc hb
  unfold Fl.val
  change Calls _ _ #[.agg f.cells, .pointer (some ⟨b, 0, none⟩)] W _
  go_enter Tryd.func27, Tryd.ntmps27
  go_upto_region 1 with (fail)
  rw [HW1.out]
  clear HW1
  go_wp2_with fail
  go_ret
  exact ⟨rfl, (ExtX.of_ext HE1.out).set _ _, HC1.out.set (c + 1)⟩
set_option maxRecDepth 100000 in
set_option maxHeartbeats 4000000 in
theorem maps2_counts (b sb : Nat) (stop : Int) (hne : sb ≠ b) : Yields 26 #[.pointer (some ⟨b, 0, none⟩), .pointer (some ⟨sb, 0, none⟩)] b (yNe stop) (fun W => W.cell? ⟨sb, 0, none⟩ = some (.int .i64 stop)) := by
  intro W c f hc hC hJ
  obtain ⟨W1, hW1, hE1, hG1, hL1, hS1⟩ := new_blk W f.cells 38
  have hC1 := hC.ext hE1
  have c0 := hC1.cell
  have f0 := hC1.frozen
  have c1 := ext_cell (World.block_lt_of_cell? _ _ hJ) hJ W1 hE1
  have HC1 := Lib.hid hC1
  have HE1 := Lib.hid hE1
  have HW1 := Lib.hid hW1
  have hc' : (c : Int) < 1000000000 := by omega
  have hc0 : (0 : Int) ≤ (c : Int) := by omega
  clear hC hC1 hW1 hE1 hG1 hL1 hS1 hc hJ
  unfold Fl.val
  change Calls _ _ #[.agg f.cells, .pointer (some ⟨b, 0, none⟩), .pointer (some ⟨sb, 0, none⟩)] W _
  go_enter Tryd.func26, Tryd.ntmps26
  go_upto_region 1 with (fail)
  rw [HW1.out]
  clear HW1
  go_upto_region 2 with (fail)
  have c2 : (W1.setCell ⟨b, 0, none⟩ (.int .i64 ((c : Int) + 1))).cell? ⟨sb, 0, none⟩ = some (.int .i64 stop) := by rw [← c1]; simp only [World.cell?, Below.heap_setCell W1 ⟨b, 0, none⟩ _ sb hne]
  go_wp2_with fail
  go_ret
  exact ⟨by rw [← yNe_eq]; rfl, (ExtX.of_ext HE1.out).set _ _, HC1.out.set (c + 1)⟩
theorem Rep.form {W : World} {S : Nat → Prop} {t : Tr} {f : Fl} (h : Rep W S t f) : ∃ p cap, f = t.s.fl p t.l.length cap := by
  cases h; exact ⟨_, _, rfl⟩
theorem kind_map (s : Sc) (ts : List Tr) : (mapT tn (.mk s ts)).s.k = s.k ∨ ts.length = 0 := by
  by_cases h : ts = []
  · exact .inr (by rw [h]; rfl)
  · left; rw [mapT_node (.inl h)]; rfl
set_option maxRecDepth 100000 in
set_option maxHeartbeats 8000000 in
theorem walk0 (a : Option Addr) (len cap : Nat) (stop : Int) (W : World) (hS : SeedIn W a len cap) (hst : -9223372036854775808 ≤ stop ∧ stop ≤ 9223372036854775807) (hE : EnvQ W) :
    Calls Tryd.prog 6 #[.slice a len cap, .int .i64 stop] W fun e w' => e = .returned (.bool true) ∧ Ext W w' := by
  obtain ⟨W0, hW0, hE0, hG0, hL0, hS0⟩ := new_blk W #[.slice a len cap] 29
  obtain ⟨W1, hW1, hE1, hG1, hL1, hS1⟩ := new_blk W0 #[.int .i64 stop] 3
  rw [hS0] at hG1
  have HW0 := Lib.hid hW0
  have HW1 := Lib.hid hW1
  have HE1 := Lib.hid (hE0.trans hE1)
  have HG1 := Lib.hid (hE1.blk hG0)
  have HGS := Lib.hid hG1
  have HS := Lib.hid hS
  have HQ1 := Lib.hid (hE.ext (hE0.trans hE1))
  have HLow := Lib.hid hE.low
  have HST := Lib.hid hst
  clear hW0 hE0 hG0 hL0 hS0 hW1 hE1 hG1 hL1 hS1 hS hE hst
  go_enter Tryd.func6, Tryd.ntmps6
  go_upto_region 1 with (fail)
  rw [HW0.out, HW1.out]
  clear HW0 HW1
  go_wp2_with fail
  refine (fit5 W1 HQ1.out).mono ?_
  rintro e w2 ⟨rfl, hE2⟩
  have HE2 := Lib.hid hE2
  have HG2 := Lib.hid (hE2.blk HG1.out)
  have c2 : w2.cell? ⟨W.heap.size, 0, none⟩ = some (.slice a len cap) := by rw [cell_of_row w2 W.heap.size 0 _ _ _ HG2.out]; rfl
  clear hE2
  by_cases hz : 200 < len
  · have hz' : (200 : Int) < (len : Int) := by omega
    go_wp2_with fail
    go_ret
    exact ⟨rfl, HE1.out.trans HE2.out⟩
  have hz' : (len : Int) ≤ 200 := by omega
  have HSA : Hid (SeedAt W.heap.size w2) := Lib.hid (HS.out.at_ (HE1.out.trans HE2.out) (Nat.le_refl _) (by omega) HG2.out)
  clear hz
  go_wp2_with fail
  refine (show Calls Tryd.prog _ #[.pointer (some ⟨W.heap.size, 0, none⟩), .int .i64 6] w2 _ from formula 6 (by decide) W.heap.size w2 HSA.out (HQ1.out.ext HE2.out) HLow.out (blk_lt HG2.out)).mono ?_
  rintro e w3 ⟨⟨f, t, rfl, hR3, hF3⟩, hX3, hS3⟩
  obtain ⟨s, ts, p, cp, fs, ho, hn, hl, hs, hk⟩ := hR3
  obtain ⟨N, hN⟩ : ∃ N, ts.length = N := ⟨_, rfl⟩
  have HR3 := Lib.hid ((Rep.mk s ts p cp fs ho hn hl hs hk).imp' (S' := fun g => g < w3.heap.size) (fun g _ h => h))
  rw [hN] at HR3 hn ⊢
  have HF3 := Lib.hid hF3
  have HX3 : Hid (Ext W w3) := Lib.hid (hX3.ext (HE1.out.trans HE2.out) (Nat.le_refl _))
  have HC3 : Hid (w3.heap[W.heap.size + 1]? = some (.cells #[.int .i64 stop] 3 (0, 0))) := Lib.hid (hX3.blk (HE2.out.blk HGS.out) (by omega))
  have HN := Lib.hid hN
  obtain ⟨W5, hW5, hE5, hG5, hL5, hS5⟩ := new_blk w3 (s.fl p N cp).cells 38
  have HW5 := Lib.hid hW5
  have HE5 := Lib.hid hE5
  have HG5 := Lib.hid hG5
  have hgn := HG5.out
  have MP := map_any 23 #[] tn (fun _ => True) (Lib.hid (fun _ _ _ _ => trivial)) (Lib.hid maps1_turns) (enters_of Tryd.func23 (by kernel_rfl) rfl) (sizeT (.mk s ts)) (.mk s ts) (s.fl p N cp) (fun g => g < w3.heap.size) W5 (Nat.le_refl _) (HR3.out.ext HE5.out) trivial
  have MP := Lib.hid MP
  clear hX3 hS3 c2 ho hl hs hk hN hW5 hE5 hG5 hL5 hS5 hF3
  unfold Fl.val
  go_upto_region 6 with (first | ((with_reducible refine wpl_guard (isStore 38) ?_ ?_); (· rfl); refine wpl_store (t := ?_) (old := ?_) (w' := ?_) rfl 38 _ _ rfl rfl rfl ?_ ?_ ?_ ?_ ?_ ?_; rotate_left 2; (· (first | (with_reducible assumption) | (simp (disch := (first | omega | (simp only [World.size_alloc, World.size_setCell, World.size_drew, size_setRow]; done) | (simp only [World.size_alloc, World.size_setCell, World.size_drew, size_setRow]; omega))) only [hq_at, hq_past, hq_drew, hq_drewN, hq_cell, hq_row, hq_same, rowOf_cells, Option.map_some, *]; rfl) | (simp (disch := (first | omega | (simp only [World.size_alloc, World.size_setCell, World.size_drew, size_setRow]; done) | (simp only [World.size_alloc, World.size_setCell, World.size_drew, size_setRow]; omega))) only [hq_at, hq_past, hq_drew, hq_drewN, hq_cell, hq_row, hq_same, rowOf_cells, Option.map_some, *]))); (· kernel_rfl); (· rfl); (· rfl); rotate_left 1; (· (first | (simp (disch := (first | omega | (simp only [World.size_alloc, World.size_setCell, World.size_drew, size_setRow]; done) | (simp only [World.size_alloc, World.size_setCell, World.size_drew, size_setRow]; omega))) only [setRow_at, setRow_past, setRow_drew]; rfl) | rfl))))
  rw [HW5.out]
  clear HW5
  go_wp2_with (first | ((with_reducible refine wpl_guard (isLoad 38) ?_ ?_); (· rfl); refine wpl_load (t := ?_) (cs := ?_) (fr := ?_) rfl 38 _ rfl rfl ?_ Tryd.underlying38 rfl ?_ ?_; rotate_left 3; (· (first | (with_reducible assumption) | (simp (disch := (first | omega | (simp only [World.size_alloc, World.size_setCell, World.size_drew, size_setRow]; done) | (simp only [World.size_alloc, World.size_setCell, World.size_drew, size_setRow]; omega))) only [hq_at, hq_past, hq_drew, hq_drewN, hq_cell, hq_row, hq_same, rowOf_cells, Option.map_some, *]; rfl) | (simp (disch := (first | omega | (simp only [World.size_alloc, World.size_setCell, World.size_drew, size_setRow]; done) | (simp only [World.size_alloc, World.size_setCell, World.size_drew, size_setRow]; omega))) only [hq_at, hq_past, hq_drew, hq_drewN, hq_cell, hq_row, hq_same, rowOf_cells, Option.map_some, *]))); (· kernel_rfl); (try dsimp only [Act.put, List.setIfInBounds_toArray, List.set_cons_zero, List.set_cons_succ])))
  refine MP.out.mono ?_
  rintro e w6 ⟨⟨r, rfl, hR6⟩, hE6⟩
  obtain ⟨p', cp', hform⟩ := Rep.form hR6
  obtain ⟨W7, hW7, hE7, hG7, hL7, hS7⟩ := new_blk w6 r.cells 38
  have HW7 := Lib.hid hW7
  have HR7 := Lib.hid ((hR6.ext hE7).imp' (S' := fun g => g < W7.heap.size) (fun _ _ h => h))
  have HE7 := Lib.hid (HE5.out.trans (hE6.trans hE7))
  have HGM := Lib.hid hG7
  have HGN := Lib.hid ((hE6.trans hE7).blk HG5.out)
  have HRN := Lib.hid (HR3.out.ext HE7.out)
  have HL7 := Lib.hid HE7.out.size
  have HKM := Lib.hid (show r.k = s.k ∨ N = 0 by
    rw [hform]
    have := kind_map s ts
    rwa [HN.out] at this)
  clear hW7 hE7 hG7 hL7 hS7 hR6 hE6 hgn MP hform
  unfold Fl.val
  go_upto_region 7 with (first | ((with_reducible refine wpl_guard (isStore 38) ?_ ?_); (· rfl); refine wpl_store (t := ?_) (old := ?_) (w' := ?_) rfl 38 _ _ rfl rfl rfl ?_ ?_ ?_ ?_ ?_ ?_; rotate_left 2; (· (first | (with_reducible assumption) | (simp (disch := (first | omega | (simp only [World.size_alloc, World.size_setCell, World.size_drew, size_setRow]; done) | (simp only [World.size_alloc, World.size_setCell, World.size_drew, size_setRow]; omega))) only [hq_at, hq_past, hq_drew, hq_drewN, hq_cell, hq_row, hq_same, rowOf_cells, Option.map_some, *]; rfl) | (simp (disch := (first | omega | (simp only [World.size_alloc, World.size_setCell, World.size_drew, size_setRow]; done) | (simp only [World.size_alloc, World.size_setCell, World.size_drew, size_setRow]; omega))) only [hq_at, hq_past, hq_drew, hq_drewN, hq_cell, hq_row, hq_same, rowOf_cells, Option.map_some, *]))); (· kernel_rfl); (· rfl); (· rfl); rotate_left 1; (· (first | (simp (disch := (first | omega | (simp only [World.size_alloc, World.size_setCell, World.size_drew, size_setRow]; done) | (simp only [World.size_alloc, World.size_setCell, World.size_drew, size_setRow]; omega))) only [setRow_at, setRow_past, setRow_drew]; rfl) | rfl))))
  rw [HW7.out]
  clear HW7
  (try simp only [Act.put, List.setIfInBounds_toArray, List.set_cons_zero, List.set_cons_succ])
  go_cut [35] (fun s35 wx => s35 = .bool false ∧ Hid (Ext W7 wx))
  case first =>
    (try simp only [Act.put, List.setIfInBounds_toArray, List.set_cons_zero, List.set_cons_succ])
    have hrr := Ext.refl W7
    have cN0 : ∀ w, Ext W7 w → w.cell? ⟨w3.heap.size, 0, none⟩ = some (.int .i64 s.k) := ext_cell (blk_lt HGN.out) (by rw [cell_of_row W7 w3.heap.size 0 _ _ _ HGN.out]; rfl)
    have cN16 : ∀ w, Ext W7 w → w.cell? ⟨w3.heap.size, 16, none⟩ = some (.slice p N cp) := ext_cell (blk_lt HGN.out) (by rw [cell_of_row W7 w3.heap.size 16 _ _ _ HGN.out]; rfl)
    have cM0 : ∀ w, Ext W7 w → w.cell? ⟨w6.heap.size, 0, none⟩ = some (.int .i64 r.k) := ext_cell (blk_lt HGM.out) (by rw [cell_of_row W7 w6.heap.size 0 _ _ _ HGM.out]; rfl)
    have hz9 : sizeT (.mk s ts) ≤ 10000000 := ft_size HF3.out
    have eM : CallE Tryd.prog W7 21 #[.agg r.cells] (.int .i64 (sizeT (.mk s ts) : Int)) := fun w hE => by rw [← size_map]; exact size_any _ _ r _ w (Nat.le_refl _) (by rw [size_map]; omega) (HR7.out.ext hE)
    have eN : CallE Tryd.prog W7 21 #[.agg (s.fl p N cp).cells] (.int .i64 (sizeT (.mk s ts) : Int)) := fun w hE => size_any _ _ (s.fl p N cp) _ w (Nat.le_refl _) (by omega) (HRN.out.ext hE)
    obtain ⟨z, hz⟩ : ∃ z, sizeT (.mk s ts) = z := ⟨_, rfl⟩
    rw [hz] at eM eN
    clear hz hz9
    by_cases hk : r.k = s.k
    · rw [hk] at cM0
      refine region_any (by kernel_rfl) (by kernel_rfl) rfl (fun K hK => ?_)
      refine seqr_pure (v := .agg r.cells) (by rfl) (fun ρ => by rfl) (fun ρ w hE hF => ?_) ?_
      · (try simp only [fill, Act.put, List.setIfInBounds_toArray, List.set_cons_zero, List.set_cons_succ])
        exact exec_load_row 38 _ rfl rfl (hE.blk HGM.out) Tryd.underlying38 rfl (by kernel_rfl)
      (try simp only [Act.put, List.setIfInBounds_toArray, List.set_cons_zero, List.set_cons_succ])
      (refine seqr_call0 (v := ?_) (f := ?_) (args := ?_) (by rfl) (fun ρ => by rfl) (fun ρ w => ?_) (fun w hE => ?_) ?_; rotate_left 3; (· ((try simp only [fill, Act.put, List.setIfInBounds_toArray, List.set_cons_zero, List.set_cons_succ]); go_simp; constructor <;> with_reducible rfl)); (· (with_reducible exact CallE.call (by assumption) hE)); (try simp only [Act.put, List.setIfInBounds_toArray, List.set_cons_zero, List.set_cons_succ]))
      refine seqr_pure (v := .agg (s.fl p N cp).cells) (by rfl) (fun ρ => by rfl) (fun ρ w hE hF => ?_) ?_
      · (try simp only [fill, Act.put, List.setIfInBounds_toArray, List.set_cons_zero, List.set_cons_succ])
        exact exec_load_row 38 _ rfl rfl (hE.blk HGN.out) Tryd.underlying38 rfl (by kernel_rfl)
      (try simp only [Act.put, List.setIfInBounds_toArray, List.set_cons_zero, List.set_cons_succ])
      (refine seqr_call0 (v := ?_) (f := ?_) (args := ?_) (by rfl) (fun ρ => by rfl) (fun ρ w => ?_) (fun w hE => ?_) ?_; rotate_left 3; (· ((try simp only [fill, Act.put, List.setIfInBounds_toArray, List.set_cons_zero, List.set_cons_succ]); go_simp; constructor <;> with_reducible rfl)); (· (with_reducible exact CallE.call (by assumption) hE)); (try simp only [Act.put, List.setIfInBounds_toArray, List.set_cons_zero, List.set_cons_succ]))
      repeat (first | (refine seqr_skip (by rfl) (fun ρ => by rfl) ?_; (try simp only [Act.put, List.setIfInBounds_toArray, List.set_cons_zero, List.set_cons_succ])) | (refine seqr_pure (v := ?_) (by rfl) (fun ρ => by rfl) (fun ρ w hE hF => ?_) ?_; rotate_left 1; (· ((try simp only [fill, Act.put, List.setIfInBounds_toArray, List.set_cons_zero, List.set_cons_succ]); go_simp; try with_reducible rfl)); (try simp only [Act.put, List.setIfInBounds_toArray, List.set_cons_zero, List.set_cons_succ])) | (refine seqr_call0 (v := ?_) (f := ?_) (args := ?_) (by rfl) (fun ρ => by rfl) (fun ρ w => ?_) (fun w hE => ?_) ?_; rotate_left 3; (· ((try simp only [fill, Act.put, List.setIfInBounds_toArray, List.set_cons_zero, List.set_cons_succ]); go_simp; constructor <;> with_reducible rfl)); (· (with_reducible exact CallE.call (by assumption) hE)); (try simp only [Act.put, List.setIfInBounds_toArray, List.set_cons_zero, List.set_cons_succ])))
      refine seqr_done (fun ρ wN hEN hFN => ?_); (try simp only [fill, Act.put, List.setIfInBounds_toArray, List.set_cons_zero, List.set_cons_succ]); refine (show K _ _ from hK.out _ _ ?_); clear hK K
      go_wp2_with fail
      go_meet
      case rel => exact ⟨rfl, Lib.hid hEN⟩
    · obtain rfl : N = 0 := HKM.out.resolve_left hk
      have hkq : (s.k != r.k) = true := by simp; exact fun h => hk h.symm
      refine region_any (by kernel_rfl) (by kernel_rfl) rfl (fun K hK => ?_)
      refine seqr_pure (v := .agg r.cells) (by rfl) (fun ρ => by rfl) (fun ρ w hE hF => ?_) ?_
      · (try simp only [fill, Act.put, List.setIfInBounds_toArray, List.set_cons_zero, List.set_cons_succ])
        exact exec_load_row 38 _ rfl rfl (hE.blk HGM.out) Tryd.underlying38 rfl (by kernel_rfl)
      (try simp only [Act.put, List.setIfInBounds_toArray, List.set_cons_zero, List.set_cons_succ])
      (refine seqr_call0 (v := ?_) (f := ?_) (args := ?_) (by rfl) (fun ρ => by rfl) (fun ρ w => ?_) (fun w hE => ?_) ?_; rotate_left 3; (· ((try simp only [fill, Act.put, List.setIfInBounds_toArray, List.set_cons_zero, List.set_cons_succ]); go_simp; constructor <;> with_reducible rfl)); (· (with_reducible exact CallE.call (by assumption) hE)); (try simp only [Act.put, List.setIfInBounds_toArray, List.set_cons_zero, List.set_cons_succ]))
      refine seqr_pure (v := .agg (s.fl p 0 cp).cells) (by rfl) (fun ρ => by rfl) (fun ρ w hE hF => ?_) ?_
      · (try simp only [fill, Act.put, List.setIfInBounds_toArray, List.set_cons_zero, List.set_cons_succ])
        exact exec_load_row 38 _ rfl rfl (hE.blk HGN.out) Tryd.underlying38 rfl (by kernel_rfl)
      (try simp only [Act.put, List.setIfInBounds_toArray, List.set_cons_zero, List.set_cons_succ])
      (refine seqr_call0 (v := ?_) (f := ?_) (args := ?_) (by rfl) (fun ρ => by rfl) (fun ρ w => ?_) (fun w hE => ?_) ?_; rotate_left 3; (· ((try simp only [fill, Act.put, List.setIfInBounds_toArray, List.set_cons_zero, List.set_cons_succ]); go_simp; constructor <;> with_reducible rfl)); (· (with_reducible exact CallE.call (by assumption) hE)); (try simp only [Act.put, List.setIfInBounds_toArray, List.set_cons_zero, List.set_cons_succ]))
      repeat (first | (refine seqr_skip (by rfl) (fun ρ => by rfl) ?_; (try simp only [Act.put, List.setIfInBounds_toArray, List.set_cons_zero, List.set_cons_succ])) | (refine seqr_pure (v := ?_) (by rfl) (fun ρ => by rfl) (fun ρ w hE hF => ?_) ?_; rotate_left 1; (· ((try simp only [fill, Act.put, List.setIfInBounds_toArray, List.set_cons_zero, List.set_cons_succ]); go_simp; try with_reducible rfl)); (try simp only [Act.put, List.setIfInBounds_toArray, List.set_cons_zero, List.set_cons_succ])) | (refine seqr_call0 (v := ?_) (f := ?_) (args := ?_) (by rfl) (fun ρ => by rfl) (fun ρ w => ?_) (fun w hE => ?_) ?_; rotate_left 3; (· ((try simp only [fill, Act.put, List.setIfInBounds_toArray, List.set_cons_zero, List.set_cons_succ]); go_simp; constructor <;> with_reducible rfl)); (· (with_reducible exact CallE.call (by assumption) hE)); (try simp only [Act.put, List.setIfInBounds_toArray, List.set_cons_zero, List.set_cons_succ])))
      refine seqr_done (fun ρ wN hEN hFN => ?_); (try simp only [fill, Act.put, List.setIfInBounds_toArray, List.set_cons_zero, List.set_cons_succ]); refine (show K _ _ from hK.out _ _ ?_); clear hK K
      go_wp2_with fail
      go_meet
      case rel => exact ⟨rfl, Lib.hid hEN⟩
  case rest =>
    obtain ⟨rfl, HEC⟩ := hcut
    have HGN8 := Lib.hid (HEC.out.blk HGN.out)
    have HGM8 := Lib.hid (HEC.out.blk HGM.out)
    obtain ⟨W10, hW10, hE10, hG10, hL10, hS10⟩ := new_blk wc #[.int .i64 0] 3
    have HW10 := Lib.hid hW10
    have HE10 := Lib.hid hE10
    have hsb : W.heap.size + 1 ≠ wc.heap.size := by
      have h1 := blk_lt HC3.out
      have h2 := HE7.out.size
      have h3 := HEC.out.size
      omega
    have hJ10 : W10.cell? ⟨W.heap.size + 1, 0, none⟩ = some (.int .i64 stop) := by rw [cell_of_row W10 (W.heap.size + 1) 0 _ _ _ (((HE7.out.trans HEC.out).trans hE10).blk HC3.out)]; rfl
    have LV := leaves_any 26 #[.pointer (some ⟨wc.heap.size, 0, none⟩), .pointer (some ⟨W.heap.size + 1, 0, none⟩)] wc.heap.size (yNe stop) (fun W' => W'.cell? ⟨W.heap.size + 1, 0, none⟩ = some (.int .i64 stop)) (Lib.hid (fun A B hA hX => by
          rw [← hA]
          have hlt := World.block_lt_of_cell? _ _ hA
          simp only [World.cell?, hX.block _ hsb hlt]))
      (Lib.hid (maps2_counts _ _ stop hsb)) (enters_of Tryd.func26 (by kernel_rfl) rfl) (sizeT (.mk s ts)) (.mk s ts) (s.fl p N cp) (fun g => g < w3.heap.size) W10 0 (Nat.le_refl _)
      (by have := HL7.out; have := HEC.out.size; omega) (HRN.out.ext (HEC.out.trans hE10)) (by have h1 := (leaves_le (.mk s ts)).2; have h2 := ft_size HF3.out; omega) hG10 hJ10
    have LV := Lib.hid LV
    have hgn := hE10.blk HGN8.out
    obtain ⟨m, hm⟩ : ∃ m, leavesT (.mk s ts) = m := ⟨_, rfl⟩
    have HM := Lib.hid hm
    have HMb : Hid (m < 100000000) := Lib.hid (by have h1 := (leaves_le (.mk s ts)).2; have h2 := ft_size HF3.out; omega)
    clear hW10 hE10 hG10 hL10 hS10 hJ10 hsb hm
    go_upto_region 10 with (fail)
    rw [HW10.out]
    go_wp2_with (first | ((with_reducible refine wpl_guard (isLoad 38) ?_ ?_); (· rfl); refine wpl_load (t := ?_) (cs := ?_) (fr := ?_) rfl 38 _ rfl rfl ?_ Tryd.underlying38 rfl ?_ ?_; rotate_left 3; (· (first | (with_reducible assumption) | (simp (disch := (first | omega | (simp only [World.size_alloc, World.size_setCell, World.size_drew, size_setRow]; done) | (simp only [World.size_alloc, World.size_setCell, World.size_drew, size_setRow]; omega))) only [hq_at, hq_past, hq_drew, hq_drewN, hq_cell, hq_row, hq_same, rowOf_cells, Option.map_some, *]; rfl) | (simp (disch := (first | omega | (simp only [World.size_alloc, World.size_setCell, World.size_drew, size_setRow]; done) | (simp only [World.size_alloc, World.size_setCell, World.size_drew, size_setRow]; omega))) only [hq_at, hq_past, hq_drew, hq_drewN, hq_cell, hq_row, hq_same, rowOf_cells, Option.map_some, *]))); (· kernel_rfl); (try dsimp only [Act.put, List.setIfInBounds_toArray, List.set_cons_zero, List.set_cons_succ])))
    refine LV.out.mono ?_
    rintro e w11 ⟨rfl, hX11, hC11⟩
    rw [HM.out] at hC11 ⊢
    have HE11 := Lib.hid (hX11.ext HE10.out (Nat.le_refl _))
    obtain ⟨W12, hW12, hE12, hG12, hL12, hS12⟩ := new_blk w11 #[.int .i64 0] 3
    have HW12 := Lib.hid hW12
    have HE12 := Lib.hid hE12
    have HC11 := Lib.hid hC11
    have LM := leaves_any 27 #[.pointer (some ⟨w11.heap.size, 0, none⟩)] w11.heap.size (fun _ => true) (fun _ => True) (Lib.hid (fun _ _ _ _ => trivial)) (Lib.hid (maps3_counts _)) (enters_of Tryd.func27 (by kernel_rfl) rfl) (sizeT (mapT tn (.mk s ts))) (mapT tn (.mk s ts)) r (fun g => g < W7.heap.size) W12 0 (Nat.le_refl _)
      (by have := HE11.out.size; have := HEC.out.size; omega) (HR7.out.ext ((HEC.out.trans HE11.out).trans hE12)) (by rw [leaves_map, HM.out]; have := HMb.out; omega) hG12 trivial
    rw [leaves_map, HM.out, runY_all] at LM
    have LM := Lib.hid LM
    have hgm := (HE11.out.trans hE12).blk HGM8.out
    clear hX11 hC11 hW12 hE12 hG12 hL12 hS12 hgn LV
    go_upto_region 12 with (fail)
    rw [HW12.out]
    go_wp2_with (first | ((with_reducible refine wpl_guard (isLoad 38) ?_ ?_); (· rfl); refine wpl_load (t := ?_) (cs := ?_) (fr := ?_) rfl 38 _ rfl rfl ?_ Tryd.underlying38 rfl ?_ ?_; rotate_left 3; (· (first | (with_reducible assumption) | (simp (disch := (first | omega | (simp only [World.size_alloc, World.size_setCell, World.size_drew, size_setRow]; done) | (simp only [World.size_alloc, World.size_setCell, World.size_drew, size_setRow]; omega))) only [hq_at, hq_past, hq_drew, hq_drewN, hq_cell, hq_row, hq_same, rowOf_cells, Option.map_some, *]; rfl) | (simp (disch := (first | omega | (simp only [World.size_alloc, World.size_setCell, World.size_drew, size_setRow]; done) | (simp only [World.size_alloc, World.size_setCell, World.size_drew, size_setRow]; omega))) only [hq_at, hq_past, hq_drew, hq_drewN, hq_cell, hq_row, hq_same, rowOf_cells, Option.map_some, *]))); (· kernel_rfl); (try dsimp only [Act.put, List.setIfInBounds_toArray, List.set_cons_zero, List.set_cons_succ])))
    refine LM.out.mono ?_
    rintro e w13 ⟨rfl, hX13, hC13⟩
    have HE13 := Lib.hid (hX13.ext HE12.out (Nat.le_refl _))
    have cs : w13.cell? ⟨W.heap.size + 1, 0, none⟩ = some (.int .i64 stop) := by rw [cell_of_row w13 (W.heap.size + 1) 0 _ _ _ ((((HE7.out.trans HEC.out).trans HE11.out).trans HE13.out).blk HC3.out)]; rfl
    have ct := hC13.cell
    have ck := (HC11.out.ext HE13.out).cell
    have HEND := Lib.hid (HX3.out.trans (((HE7.out.trans HEC.out).trans HE11.out).trans HE13.out))
    clear hX13 hC13 hgm LM
    have hmb := HMb.out
    have hst := HST.out
    rw [Nat.zero_add] at ct
    by_cases hhit : (0 : Int) < stop ∧ stop ≤ (m : Int)
    · obtain ⟨h1, h2⟩ := hhit
      rw [runY_hit (c := 0) (m := m) (by simpa using h1) (by simpa using h2)] at ck ⊢
      rw [Int.toNat_of_nonneg (by omega)] at ck
      have q1 : decide (stop < 1) = false := by simp; omega
      have q2 : decide ((m : Int) < stop) = false := by simp; omega
      have q3 : (stop == stop) = true := by simp
      clear h1 h2 hmb hst
      go_wp2_with fail
      go_ret
      exact ⟨rfl, HEND.out⟩
    · rw [runY_past (c := 0) (m := m) (by simp; omega), Nat.zero_add] at ck
      rw [runY_past (c := 0) (m := m) (by simp; omega)]
      have q3 : ((m : Int) == (m : Int)) = true := by simp
      by_cases h1 : stop < 1
      · have q1 : decide (stop < 1) = true := by simpa using h1
        clear hhit hmb hst
        go_wp2_with fail
        go_ret
        exact ⟨rfl, HEND.out⟩
      · have q1 : decide (stop < 1) = false := by simpa using h1
        have q2 : decide ((m : Int) < stop) = true := by simp; omega
        clear hhit hmb hst
        go_wp2_with fail
        go_ret
        exact ⟨rfl, HEND.out⟩
theorem walk (a : Option Addr) (len cap : Nat) (stop : Int) (W : World) (hS : SeedIn W a len cap) (hst : (Lit.int .i64 stop).wf = true) (hE : EnvQ W) :
    Calls Tryd.prog 6 #[.slice a len cap, .int .i64 stop] W fun e w' => e = .returned (.bool true) ∧ Below W.heap.size W w' := walk0 a len cap stop W hS (bounds_i64 hst) hE
end Go.Proofs.YtmbjomeiiihofaaDoor.treeMaps
