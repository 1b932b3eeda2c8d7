/-
  show: text, Formula: contracts; the examples. Conditions: each theorem's own.
-/
import Derived.Test.YtbnebiobahajjaaGreatDoorShG
import Derived.Test.YtbnebiobahajjaaGreatDoorShG
import Derived.Test.YtbnebiobahajjaaGreatDoorShG
import Derived.Test.YtbnebiobahajjaaGreatDoorTreeM
import Derived.Laws.BytesArg
import Derived.OpenShut
namespace Go.Proofs.YtbnebiobahajjaaGreatDoor
open Go.RowKit
set_option linter.unusedVariables false
set_option linter.unusedSimpArgs false

theorem show_any (p : Int) {t : Tr} (h : GT t) : sizeT t ≤ 1000000000 → TextS p t := by
  induction h with
  | lit k n s h h0 hn hs => exact fun _ => text_lit p k n s h ⟨by omega, hn⟩
  | one r h => exact fun _ => text_one p r h
  | area a b h h' hs => exact fun _ => text_area p a b h h'
  | word l h => exact fun _ => text_word p l
  | neg t h ih =>
    intro hz
    have hz' : sizeT t ≤ 1000000000 := by simp only [sizeT, sizeL] at hz; omega
    exact text_neg p t h hz' (ih hz')
  | pct t h ih =>
    intro hz
    have hz' : sizeT t ≤ 1000000000 := by simp only [sizeT, sizeL] at hz; omega
    exact text_pct p t h hz' (ih hz')
  | bin op t u h ht hu iht ihu =>
    intro hz
    have hz' : sizeT t ≤ 1000000000 ∧ sizeT u ≤ 1000000000 := by simp only [sizeT, sizeL] at hz; omega
    exact text_bin p op t u h ht hu hz' (iht hz'.1) (ihu hz'.2)
  | call f ts h ht ih =>
    intro hz
    refine text_call p f ts h ht hz fun t htm => ?_
    obtain ⟨k, hk⟩ := List.mem_iff_getElem?.1 htm
    have := sizeL_mem hk
    exact ih t htm (by simp only [sizeT] at hz; omega)
set_option maxRecDepth 100000 in
set_option maxHeartbeats 4000000 in
theorem formula_text (p : Int) {t : Tr} (h : GT t) (hz : sizeT t ≤ 1000000000) (f : Fl) (S : Nat → Prop) (W : World) (hr : Rep W S t f) (hE : EnvQ W) :
    Calls Tryz.prog 9 #[.agg f.cells, .int .i64 p] W fun e w' => e = .returned (.string (mk (shT p 0 t))) ∧ Ext W w' := by
  obtain ⟨W1, hW1, hE1, hG1, hL1, hS1⟩ := new_blk W f.cells 33
  have HW1 := Lib.hid hW1
  have HX1 := Lib.hid hE1
  have HC := Lib.hid (show_any p h hz 0 f S W1 (by decide) (hr.ext hE1) (hE.ext hE1))
  clear hW1 hE1 hL1 hS1 hr hE h hz
  unfold Fl.val at HC
  go_enter Tryz.func9, Tryz.ntmps9
  go_upto_region 1 with (fail)
  rw [HW1.out]
  clear HW1
  go_wp2_with (first | ((with_reducible refine wpl_guard (isLoad 33) ?_ ?_); (· rfl); refine wpl_load (t := ?_) (cs := ?_) (fr := ?_) rfl 33 _ rfl rfl ?_ Tryz.underlying33 rfl ?_ ?_; rotate_left 3; (· (first | (with_reducible assumption) | (simp (disch := (first | omega | (simp only [World.size_alloc, World.size_setCell, World.size_drew, size_setRow]; done) | (simp only [World.size_alloc, World.size_setCell, World.size_drew, size_setRow]; omega))) only [hq_at, hq_past, hq_drew, hq_drewN, hq_cell, hq_row, hq_same, rowOf_cells, Option.map_some, *]; rfl) | (simp (disch := (first | omega | (simp only [World.size_alloc, World.size_setCell, World.size_drew, size_setRow]; done) | (simp only [World.size_alloc, World.size_setCell, World.size_drew, size_setRow]; omega))) only [hq_at, hq_past, hq_drew, hq_drewN, hq_cell, hq_row, hq_same, rowOf_cells, Option.map_some, *]))); (· kernel_rfl); (try dsimp only [Act.put, List.setIfInBounds_toArray, List.set_cons_zero, List.set_cons_succ])))
  refine HC.out.mono ?_
  rintro e w2 ⟨rfl, hX2⟩
  have HX2 := Lib.hid hX2
  clear hX2 HC hG1
  go_wp2_with fail
  go_ret
  exact ⟨rfl, HX1.out.trans HX2.out⟩
def fitT : Tr := .mk (parS 7 2) [.mk (parS 7 2) [litT 1 1000000 [], litT 1 2000000 []], .mk (parS 7 2) [litT 1 3000000 [], litT 1 4000000 []]]
theorem fit_parse7 : parseF [40, 49, 45, 50, 41, 45, 40, 51, 45, 52, 41] 0 = some (.ok fitT) := by kernel_rfl
theorem fit_gt : GT fitT := (parse_out (fun _ => 0) (fun _ => 0) ⟨fun _ _ => Nat.le_refl _, fun _ _ _ _ => Nat.le_refl _, fun _ _ => Nat.le_refl _, fun _ _ => Nat.le_refl _, fun _ _ _ _ _ _ => Nat.le_refl _, fun _ _ _ => Nat.le_refl _⟩ (by decide) fit_parse7).1
theorem fit_text : shT 0 0 fitT = [49, 45, 50, 45, 40, 51, 45, 52, 41] := by decide +kernel
theorem fit_size7 : sizeT fitT ≤ 1000000000 := by simp [fitT, litT, sizeT, sizeL]
set_option maxRecDepth 100000 in
set_option maxHeartbeats 4000000 in
theorem fit7 (W : World) (hE : EnvX W) : Calls Tryz.prog 7 #[] W fun e w' => e = .returned (.bool true) ∧ Ext W w' := by
  have HP := Lib.hid (pars_any [40, 49, 45, 50, 41, 45, 40, 51, 45, 52, 41] 0 _ W fit_parse7 (by decide) hE)
  have HE := Lib.hid hE
  clear hE
  go_enter Tryz.func7, Tryz.ntmps7
  go_wp2_with fail
  refine HP.out.mono ?_
  rintro e w2 ⟨hX, ⟨t, f, hR, rfl, hRep⟩ | ⟨c, p, hR, -⟩⟩
  case inr => cases hR
  injection hR with hR
  subst hR
  obtain ⟨W3, hW3, hE3, hG3, hL3, hS3⟩ := new_blk w2 f.cells 33
  have HX := Lib.hid (hX.trans hE3)
  have HF := Lib.hid (formula_text 0 fit_gt fit_size7 f _ W3 (hRep.ext hE3) (HE.out.ext HX.out).1)
  rw [fit_text, show mk [49, 45, 50, 45, 40, 51, 45, 52, 41] = ⟨#[49, 45, 50, 45, 40, 51, 45, 52, 41]⟩ from rfl] at HF
  have HW3 := Lib.hid hW3
  clear hRep hX hW3 hE3 hL3 hS3 HP HE
  unfold Fl.val
  go_upto_region 2 with (first | ((with_reducible refine wpl_guard (isStore 33) ?_ ?_); (· rfl); refine wpl_store (t := ?_) (old := ?_) (w' := ?_) rfl 33 _ _ rfl rfl rfl ?_ ?_ ?_ ?_ ?_ ?_; rotate_left 2; (· (first | (with_reducible assumption) | (simp (disch := (first | omega | (simp only [World.size_alloc, World.size_setCell, World.size_drew, size_setRow]; done) | (simp only [World.size_alloc, World.size_setCell, World.size_drew, size_setRow]; omega))) only [hq_at, hq_past, hq_drew, hq_drewN, hq_cell, hq_row, hq_same, rowOf_cells, Option.map_some, *]; rfl) | (simp (disch := (first | omega | (simp only [World.size_alloc, World.size_setCell, World.size_drew, size_setRow]; done) | (simp only [World.size_alloc, World.size_setCell, World.size_drew, size_setRow]; omega))) only [hq_at, hq_past, hq_drew, hq_drewN, hq_cell, hq_row, hq_same, rowOf_cells, Option.map_some, *]))); (· kernel_rfl); (· rfl); (· rfl); rotate_left 1; (· (first | (simp (disch := (first | omega | (simp only [World.size_alloc, World.size_setCell, World.size_drew, size_setRow]; done) | (simp only [World.size_alloc, World.size_setCell, World.size_drew, size_setRow]; omega))) only [setRow_at, setRow_past, setRow_drew]; rfl) | rfl))))
  rw [HW3.out]
  clear HW3
  go_wp2_with (first | ((with_reducible refine wpl_guard (isLoad 33) ?_ ?_); (· rfl); refine wpl_load_want (t := ?_) (cs := ?_) (fr := ?_) (by rfl) 33 _ rfl rfl ?_ Tryz.underlying33 rfl ?_ ?_; rotate_left 3; (· (first | (with_reducible assumption) | (simp (disch := (first | omega | (simp only [World.size_alloc, World.size_setCell, World.size_drew, size_setRow]; done) | (simp only [World.size_alloc, World.size_setCell, World.size_drew, size_setRow]; omega))) only [hq_at, hq_past, hq_drew, hq_drewN, hq_cell, hq_row, hq_same, rowOf_cells, Option.map_some, *]; rfl) | (simp (disch := (first | omega | (simp only [World.size_alloc, World.size_setCell, World.size_drew, size_setRow]; done) | (simp only [World.size_alloc, World.size_setCell, World.size_drew, size_setRow]; omega))) only [hq_at, hq_past, hq_drew, hq_drewN, hq_cell, hq_row, hq_same, rowOf_cells, Option.map_some, *]))); (· kernel_rfl); (try dsimp only [Act.put, List.setIfInBounds_toArray, List.set_cons_zero, List.set_cons_succ])))
  refine HF.out.mono ?_
  rintro e w4 ⟨rfl, hX4⟩
  have HX4 := Lib.hid (HX.out.trans hX4)
  clear hX4 HF hG3
  go_wp2_with fail
  go_ret
  exact ⟨by first | rfl | (trace_state; decide), HX4.out⟩
/-- A slice of bytes that came in. -/
def SeedIn (W : World) (p : Option Addr) (len cap : Nat) : Prop := len ≤ cap ∧ ∀ j, j < len → ∃ g o, ∃ z : Nat, p = some ⟨g, o, none⟩ ∧ z < 256 ∧ W.cell? ⟨g, o + j, none⟩ = some (.int .u8 (z : Int))
theorem seedIn_nil (W : World) : SeedIn W none 0 0 := ⟨Nat.le_refl _, fun j h => by omega⟩
theorem seedIn_of {w : World} {x : Addr} {len cap : Nat} {zs : List Int} (hl : len ≤ cap) (hz : len ≤ zs.length) (hc : ∀ i, i < zs.length → w.cell? (x.add i) = some (.int .u8 (zs.getD i 0))) (hw : ∀ n ∈ zs, (Lit.int .u8 n).wf = true) : SeedIn w (some x) len cap := by
  refine ⟨hl, fun j hj => ?_⟩
  have hj' : j < zs.length := by omega
  obtain ⟨b, off, rfl, hcell⟩ := ints_at hc (by omega)
  have hb := bounds_u8 (hw zs[j] (List.getElem_mem hj'))
  refine ⟨b, off, zs[j].toNat, rfl, by omega, ?_⟩
  rw [hcell j hj', List.getD_eq_getElem?_getD, List.getElem?_eq_getElem hj', Option.getD_some, Int.toNat_of_nonneg hb.1]
theorem SeedIn.ext {W w : World} {p : Option Addr} {len cap : Nat} (h : SeedIn W p len cap) (hE : Ext W w) : SeedIn w p len cap := by
  refine ⟨h.1, fun j hj => ?_⟩
  obtain ⟨g, o, z, h1, h2, h3⟩ := h.2 j hj
  exact ⟨g, o, z, h1, h2, ext_cell (World.block_lt_of_cell? _ _ h3) h3 _ hE⟩
/-- Boxed, it is a seed. -/
theorem SeedIn.at_ {W w : World} {p : Option Addr} {len cap : Nat} {t : TypeId} {b : Nat} (h : SeedIn W p len cap) (hE : Ext W w) (hb : W.heap.size ≤ b) (hl : len ≤ 1000) (hg : w.heap[b]? = some (.cells #[.slice p len cap] t (0, 0))) : SeedAt b w := by
  refine ⟨p, len, cap, t, hg, h.1, hl, fun j hj => ?_⟩
  obtain ⟨g, o, z, h1, h2, h3⟩ := h.2 j hj
  exact ⟨g, o, z, h1, Nat.lt_of_lt_of_le (World.block_lt_of_cell? _ _ h3) hb, h2, ext_cell (World.block_lt_of_cell? _ _ h3) h3 _ hE⟩
theorem sizeL_le {l : List Tr} {M : Nat} (h : ∀ t ∈ l, sizeT t ≤ M) : sizeL l ≤ l.length * M := by
  induction l with
  | nil => simp [sizeL]
  | cons t l ih =>
    have h1 := h t (List.mem_cons_self ..)
    have h2 := ih (fun t ht => h t (List.mem_cons_of_mem _ ht))
    simp only [sizeL, List.length_cons, Nat.succ_mul]
    omega
theorem ft_size {d : Nat} {t : Tr} (h : FT d t) : sizeT t ≤ 10 ^ (d + 1) := by
  have hp : ∀ d : Nat, 1 ≤ 10 ^ d := fun d => Nat.pos_of_ne_zero (by simp)
  induction h with
  | lit d => simp only [sizeT, sizeL]; exact hp _
  | one d => simp only [sizeT, sizeL]; exact hp _
  | area d => simp only [sizeT, sizeL]; exact hp _
  | un d k t hk ht ih =>
    simp only [sizeT, sizeL]
    have := hp (d + 1)
    rw [Nat.pow_succ]
    omega
  | bin d op t t' hop ht ht' ih ih' =>
    simp only [sizeT, sizeL]
    have := hp (d + 1)
    rw [Nat.pow_succ]
    omega
  | call d f ts hf hn ht ih =>
    simp only [sizeT]
    have h1 := sizeL_le ih
    have h2 : ts.length * 10 ^ (d + 1) ≤ 9 * 10 ^ (d + 1) := Nat.mul_le_mul_right _ hn
    have := hp (d + 1)
    rw [Nat.pow_succ]
    omega
theorem ins_small {r : Rf} (h : r.small) : insV r.s r.c r.r = true := by
  obtain ⟨h1, h2, h3⟩ := h
  simp only [insV, Bool.and_eq_true, decide_eq_true_eq]
  omega
theorem ins_smallA {a b : Rf} (h : SmallA a b) : insV b.s b.c b.r = true := by
  obtain ⟨⟨h1, h2, h3⟩, ha, hb, h4, h5, -⟩ := h
  simp only [insV, Bool.and_eq_true, decide_eq_true_eq]
  omega
theorem ft_gt {d : Nat} {t : Tr} (h : FT d t) : GT t := by
  induction h with
  | lit d k n s h hn hs => exact .lit k n s h hn.1 hn.2 hs
  | one d r h => exact .one r (ins_small h)
  | area d a b h => exact .area a b (ins_small h.1) (ins_smallA h) (h.2.1.trans h.2.2.1.symm)
  | un d k t hk ht ih =>
    rcases hk with rfl | rfl
    · exact .neg t ih
    · exact .pct t ih
  | bin d op t t' hop ht ht' ih ih' => exact .bin op t t' hop ih ih'
  | call d f ts hf hn ht ih => exact .call f ts hf ih
def laidLZ : List (String × DataW Unit) := [("math/bits.deBruijn32tab", Rows.laid_math_bits_deBruijn32tab), ("math/bits.deBruijn64tab", Rows.laid_math_bits_deBruijn64tab), ("internal/strconv.uint64pow10", Rows.laid_internal_strconv_uint64pow10), ("unicode/utf8.acceptRanges", Rows.laid_unicode_utf8_acceptRanges), ("strconv.ErrRange", Rows.laid_strconv_ErrRange), ("strconv.ErrSyntax", Rows.laid_strconv_ErrSyntax), ("unicode.White_Space", Rows.laid_unicode_White_Space), ("strings.asciiSpace", Rows.laid_strings_asciiSpace), ("reckoner/parse.levels", Rows.laid_reckoner_parse_levels), ("unicode/utf8.first", Rows.laid_unicode_utf8_first)]
theorem env_of_laidZ {W : World} (h : laidMetH Tryz.prog laidLZ W) (hsh : W.ShapedOpen Tryz.prog) : EnvX W := by
  rw [MakeChecks.laidMetH_plain _ _ _ (by kernel_rfl)] at h
  exact ⟨⟨tab_of h.tail.tail.tail.tail.tail.tail.tail, max_of_shape hsh, pow_of h.tail.tail, sx_of h.tail.tail.tail.tail.tail, rg_of h.tail.tail.tail.tail⟩, levels_of h.tail.tail.tail.tail.tail.tail.tail.tail⟩
end Go.Proofs.YtbnebiobahajjaaGreatDoor
