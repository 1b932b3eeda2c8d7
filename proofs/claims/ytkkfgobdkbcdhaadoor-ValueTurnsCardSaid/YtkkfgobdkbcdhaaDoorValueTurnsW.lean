/-
  ValueTurns: walk. Conditions: the arguments' own.
-/
import Derived.Test.YtkkfgobdkbcdhaaDoorComp
import Derived.Test.YtkkfgobdkbcdhaaDoorTurns
import Derived.Test.YtkkfgobdkbcdhaaDoorArgU
import Derived.BigQuiet
namespace Go.Proofs.YtkkfgobdkbcdhaaDoor.valueTurns
open Go.RowKit Num
set_option linter.unusedVariables false
set_option linter.unusedSimpArgs false

theorem apt_ne {D : List Tmp} {W w : World} {a : Act} (h : Apt D W a w) {d d' : Tmp} {g g' : Nat} (hd : d ∈ D) (hd' : d' ∈ D) (hne : d ≠ d') (hl : W.heap.size ≤ g) (h1 : rd a d = .pointer (some ⟨g, 0, none⟩)) (h2 : rd a d' = .pointer (some ⟨g', 0, none⟩)) : g ≠ g' := by
  rintro rfl; exact h.2 d hd d' hd' hne g hl h1 h2
theorem rv_s {x : RV} (h : x.ok) : x.s.size ≤ 64 := by cases x <;> first | exact h | exact (show (0 : Nat) ≤ 64 by decide)
theorem show_64 {x : RV} (h : x.ok) (hk : x.k ≠ 4) : toText x = .text (showB x) := by
  have key : (showB x).size ≤ 64 := by
    cases x with
    | blank => exact (show (0 : Nat) ≤ 64 by decide)
    | num n =>
      have hl := len_txtAbs n.natAbs (by have := h.1; have := h.2; omega)
      show (txt n).toArray.size ≤ 64
      rw [List.size_toArray]
      unfold txt
      split
      · simp only [List.length_cons]; omega
      · omega
    | text s => exact h
    | bool b => cases b <;> exact (show _ ≤ 64 by decide)
    | err c => exact absurd rfl hk
  cases x with
  | err c => exact absurd rfl hk
  | _ => exact (show textOf _ = _ from (if_pos key : (if _ then _ else RV.err 2) = _))
theorem tobool_T : toBool (.text tTRUE) = .bool true := by
  show (if tTRUE = tTRUE then RV.bool true else if tTRUE = tFALSE then RV.bool false else RV.err 2) = _
  rw [if_pos rfl]
theorem tobool_F : toBool (.text tFALSE) = .bool false := by
  show (if tFALSE = tTRUE then RV.bool true else if tFALSE = tFALSE then RV.bool false else RV.err 2) = _
  rw [if_neg (by decide), if_pos rfl]
theorem tobool_O {s : ByteArray} (h1 : s ≠ tTRUE) (h2 : s ≠ tFALSE) : toBool (.text s) = .err 2 := by
  show (if s = tTRUE then RV.bool true else if s = tFALSE then RV.bool false else RV.err 2) = _
  rw [if_neg h1, if_neg h2]
/-- A slice of two texts that the region makes; the address of one of them. -/
def SlB (v : Value) (w : World) : Prop := ∃ g, v = .slice (some ⟨g, 0, none⟩) 2 2 ∧ ∀ w', Ext w w' → w'.cell? ⟨g, 0, none⟩ = some (.string ⟨#[70, 65, 76, 83, 69]⟩) ∧ w'.cell? ⟨g, 1, none⟩ = some (.string ⟨#[84, 82, 85, 69]⟩)
theorem SlB.lasts : Lasts SlB := fun v w w' ⟨g, hv, h⟩ hE => ⟨g, hv, fun w'' hE' => h w'' (hE.trans hE')⟩
theorem SlB.new (w : World) (t : TypeId) : SlB (.slice (some ⟨w.heap.size, 0, none⟩) 2 2) (w.alloc (.cells #[.string ⟨#[70, 65, 76, 83, 69]⟩, .string ⟨#[84, 82, 85, 69]⟩] t)) :=
  ⟨_, rfl, fun w' hE => by
    have h := ext_blk (hq_at (w := w) (.cells #[.string ⟨#[70, 65, 76, 83, 69]⟩, .string ⟨#[84, 82, 85, 69]⟩] t) _ rfl) w' hE
    exact ⟨h 0, h 1⟩⟩
def PtB (n : Nat) (s : ByteArray) (v : Value) (w : World) : Prop := ∃ g, v = .pointer (some ⟨g, n, none⟩) ∧ ∀ w', Ext w w' → w'.cell? ⟨g, n, none⟩ = some (.string s)
theorem PtB.lasts (n : Nat) (s : ByteArray) : Lasts (PtB n s) := fun v w w' ⟨g, hv, h⟩ hE => ⟨g, hv, fun w'' hE' => h w'' (hE.trans hE')⟩
set_option maxHeartbeats 4000000 in
set_option maxRecDepth 100000 in
theorem walk_blank (w : World) (ht : Tab w) :
    Calls Tryd.prog 5 #[.agg #[.int .i64 0, .int .i64 0, .string ⟨#[]⟩]] w fun e w' => e = .returned (.bool true) ∧ Ext w w' := by
  have HS : Hid (ByteArray.size ⟨#[]⟩ ≤ 64) := Lib.hid (show (0 : Nat) ≤ 64 by decide)
  have HR : Hid (∀ w, Calls Tryd.prog 14 #[.agg #[.int .i64 0, .int .i64 0, .string ⟨#[]⟩]] w fun e w' => e = .returned (.bool true) ∧ Ext w w') := Lib.hid (fun w => right_v (.blank) w trivial)
  have c1 : Hid (∀ w, Calls Tryd.prog 19 #[.agg #[.int .i64 0, .int .i64 0, .string ⟨#[]⟩]] w fun e w' => e = .returned (.agg #[.int .i64 1, .int .i64 0, .string ⟨#[]⟩]) ∧ Ext w w') := Lib.hid (fun w => tonum_v (.blank) w trivial)
  have c2 : Hid (∀ w (ht : Tab w), Calls Tryd.prog 20 #[.agg #[.int .i64 0, .int .i64 0, .string ⟨#[]⟩]] w fun e w' => e = .returned (.agg #[.int .i64 2, .int .i64 0, .string ⟨#[]⟩]) ∧ Ext w w') := Lib.hid (fun w ht => totext_v (.blank) w trivial ht)
  have c3 : Hid (∀ w, Calls Tryd.prog 21 #[.agg #[.int .i64 0, .int .i64 0, .string ⟨#[]⟩]] w fun e w' => e = .returned (.agg #[.int .i64 3, .int .i64 0, .string ⟨#[]⟩]) ∧ Ext w w') := Lib.hid (fun w => tobool_v (.blank) w trivial)
  have HSH : Hid (∀ w (ht : Tab w), Calls Tryd.prog 22 #[.agg #[.int .i64 0, .int .i64 0, .string ⟨#[]⟩]] w fun e w' => e = .returned (.string ⟨#[]⟩) ∧ Ext w w') := Lib.hid (fun w ht => show_v (.blank) w trivial ht)
  obtain ⟨W1, hW1, hE1, hG1, hL1, hS1⟩ := new_blk w #[.int .i64 0, .int .i64 0, .string ⟨#[]⟩] 28
  have hT1 : Tab W1 := by rw [← hW1]; exact ht.alloc _
  have b1 := ext_blk hG1
  have l1 := ext_lt (blk_lt hG1)
  have HW1 := Lib.hid hW1
  have HE1 := Lib.hid hE1
  have HG1 := Lib.hid hG1
  have HT1 := Lib.hid hT1
  have HT := Lib.hid ht
  have f1 : CallE Tryd.prog W1 9 #[] (.bool true) := fun w' hE => fit_v w' (HT1.out.ext hE)
  have f2 : CallE Tryd.prog W1 12 #[.agg #[.int .i64 0, .int .i64 0, .string ⟨#[]⟩]] (.bool true) := fun w' hE => by
    have := light_any 0 0 ⟨#[]⟩ w' (by have := HS.out; omega)
    rwa [show decide ((ByteArray.size ⟨#[]⟩ : Int) ≤ 300) = true from decide_eq_true (by have := HS.out; omega)] at this
  have f3 : CallE Tryd.prog W1 14 #[.agg #[.int .i64 0, .int .i64 0, .string ⟨#[]⟩]] (.bool true) := fun w' hE => HR.out w'
  have hr1 := Ext.refl W1
  have E1 : CallE Tryd.prog W1 19 #[.agg #[.int .i64 0, .int .i64 0, .string ⟨#[]⟩]] (.agg #[.int .i64 1, .int .i64 0, .string ⟨#[]⟩]) := fun w' _ => c1.out w'
  have E2 : CallE Tryd.prog W1 20 #[.agg #[.int .i64 0, .int .i64 0, .string ⟨#[]⟩]] (.agg #[.int .i64 2, .int .i64 0, .string ⟨#[]⟩]) := fun w' hE => c2.out w' (HT1.out.ext hE)
  have E3 : CallE Tryd.prog W1 21 #[.agg #[.int .i64 0, .int .i64 0, .string ⟨#[]⟩]] (.agg #[.int .i64 3, .int .i64 0, .string ⟨#[]⟩]) := fun w' _ => c3.out w'
  clear hW1 hE1 hG1 hL1 hS1 hT1 ht
  go_enter Tryd.func5, Tryd.ntmps5
  go_wp2_with fail
  rw [HW1.out]
  clear HW1
  go_upto_region 5 with (first | ((with_reducible refine (CallE.at_ (by assumption) (by assumption)).mono ?_); rintro e w' ⟨rfl, hEx⟩))
  have hx := hEx
  have HX := Lib.hid hx
  have HG2 := Lib.hid (hx.blk HG1.out)
  have b1 := ext_blk HG2.out
  have l1 := ext_lt (blk_lt HG2.out)
  have e1 := E1.more hx
  have e2 := E2.more hx
  have e3 := E3.more hx
  clear f1 f2 f3 hx
  go_wp2_with fail
  refine region_own [3, 4, 5] (by intro d hd; simp only [List.mem_cons, List.not_mem_nil, or_false] at hd; rcases hd with rfl | rfl | rfl <;> rfl) (by kernel_rfl) (by kernel_rfl) rfl (fun K hK => ?_)
  repeat (first | (refine seqr_skip (by rfl) (fun ρ => by rfl) ?_; (try simp only [Act.put, List.setIfInBounds_toArray, List.set_cons_zero, List.set_cons_succ])) | (refine seqr_pure (v := ?_) (by rfl) (fun ρ => by rfl) (fun ρ w hE hF => ?_) ?_; rotate_left 1; (· ((try simp only [fill, Act.put, List.setIfInBounds_toArray, List.set_cons_zero, List.set_cons_succ]); go_simp; try with_reducible rfl)); (try simp only [Act.put, List.setIfInBounds_toArray, List.set_cons_zero, List.set_cons_succ])) | (refine seqr_call0 (v := ?_) (f := ?_) (args := ?_) (by rfl) (fun ρ => by rfl) (fun ρ w => ?_) (fun w hE => ?_) ?_; rotate_left 3; (· ((try simp only [fill, Act.put, List.setIfInBounds_toArray, List.set_cons_zero, List.set_cons_succ]); go_simp; constructor <;> with_reducible rfl)); (· (with_reducible exact CallE.call (by assumption) hE)); (try simp only [Act.put, List.setIfInBounds_toArray, List.set_cons_zero, List.set_cons_succ])))
  (refine seqr_own 28 (#[.int .i64 0, .int .i64 0, .string ⟨#[]⟩]) rfl (by decide) (by rfl) (fun ρ => by rfl) (fun ρ w hE hF => ?_) ?_; (· ((try simp only [fill, Act.put, List.setIfInBounds_toArray, List.set_cons_zero, List.set_cons_succ]); go_simp; try rfl)); (try simp only [Act.put, List.setIfInBounds_toArray, List.set_cons_zero, List.set_cons_succ]))
  (refine seqr_own 28 (#[.int .i64 0, .int .i64 0, .string ⟨#[]⟩]) rfl (by decide) (by rfl) (fun ρ => by rfl) (fun ρ w hE hF => ?_) ?_; (· ((try simp only [fill, Act.put, List.setIfInBounds_toArray, List.set_cons_zero, List.set_cons_succ]); go_simp; try rfl)); (try simp only [Act.put, List.setIfInBounds_toArray, List.set_cons_zero, List.set_cons_succ]))
  (refine seqr_own 28 (#[.int .i64 0, .int .i64 0, .string ⟨#[]⟩]) rfl (by decide) (by rfl) (fun ρ => by rfl) (fun ρ w hE hF => ?_) ?_; (· ((try simp only [fill, Act.put, List.setIfInBounds_toArray, List.set_cons_zero, List.set_cons_succ]); go_simp; try rfl)); (try simp only [Act.put, List.setIfInBounds_toArray, List.set_cons_zero, List.set_cons_succ]))
  refine seqr_tails (by kernel_rfl) (fun ρ wN hEN hFN hAN => ?_); (try simp only [fill, Act.put, List.setIfInBounds_toArray, List.set_cons_zero, List.set_cons_succ])
  obtain ⟨g3, hp3, hl3, hb3⟩ := hFN _ (.tail _ (.tail _ (.head _)))
  obtain ⟨g4, hp4, hl4, hb4⟩ := hFN _ (.tail _ (.head _))
  obtain ⟨g5, hp5, hl5, hb5⟩ := hFN _ (.head _)
  simp only at hp3 hp4 hp5
  have n34 : g3 ≠ g4 := apt_ne hAN (d := 3) (d' := 4) (by simp) (by simp) (by decide) hl3 hp3 hp4
  have n35 : g3 ≠ g5 := apt_ne hAN (d := 3) (d' := 5) (by simp) (by simp) (by decide) hl3 hp3 hp5
  have n45 : g4 ≠ g5 := apt_ne hAN (d := 4) (d' := 5) (by simp) (by simp) (by decide) hl4 hp4 hp5
  have n43 := n34.symm
  have n53 := n35.symm
  have n54 := n45.symm
  rw [hp3, hp4, hp5]
  clear hp3 hp4 hp5 hFN hAN e1 e2 e3 b1 l1
  go_wp2_with ((with_reducible refine wpl_guard (isStore 28) ?_ ?_); (· rfl); refine wpl_store (t := ?_) (old := ?_) (w' := ?_) rfl 28 _ _ rfl rfl rfl ?_ ?_ ?_ ?_ ?_ ?_; rotate_left 2; (· (first | (with_reducible assumption) | (simp (disch := (first | omega | (simp only [World.size_alloc, World.size_setCell, World.size_drew, size_setRow]; done) | (simp only [World.size_alloc, World.size_setCell, World.size_drew, size_setRow]; omega))) only [hq_at, hq_past, hq_drew, hq_drewN, hq_cell, hq_row, hq_same, rowOf_cells, Option.map_some, *]; rfl) | (simp (disch := (first | omega | (simp only [World.size_alloc, World.size_setCell, World.size_drew, size_setRow]; done) | (simp only [World.size_alloc, World.size_setCell, World.size_drew, size_setRow]; omega))) only [hq_at, hq_past, hq_drew, hq_drewN, hq_cell, hq_row, hq_same, rowOf_cells, Option.map_some, *]))); (· kernel_rfl); (· rfl); (· rfl); rotate_left 1; (· (first | (simp (disch := (first | omega | (simp only [World.size_alloc, World.size_setCell, World.size_drew, size_setRow]; done) | (simp only [World.size_alloc, World.size_setCell, World.size_drew, size_setRow]; omega))) only [setRow_at, setRow_past, setRow_drew]; rfl) | rfl)))
  refine (show K _ _ from hK.out _ _ ?_); clear hK K
  obtain ⟨V1, hV1, hE1, hG3⟩ := put_blk hEN hl3 hb3 #[.int .i64 1, .int .i64 0, .string ⟨#[]⟩]
  have h4 := put_off (cs := #[.int .i64 1, .int .i64 0, .string ⟨#[]⟩]) n43 hb4
  have h5 := put_off (cs := #[.int .i64 1, .int .i64 0, .string ⟨#[]⟩]) n53 hb5
  rw [hV1] at h4 h5 ⊢
  obtain ⟨V2, hV2, hE2, hG4⟩ := put_blk hE1 hl4 h4 #[.int .i64 2, .int .i64 0, .string ⟨#[]⟩]
  have h5' := put_off (cs := #[.int .i64 2, .int .i64 0, .string ⟨#[]⟩]) n54 h5
  have hG3' := put_off (cs := #[.int .i64 2, .int .i64 0, .string ⟨#[]⟩]) n34 hG3
  rw [hV2] at h5' hG3' ⊢
  obtain ⟨V3, hV3, hE3, hG5⟩ := put_blk hE2 hl5 h5' #[.int .i64 3, .int .i64 0, .string ⟨#[]⟩]
  have hG3'' := put_off (cs := #[.int .i64 3, .int .i64 0, .string ⟨#[]⟩]) n35 hG3'
  have hG4' := put_off (cs := #[.int .i64 3, .int .i64 0, .string ⟨#[]⟩]) n45 hG4
  rw [hV3] at hG3'' hG4' ⊢
  have b1 := ext_blk (hE3.blk HG2.out)
  have l1 := ext_lt (blk_lt (hE3.blk HG2.out))
  have b3 := ext_blk hG3''
  have l3 := ext_lt (blk_lt hG3'')
  have b4 := ext_blk hG4'
  have l4 := ext_lt (blk_lt hG4')
  have b5 := ext_blk hG5
  have l5 := ext_lt (blk_lt hG5)
  have hEx := Ext.refl V3
  have E13 := HX.out.trans hE3
  have HEF := Lib.hid (HE1.out.trans E13)
  have E13 := Lib.hid E13
  clear hV1 hV2 hV3 hE1 hE2 hE3 hG3 hG4 hG5 hG3' hG3'' hG4' h4 h5 h5' hb3 hb4 hb5 hl3 hl4 hl5 hEN n34 n35 n45 n43 n53 n54 E1 E2 E3 HX HG1 HG2
  have t1 : CallE Tryd.prog V3 22 #[.agg #[.int .i64 0, .int .i64 0, .string ⟨#[]⟩]] (.string ⟨#[]⟩) := fun w' hE => HSH.out w' (HT1.out.ext (E13.out.trans hE))
  have q1 := fun w => eql_value_self 1 0 ⟨#[]⟩ w
  have q2 := fun w => eql_value_self 2 0 ⟨#[]⟩ w
  have q3 := fun w => eql_value_self 3 0 ⟨#[]⟩ w
  have q4 : (ByteArray.toList ⟨#[]⟩ == ByteArray.toList ⟨#[]⟩) = true := by simp
  have hr := Ext.refl V3
  clear hEx
  have t2 : CallE Tryd.prog V3 15 #[.int .i64 0] (.agg #[.int .i64 1, .int .i64 0, .string ⟨#[]⟩]) := fun w' _ => num_v 0 w'
  have t3 : CallE Tryd.prog V3 18 #[.bool false] (.agg #[.int .i64 3, .int .i64 0, .string ⟨#[]⟩]) := fun w' _ => bool_v false w'
  go_upto_region 8 with (fail)
  go_wp2_with fail
  refine region_any (by kernel_rfl) (by kernel_rfl) rfl (fun K hK => ?_)
  repeat (first | (refine seqr_skip (by rfl) (fun ρ => by rfl) ?_; (try simp only [Act.put, List.setIfInBounds_toArray, List.set_cons_zero, List.set_cons_succ])) | (refine seqr_pure (v := ?_) (by rfl) (fun ρ => by rfl) (fun ρ w hE hF => ?_) ?_; rotate_left 1; (· ((try simp only [fill, Act.put, List.setIfInBounds_toArray, List.set_cons_zero, List.set_cons_succ]); go_simp; try with_reducible rfl)); (try simp only [Act.put, List.setIfInBounds_toArray, List.set_cons_zero, List.set_cons_succ])) | (refine seqr_call0 (v := ?_) (f := ?_) (args := ?_) (by rfl) (fun ρ => by rfl) (fun ρ w => ?_) (fun w hE => ?_) ?_; rotate_left 3; (· ((try simp only [fill, Act.put, List.setIfInBounds_toArray, List.set_cons_zero, List.set_cons_succ]); go_simp; constructor <;> with_reducible rfl)); (· (with_reducible exact CallE.call (by assumption) hE)); (try simp only [Act.put, List.setIfInBounds_toArray, List.set_cons_zero, List.set_cons_succ])))
  refine seqr_done (fun ρ wN hEN hFN => ?_); (try simp only [fill, Act.put, List.setIfInBounds_toArray, List.set_cons_zero, List.set_cons_succ]); refine (show K _ _ from hK.out _ _ ?_); clear hK K
  have HEG := Lib.hid (HEF.out.trans hEN)
  replace b1 := fun w (h : Ext wN w) => b1 w (Ext.trans hEN h)
  replace b3 := fun w (h : Ext wN w) => b3 w (Ext.trans hEN h)
  replace b4 := fun w (h : Ext wN w) => b4 w (Ext.trans hEN h)
  replace b5 := fun w (h : Ext wN w) => b5 w (Ext.trans hEN h)
  replace l1 := fun w (h : Ext wN w) => l1 w (Ext.trans hEN h)
  replace l3 := fun w (h : Ext wN w) => l3 w (Ext.trans hEN h)
  replace l4 := fun w (h : Ext wN w) => l4 w (Ext.trans hEN h)
  replace l5 := fun w (h : Ext wN w) => l5 w (Ext.trans hEN h)
  replace t1 := CallE.more t1 hEN
  replace t2 := CallE.more t2 hEN
  replace t3 := CallE.more t3 hEN
  clear hr
  have hr := Ext.refl wN
  go_wp2_with fail
  refine region_any (by kernel_rfl) (by kernel_rfl) rfl (fun K hK => ?_)
  repeat (first | (refine seqr_skip (by rfl) (fun ρ => by rfl) ?_; (try simp only [Act.put, List.setIfInBounds_toArray, List.set_cons_zero, List.set_cons_succ])) | (refine seqr_pure (v := ?_) (by rfl) (fun ρ => by rfl) (fun ρ w hE hF => ?_) ?_; rotate_left 1; (· ((try simp only [fill, Act.put, List.setIfInBounds_toArray, List.set_cons_zero, List.set_cons_succ]); go_simp; try with_reducible rfl)); (try simp only [Act.put, List.setIfInBounds_toArray, List.set_cons_zero, List.set_cons_succ])) | (refine seqr_call0 (v := ?_) (f := ?_) (args := ?_) (by rfl) (fun ρ => by rfl) (fun ρ w => ?_) (fun w hE => ?_) ?_; rotate_left 3; (· ((try simp only [fill, Act.put, List.setIfInBounds_toArray, List.set_cons_zero, List.set_cons_succ]); go_simp; constructor <;> with_reducible rfl)); (· (with_reducible exact CallE.call (by assumption) hE)); (try simp only [Act.put, List.setIfInBounds_toArray, List.set_cons_zero, List.set_cons_succ])))
  refine seqr_done (fun ρ wN hEN hFN => ?_); (try simp only [fill, Act.put, List.setIfInBounds_toArray, List.set_cons_zero, List.set_cons_succ]); refine (show K _ _ from hK.out _ _ ?_); clear hK K
  go_wp2_with fail
  go_ret
  exact ⟨rfl, HEG.out.trans hEN⟩
set_option maxHeartbeats 4000000 in
set_option maxRecDepth 100000 in
theorem walk_num0 (sh : ByteArray) (w : World) (ht : Tab w) (hok : (RV.num 0).ok) (hsh : showB (.num 0) = sh) :
    Calls Tryd.prog 5 #[.agg #[.int .i64 1, .int .i64 0, .string ⟨#[]⟩]] w fun e w' => e = .returned (.bool true) ∧ Ext w w' := by
  have HS : Hid (ByteArray.size ⟨#[]⟩ ≤ 64) := Lib.hid (show (0 : Nat) ≤ 64 by decide)
  have HR : Hid (∀ w, Calls Tryd.prog 14 #[.agg #[.int .i64 1, .int .i64 0, .string ⟨#[]⟩]] w fun e w' => e = .returned (.bool true) ∧ Ext w w') := Lib.hid (fun w => right_v (.num 0) w hok)
  have c1 : Hid (∀ w, Calls Tryd.prog 19 #[.agg #[.int .i64 1, .int .i64 0, .string ⟨#[]⟩]] w fun e w' => e = .returned (.agg #[.int .i64 1, .int .i64 0, .string ⟨#[]⟩]) ∧ Ext w w') := Lib.hid (fun w => tonum_v (.num 0) w hok)
  have c2 : Hid (∀ w (ht : Tab w), Calls Tryd.prog 20 #[.agg #[.int .i64 1, .int .i64 0, .string ⟨#[]⟩]] w fun e w' => e = .returned (.agg #[.int .i64 2, .int .i64 0, .string sh]) ∧ Ext w w') := Lib.hid (fun w ht => by have := totext_v (.num 0) w hok ht; rw [show_64 hok (show (1 : Int) ≠ 4 by decide), hsh] at this; exact this)
  have c3 : Hid (∀ w, Calls Tryd.prog 21 #[.agg #[.int .i64 1, .int .i64 0, .string ⟨#[]⟩]] w fun e w' => e = .returned (.agg #[.int .i64 3, .int .i64 0, .string ⟨#[]⟩]) ∧ Ext w w') := Lib.hid (fun w => tobool_v (.num 0) w hok)
  have HSH : Hid (∀ w (ht : Tab w), Calls Tryd.prog 22 #[.agg #[.int .i64 1, .int .i64 0, .string ⟨#[]⟩]] w fun e w' => e = .returned (.string sh) ∧ Ext w w') := Lib.hid (fun w ht => by have := show_v (.num 0) w hok ht; rw [hsh] at this; exact this)
  obtain ⟨W1, hW1, hE1, hG1, hL1, hS1⟩ := new_blk w #[.int .i64 1, .int .i64 0, .string ⟨#[]⟩] 28
  have hT1 : Tab W1 := by rw [← hW1]; exact ht.alloc _
  have b1 := ext_blk hG1
  have l1 := ext_lt (blk_lt hG1)
  have HW1 := Lib.hid hW1
  have HE1 := Lib.hid hE1
  have HG1 := Lib.hid hG1
  have HT1 := Lib.hid hT1
  have HT := Lib.hid ht
  have f1 : CallE Tryd.prog W1 9 #[] (.bool true) := fun w' hE => fit_v w' (HT1.out.ext hE)
  have f2 : CallE Tryd.prog W1 12 #[.agg #[.int .i64 1, .int .i64 0, .string ⟨#[]⟩]] (.bool true) := fun w' hE => by
    have := light_any 1 0 ⟨#[]⟩ w' (by have := HS.out; omega)
    rwa [show decide ((ByteArray.size ⟨#[]⟩ : Int) ≤ 300) = true from decide_eq_true (by have := HS.out; omega)] at this
  have f3 : CallE Tryd.prog W1 14 #[.agg #[.int .i64 1, .int .i64 0, .string ⟨#[]⟩]] (.bool true) := fun w' hE => HR.out w'
  have hr1 := Ext.refl W1
  have E1 : CallE Tryd.prog W1 19 #[.agg #[.int .i64 1, .int .i64 0, .string ⟨#[]⟩]] (.agg #[.int .i64 1, .int .i64 0, .string ⟨#[]⟩]) := fun w' _ => c1.out w'
  have E2 : CallE Tryd.prog W1 20 #[.agg #[.int .i64 1, .int .i64 0, .string ⟨#[]⟩]] (.agg #[.int .i64 2, .int .i64 0, .string sh]) := fun w' hE => c2.out w' (HT1.out.ext hE)
  have E3 : CallE Tryd.prog W1 21 #[.agg #[.int .i64 1, .int .i64 0, .string ⟨#[]⟩]] (.agg #[.int .i64 3, .int .i64 0, .string ⟨#[]⟩]) := fun w' _ => c3.out w'
  clear hW1 hE1 hG1 hL1 hS1 hT1 ht
  go_enter Tryd.func5, Tryd.ntmps5
  go_wp2_with fail
  rw [HW1.out]
  clear HW1
  go_upto_region 5 with (first | ((with_reducible refine (CallE.at_ (by assumption) (by assumption)).mono ?_); rintro e w' ⟨rfl, hEx⟩))
  have hx := hEx
  have HX := Lib.hid hx
  have HG2 := Lib.hid (hx.blk HG1.out)
  have b1 := ext_blk HG2.out
  have l1 := ext_lt (blk_lt HG2.out)
  have e1 := E1.more hx
  have e2 := E2.more hx
  have e3 := E3.more hx
  clear f1 f2 f3 hx
  go_wp2_with fail
  refine region_own [3, 4, 5] (by intro d hd; simp only [List.mem_cons, List.not_mem_nil, or_false] at hd; rcases hd with rfl | rfl | rfl <;> rfl) (by kernel_rfl) (by kernel_rfl) rfl (fun K hK => ?_)
  repeat (first | (refine seqr_skip (by rfl) (fun ρ => by rfl) ?_; (try simp only [Act.put, List.setIfInBounds_toArray, List.set_cons_zero, List.set_cons_succ])) | (refine seqr_pure (v := ?_) (by rfl) (fun ρ => by rfl) (fun ρ w hE hF => ?_) ?_; rotate_left 1; (· ((try simp only [fill, Act.put, List.setIfInBounds_toArray, List.set_cons_zero, List.set_cons_succ]); go_simp; try with_reducible rfl)); (try simp only [Act.put, List.setIfInBounds_toArray, List.set_cons_zero, List.set_cons_succ])) | (refine seqr_call0 (v := ?_) (f := ?_) (args := ?_) (by rfl) (fun ρ => by rfl) (fun ρ w => ?_) (fun w hE => ?_) ?_; rotate_left 3; (· ((try simp only [fill, Act.put, List.setIfInBounds_toArray, List.set_cons_zero, List.set_cons_succ]); go_simp; constructor <;> with_reducible rfl)); (· (with_reducible exact CallE.call (by assumption) hE)); (try simp only [Act.put, List.setIfInBounds_toArray, List.set_cons_zero, List.set_cons_succ])))
  (refine seqr_own 28 (#[.int .i64 0, .int .i64 0, .string ⟨#[]⟩]) rfl (by decide) (by rfl) (fun ρ => by rfl) (fun ρ w hE hF => ?_) ?_; (· ((try simp only [fill, Act.put, List.setIfInBounds_toArray, List.set_cons_zero, List.set_cons_succ]); go_simp; try rfl)); (try simp only [Act.put, List.setIfInBounds_toArray, List.set_cons_zero, List.set_cons_succ]))
  (refine seqr_own 28 (#[.int .i64 0, .int .i64 0, .string ⟨#[]⟩]) rfl (by decide) (by rfl) (fun ρ => by rfl) (fun ρ w hE hF => ?_) ?_; (· ((try simp only [fill, Act.put, List.setIfInBounds_toArray, List.set_cons_zero, List.set_cons_succ]); go_simp; try rfl)); (try simp only [Act.put, List.setIfInBounds_toArray, List.set_cons_zero, List.set_cons_succ]))
  (refine seqr_own 28 (#[.int .i64 0, .int .i64 0, .string ⟨#[]⟩]) rfl (by decide) (by rfl) (fun ρ => by rfl) (fun ρ w hE hF => ?_) ?_; (· ((try simp only [fill, Act.put, List.setIfInBounds_toArray, List.set_cons_zero, List.set_cons_succ]); go_simp; try rfl)); (try simp only [Act.put, List.setIfInBounds_toArray, List.set_cons_zero, List.set_cons_succ]))
  refine seqr_tails (by kernel_rfl) (fun ρ wN hEN hFN hAN => ?_); (try simp only [fill, Act.put, List.setIfInBounds_toArray, List.set_cons_zero, List.set_cons_succ])
  obtain ⟨g3, hp3, hl3, hb3⟩ := hFN _ (.tail _ (.tail _ (.head _)))
  obtain ⟨g4, hp4, hl4, hb4⟩ := hFN _ (.tail _ (.head _))
  obtain ⟨g5, hp5, hl5, hb5⟩ := hFN _ (.head _)
  simp only at hp3 hp4 hp5
  have n34 : g3 ≠ g4 := apt_ne hAN (d := 3) (d' := 4) (by simp) (by simp) (by decide) hl3 hp3 hp4
  have n35 : g3 ≠ g5 := apt_ne hAN (d := 3) (d' := 5) (by simp) (by simp) (by decide) hl3 hp3 hp5
  have n45 : g4 ≠ g5 := apt_ne hAN (d := 4) (d' := 5) (by simp) (by simp) (by decide) hl4 hp4 hp5
  have n43 := n34.symm
  have n53 := n35.symm
  have n54 := n45.symm
  rw [hp3, hp4, hp5]
  clear hp3 hp4 hp5 hFN hAN e1 e2 e3 b1 l1
  go_wp2_with ((with_reducible refine wpl_guard (isStore 28) ?_ ?_); (· rfl); refine wpl_store (t := ?_) (old := ?_) (w' := ?_) rfl 28 _ _ rfl rfl rfl ?_ ?_ ?_ ?_ ?_ ?_; rotate_left 2; (· (first | (with_reducible assumption) | (simp (disch := (first | omega | (simp only [World.size_alloc, World.size_setCell, World.size_drew, size_setRow]; done) | (simp only [World.size_alloc, World.size_setCell, World.size_drew, size_setRow]; omega))) only [hq_at, hq_past, hq_drew, hq_drewN, hq_cell, hq_row, hq_same, rowOf_cells, Option.map_some, *]; rfl) | (simp (disch := (first | omega | (simp only [World.size_alloc, World.size_setCell, World.size_drew, size_setRow]; done) | (simp only [World.size_alloc, World.size_setCell, World.size_drew, size_setRow]; omega))) only [hq_at, hq_past, hq_drew, hq_drewN, hq_cell, hq_row, hq_same, rowOf_cells, Option.map_some, *]))); (· kernel_rfl); (· rfl); (· rfl); rotate_left 1; (· (first | (simp (disch := (first | omega | (simp only [World.size_alloc, World.size_setCell, World.size_drew, size_setRow]; done) | (simp only [World.size_alloc, World.size_setCell, World.size_drew, size_setRow]; omega))) only [setRow_at, setRow_past, setRow_drew]; rfl) | rfl)))
  refine (show K _ _ from hK.out _ _ ?_); clear hK K
  obtain ⟨V1, hV1, hE1, hG3⟩ := put_blk hEN hl3 hb3 #[.int .i64 1, .int .i64 0, .string ⟨#[]⟩]
  have h4 := put_off (cs := #[.int .i64 1, .int .i64 0, .string ⟨#[]⟩]) n43 hb4
  have h5 := put_off (cs := #[.int .i64 1, .int .i64 0, .string ⟨#[]⟩]) n53 hb5
  rw [hV1] at h4 h5 ⊢
  obtain ⟨V2, hV2, hE2, hG4⟩ := put_blk hE1 hl4 h4 #[.int .i64 2, .int .i64 0, .string sh]
  have h5' := put_off (cs := #[.int .i64 2, .int .i64 0, .string sh]) n54 h5
  have hG3' := put_off (cs := #[.int .i64 2, .int .i64 0, .string sh]) n34 hG3
  rw [hV2] at h5' hG3' ⊢
  obtain ⟨V3, hV3, hE3, hG5⟩ := put_blk hE2 hl5 h5' #[.int .i64 3, .int .i64 0, .string ⟨#[]⟩]
  have hG3'' := put_off (cs := #[.int .i64 3, .int .i64 0, .string ⟨#[]⟩]) n35 hG3'
  have hG4' := put_off (cs := #[.int .i64 3, .int .i64 0, .string ⟨#[]⟩]) n45 hG4
  rw [hV3] at hG3'' hG4' ⊢
  have b1 := ext_blk (hE3.blk HG2.out)
  have l1 := ext_lt (blk_lt (hE3.blk HG2.out))
  have b3 := ext_blk hG3''
  have l3 := ext_lt (blk_lt hG3'')
  have b4 := ext_blk hG4'
  have l4 := ext_lt (blk_lt hG4')
  have b5 := ext_blk hG5
  have l5 := ext_lt (blk_lt hG5)
  have hEx := Ext.refl V3
  have E13 := HX.out.trans hE3
  have HEF := Lib.hid (HE1.out.trans E13)
  have E13 := Lib.hid E13
  clear hV1 hV2 hV3 hE1 hE2 hE3 hG3 hG4 hG5 hG3' hG3'' hG4' h4 h5 h5' hb3 hb4 hb5 hl3 hl4 hl5 hEN n34 n35 n45 n43 n53 n54 E1 E2 E3 HX HG1 HG2
  have t1 : CallE Tryd.prog V3 22 #[.agg #[.int .i64 1, .int .i64 0, .string ⟨#[]⟩]] (.string sh) := fun w' hE => HSH.out w' (HT1.out.ext (E13.out.trans hE))
  have q1 := fun w => eql_value_self 1 0 ⟨#[]⟩ w
  have q2 := fun w => eql_value_self 2 0 sh w
  have q3 := fun w => eql_value_self 3 0 ⟨#[]⟩ w
  have q4 : (ByteArray.toList sh == ByteArray.toList sh) = true := by simp
  have hr := Ext.refl V3
  clear hEx
  have t2 : CallE Tryd.prog V3 18 #[.bool false] (.agg #[.int .i64 3, .int .i64 0, .string ⟨#[]⟩]) := fun w' _ => bool_v _ w'
  have t3 : CallE Tryd.prog V3 23 #[.int .i64 0] (.string sh) := fun w' _ => by have := print_any (0) w' hok; rw [show (⟨(txt (0)).toArray⟩ : ByteArray) = sh from hsh] at this; exact this
  go_upto_region 8 with (fail)
  go_wp2_with fail
  refine region_any (by kernel_rfl) (by kernel_rfl) rfl (fun K hK => ?_)
  repeat (first | (refine seqr_skip (by rfl) (fun ρ => by rfl) ?_; (try simp only [Act.put, List.setIfInBounds_toArray, List.set_cons_zero, List.set_cons_succ])) | (refine seqr_pure (v := ?_) (by rfl) (fun ρ => by rfl) (fun ρ w hE hF => ?_) ?_; rotate_left 1; (· ((try simp only [fill, Act.put, List.setIfInBounds_toArray, List.set_cons_zero, List.set_cons_succ]); go_simp; try with_reducible rfl)); (try simp only [Act.put, List.setIfInBounds_toArray, List.set_cons_zero, List.set_cons_succ])) | (refine seqr_call0 (v := ?_) (f := ?_) (args := ?_) (by rfl) (fun ρ => by rfl) (fun ρ w => ?_) (fun w hE => ?_) ?_; rotate_left 3; (· ((try simp only [fill, Act.put, List.setIfInBounds_toArray, List.set_cons_zero, List.set_cons_succ]); go_simp; constructor <;> with_reducible rfl)); (· (with_reducible exact CallE.call (by assumption) hE)); (try simp only [Act.put, List.setIfInBounds_toArray, List.set_cons_zero, List.set_cons_succ])))
  refine seqr_done (fun ρ wN hEN hFN => ?_); (try simp only [fill, Act.put, List.setIfInBounds_toArray, List.set_cons_zero, List.set_cons_succ]); refine (show K _ _ from hK.out _ _ ?_); clear hK K
  have HEG := Lib.hid (HEF.out.trans hEN)
  replace b1 := fun w (h : Ext wN w) => b1 w (Ext.trans hEN h)
  replace b3 := fun w (h : Ext wN w) => b3 w (Ext.trans hEN h)
  replace b4 := fun w (h : Ext wN w) => b4 w (Ext.trans hEN h)
  replace b5 := fun w (h : Ext wN w) => b5 w (Ext.trans hEN h)
  replace l1 := fun w (h : Ext wN w) => l1 w (Ext.trans hEN h)
  replace l3 := fun w (h : Ext wN w) => l3 w (Ext.trans hEN h)
  replace l4 := fun w (h : Ext wN w) => l4 w (Ext.trans hEN h)
  replace l5 := fun w (h : Ext wN w) => l5 w (Ext.trans hEN h)
  replace t1 := CallE.more t1 hEN
  replace t2 := CallE.more t2 hEN
  replace t3 := CallE.more t3 hEN
  clear hr
  have hr := Ext.refl wN
  go_wp2_with fail
  refine region_any (by kernel_rfl) (by kernel_rfl) rfl (fun K hK => ?_)
  repeat (first | (refine seqr_skip (by rfl) (fun ρ => by rfl) ?_; (try simp only [Act.put, List.setIfInBounds_toArray, List.set_cons_zero, List.set_cons_succ])) | (refine seqr_pure (v := ?_) (by rfl) (fun ρ => by rfl) (fun ρ w hE hF => ?_) ?_; rotate_left 1; (· ((try simp only [fill, Act.put, List.setIfInBounds_toArray, List.set_cons_zero, List.set_cons_succ]); go_simp; try with_reducible rfl)); (try simp only [Act.put, List.setIfInBounds_toArray, List.set_cons_zero, List.set_cons_succ])) | (refine seqr_call0 (v := ?_) (f := ?_) (args := ?_) (by rfl) (fun ρ => by rfl) (fun ρ w => ?_) (fun w hE => ?_) ?_; rotate_left 3; (· ((try simp only [fill, Act.put, List.setIfInBounds_toArray, List.set_cons_zero, List.set_cons_succ]); go_simp; constructor <;> with_reducible rfl)); (· (with_reducible exact CallE.call (by assumption) hE)); (try simp only [Act.put, List.setIfInBounds_toArray, List.set_cons_zero, List.set_cons_succ])))
  refine seqr_done (fun ρ wN hEN hFN => ?_); (try simp only [fill, Act.put, List.setIfInBounds_toArray, List.set_cons_zero, List.set_cons_succ]); refine (show K _ _ from hK.out _ _ ?_); clear hK K
  go_wp2_with fail
  go_ret
  exact ⟨rfl, HEG.out.trans hEN⟩
set_option maxHeartbeats 4000000 in
set_option maxRecDepth 100000 in
theorem walk_num1 (n : Int) (sh : ByteArray) (w : World) (ht : Tab w) (hok : (RV.num n).ok) (hsh : showB (.num n) = sh) (hn : (n != 0) = true) :
    Calls Tryd.prog 5 #[.agg #[.int .i64 1, .int .i64 n, .string ⟨#[]⟩]] w fun e w' => e = .returned (.bool true) ∧ Ext w w' := by
  have HS : Hid (ByteArray.size ⟨#[]⟩ ≤ 64) := Lib.hid (show (0 : Nat) ≤ 64 by decide)
  have HR : Hid (∀ w, Calls Tryd.prog 14 #[.agg #[.int .i64 1, .int .i64 n, .string ⟨#[]⟩]] w fun e w' => e = .returned (.bool true) ∧ Ext w w') := Lib.hid (fun w => right_v (.num n) w hok)
  have c1 : Hid (∀ w, Calls Tryd.prog 19 #[.agg #[.int .i64 1, .int .i64 n, .string ⟨#[]⟩]] w fun e w' => e = .returned (.agg #[.int .i64 1, .int .i64 n, .string ⟨#[]⟩]) ∧ Ext w w') := Lib.hid (fun w => tonum_v (.num n) w hok)
  have c2 : Hid (∀ w (ht : Tab w), Calls Tryd.prog 20 #[.agg #[.int .i64 1, .int .i64 n, .string ⟨#[]⟩]] w fun e w' => e = .returned (.agg #[.int .i64 2, .int .i64 0, .string sh]) ∧ Ext w w') := Lib.hid (fun w ht => by have := totext_v (.num n) w hok ht; rw [show_64 hok (show (1 : Int) ≠ 4 by decide), hsh] at this; exact this)
  have c3 : Hid (∀ w, Calls Tryd.prog 21 #[.agg #[.int .i64 1, .int .i64 n, .string ⟨#[]⟩]] w fun e w' => e = .returned (.agg #[.int .i64 3, .int .i64 1, .string ⟨#[]⟩]) ∧ Ext w w') := Lib.hid (fun w => by have := tobool_v (.num n) w hok; rw [show toBool (.num n) = .bool true by show RV.bool (n != 0) = _; rw [hn]] at this; exact this)
  have HSH : Hid (∀ w (ht : Tab w), Calls Tryd.prog 22 #[.agg #[.int .i64 1, .int .i64 n, .string ⟨#[]⟩]] w fun e w' => e = .returned (.string sh) ∧ Ext w w') := Lib.hid (fun w ht => by have := show_v (.num n) w hok ht; rw [hsh] at this; exact this)
  obtain ⟨W1, hW1, hE1, hG1, hL1, hS1⟩ := new_blk w #[.int .i64 1, .int .i64 n, .string ⟨#[]⟩] 28
  have hT1 : Tab W1 := by rw [← hW1]; exact ht.alloc _
  have b1 := ext_blk hG1
  have l1 := ext_lt (blk_lt hG1)
  have HW1 := Lib.hid hW1
  have HE1 := Lib.hid hE1
  have HG1 := Lib.hid hG1
  have HT1 := Lib.hid hT1
  have HT := Lib.hid ht
  have f1 : CallE Tryd.prog W1 9 #[] (.bool true) := fun w' hE => fit_v w' (HT1.out.ext hE)
  have f2 : CallE Tryd.prog W1 12 #[.agg #[.int .i64 1, .int .i64 n, .string ⟨#[]⟩]] (.bool true) := fun w' hE => by
    have := light_any 1 n ⟨#[]⟩ w' (by have := HS.out; omega)
    rwa [show decide ((ByteArray.size ⟨#[]⟩ : Int) ≤ 300) = true from decide_eq_true (by have := HS.out; omega)] at this
  have f3 : CallE Tryd.prog W1 14 #[.agg #[.int .i64 1, .int .i64 n, .string ⟨#[]⟩]] (.bool true) := fun w' hE => HR.out w'
  have hr1 := Ext.refl W1
  have E1 : CallE Tryd.prog W1 19 #[.agg #[.int .i64 1, .int .i64 n, .string ⟨#[]⟩]] (.agg #[.int .i64 1, .int .i64 n, .string ⟨#[]⟩]) := fun w' _ => c1.out w'
  have E2 : CallE Tryd.prog W1 20 #[.agg #[.int .i64 1, .int .i64 n, .string ⟨#[]⟩]] (.agg #[.int .i64 2, .int .i64 0, .string sh]) := fun w' hE => c2.out w' (HT1.out.ext hE)
  have E3 : CallE Tryd.prog W1 21 #[.agg #[.int .i64 1, .int .i64 n, .string ⟨#[]⟩]] (.agg #[.int .i64 3, .int .i64 1, .string ⟨#[]⟩]) := fun w' _ => c3.out w'
  clear hW1 hE1 hG1 hL1 hS1 hT1 ht
  go_enter Tryd.func5, Tryd.ntmps5
  go_wp2_with fail
  rw [HW1.out]
  clear HW1
  go_upto_region 5 with (first | ((with_reducible refine (CallE.at_ (by assumption) (by assumption)).mono ?_); rintro e w' ⟨rfl, hEx⟩))
  have hx := hEx
  have HX := Lib.hid hx
  have HG2 := Lib.hid (hx.blk HG1.out)
  have b1 := ext_blk HG2.out
  have l1 := ext_lt (blk_lt HG2.out)
  have e1 := E1.more hx
  have e2 := E2.more hx
  have e3 := E3.more hx
  clear f1 f2 f3 hx
  go_wp2_with fail
  refine region_own [3, 4, 5] (by intro d hd; simp only [List.mem_cons, List.not_mem_nil, or_false] at hd; rcases hd with rfl | rfl | rfl <;> rfl) (by kernel_rfl) (by kernel_rfl) rfl (fun K hK => ?_)
  repeat (first | (refine seqr_skip (by rfl) (fun ρ => by rfl) ?_; (try simp only [Act.put, List.setIfInBounds_toArray, List.set_cons_zero, List.set_cons_succ])) | (refine seqr_pure (v := ?_) (by rfl) (fun ρ => by rfl) (fun ρ w hE hF => ?_) ?_; rotate_left 1; (· ((try simp only [fill, Act.put, List.setIfInBounds_toArray, List.set_cons_zero, List.set_cons_succ]); go_simp; try with_reducible rfl)); (try simp only [Act.put, List.setIfInBounds_toArray, List.set_cons_zero, List.set_cons_succ])) | (refine seqr_call0 (v := ?_) (f := ?_) (args := ?_) (by rfl) (fun ρ => by rfl) (fun ρ w => ?_) (fun w hE => ?_) ?_; rotate_left 3; (· ((try simp only [fill, Act.put, List.setIfInBounds_toArray, List.set_cons_zero, List.set_cons_succ]); go_simp; constructor <;> with_reducible rfl)); (· (with_reducible exact CallE.call (by assumption) hE)); (try simp only [Act.put, List.setIfInBounds_toArray, List.set_cons_zero, List.set_cons_succ])))
  (refine seqr_own 28 (#[.int .i64 0, .int .i64 0, .string ⟨#[]⟩]) rfl (by decide) (by rfl) (fun ρ => by rfl) (fun ρ w hE hF => ?_) ?_; (· ((try simp only [fill, Act.put, List.setIfInBounds_toArray, List.set_cons_zero, List.set_cons_succ]); go_simp; try rfl)); (try simp only [Act.put, List.setIfInBounds_toArray, List.set_cons_zero, List.set_cons_succ]))
  (refine seqr_own 28 (#[.int .i64 0, .int .i64 0, .string ⟨#[]⟩]) rfl (by decide) (by rfl) (fun ρ => by rfl) (fun ρ w hE hF => ?_) ?_; (· ((try simp only [fill, Act.put, List.setIfInBounds_toArray, List.set_cons_zero, List.set_cons_succ]); go_simp; try rfl)); (try simp only [Act.put, List.setIfInBounds_toArray, List.set_cons_zero, List.set_cons_succ]))
  (refine seqr_own 28 (#[.int .i64 0, .int .i64 0, .string ⟨#[]⟩]) rfl (by decide) (by rfl) (fun ρ => by rfl) (fun ρ w hE hF => ?_) ?_; (· ((try simp only [fill, Act.put, List.setIfInBounds_toArray, List.set_cons_zero, List.set_cons_succ]); go_simp; try rfl)); (try simp only [Act.put, List.setIfInBounds_toArray, List.set_cons_zero, List.set_cons_succ]))
  refine seqr_tails (by kernel_rfl) (fun ρ wN hEN hFN hAN => ?_); (try simp only [fill, Act.put, List.setIfInBounds_toArray, List.set_cons_zero, List.set_cons_succ])
  obtain ⟨g3, hp3, hl3, hb3⟩ := hFN _ (.tail _ (.tail _ (.head _)))
  obtain ⟨g4, hp4, hl4, hb4⟩ := hFN _ (.tail _ (.head _))
  obtain ⟨g5, hp5, hl5, hb5⟩ := hFN _ (.head _)
  simp only at hp3 hp4 hp5
  have n34 : g3 ≠ g4 := apt_ne hAN (d := 3) (d' := 4) (by simp) (by simp) (by decide) hl3 hp3 hp4
  have n35 : g3 ≠ g5 := apt_ne hAN (d := 3) (d' := 5) (by simp) (by simp) (by decide) hl3 hp3 hp5
  have n45 : g4 ≠ g5 := apt_ne hAN (d := 4) (d' := 5) (by simp) (by simp) (by decide) hl4 hp4 hp5
  have n43 := n34.symm
  have n53 := n35.symm
  have n54 := n45.symm
  rw [hp3, hp4, hp5]
  clear hp3 hp4 hp5 hFN hAN e1 e2 e3 b1 l1
  go_wp2_with ((with_reducible refine wpl_guard (isStore 28) ?_ ?_); (· rfl); refine wpl_store (t := ?_) (old := ?_) (w' := ?_) rfl 28 _ _ rfl rfl rfl ?_ ?_ ?_ ?_ ?_ ?_; rotate_left 2; (· (first | (with_reducible assumption) | (simp (disch := (first | omega | (simp only [World.size_alloc, World.size_setCell, World.size_drew, size_setRow]; done) | (simp only [World.size_alloc, World.size_setCell, World.size_drew, size_setRow]; omega))) only [hq_at, hq_past, hq_drew, hq_drewN, hq_cell, hq_row, hq_same, rowOf_cells, Option.map_some, *]; rfl) | (simp (disch := (first | omega | (simp only [World.size_alloc, World.size_setCell, World.size_drew, size_setRow]; done) | (simp only [World.size_alloc, World.size_setCell, World.size_drew, size_setRow]; omega))) only [hq_at, hq_past, hq_drew, hq_drewN, hq_cell, hq_row, hq_same, rowOf_cells, Option.map_some, *]))); (· kernel_rfl); (· rfl); (· rfl); rotate_left 1; (· (first | (simp (disch := (first | omega | (simp only [World.size_alloc, World.size_setCell, World.size_drew, size_setRow]; done) | (simp only [World.size_alloc, World.size_setCell, World.size_drew, size_setRow]; omega))) only [setRow_at, setRow_past, setRow_drew]; rfl) | rfl)))
  refine (show K _ _ from hK.out _ _ ?_); clear hK K
  obtain ⟨V1, hV1, hE1, hG3⟩ := put_blk hEN hl3 hb3 #[.int .i64 1, .int .i64 n, .string ⟨#[]⟩]
  have h4 := put_off (cs := #[.int .i64 1, .int .i64 n, .string ⟨#[]⟩]) n43 hb4
  have h5 := put_off (cs := #[.int .i64 1, .int .i64 n, .string ⟨#[]⟩]) n53 hb5
  rw [hV1] at h4 h5 ⊢
  obtain ⟨V2, hV2, hE2, hG4⟩ := put_blk hE1 hl4 h4 #[.int .i64 2, .int .i64 0, .string sh]
  have h5' := put_off (cs := #[.int .i64 2, .int .i64 0, .string sh]) n54 h5
  have hG3' := put_off (cs := #[.int .i64 2, .int .i64 0, .string sh]) n34 hG3
  rw [hV2] at h5' hG3' ⊢
  obtain ⟨V3, hV3, hE3, hG5⟩ := put_blk hE2 hl5 h5' #[.int .i64 3, .int .i64 1, .string ⟨#[]⟩]
  have hG3'' := put_off (cs := #[.int .i64 3, .int .i64 1, .string ⟨#[]⟩]) n35 hG3'
  have hG4' := put_off (cs := #[.int .i64 3, .int .i64 1, .string ⟨#[]⟩]) n45 hG4
  rw [hV3] at hG3'' hG4' ⊢
  have b1 := ext_blk (hE3.blk HG2.out)
  have l1 := ext_lt (blk_lt (hE3.blk HG2.out))
  have b3 := ext_blk hG3''
  have l3 := ext_lt (blk_lt hG3'')
  have b4 := ext_blk hG4'
  have l4 := ext_lt (blk_lt hG4')
  have b5 := ext_blk hG5
  have l5 := ext_lt (blk_lt hG5)
  have hEx := Ext.refl V3
  have E13 := HX.out.trans hE3
  have HEF := Lib.hid (HE1.out.trans E13)
  have E13 := Lib.hid E13
  clear hV1 hV2 hV3 hE1 hE2 hE3 hG3 hG4 hG5 hG3' hG3'' hG4' h4 h5 h5' hb3 hb4 hb5 hl3 hl4 hl5 hEN n34 n35 n45 n43 n53 n54 E1 E2 E3 HX HG1 HG2
  have t1 : CallE Tryd.prog V3 22 #[.agg #[.int .i64 1, .int .i64 n, .string ⟨#[]⟩]] (.string sh) := fun w' hE => HSH.out w' (HT1.out.ext (E13.out.trans hE))
  have q1 := fun w => eql_value_self 1 n ⟨#[]⟩ w
  have q2 := fun w => eql_value_self 2 0 sh w
  have q3 := fun w => eql_value_self 3 1 ⟨#[]⟩ w
  have q4 : (ByteArray.toList sh == ByteArray.toList sh) = true := by simp
  have hr := Ext.refl V3
  clear hEx
  have t2 : CallE Tryd.prog V3 18 #[.bool true] (.agg #[.int .i64 3, .int .i64 1, .string ⟨#[]⟩]) := fun w' _ => bool_v _ w'
  have t3 : CallE Tryd.prog V3 23 #[.int .i64 n] (.string sh) := fun w' _ => by have := print_any (n) w' hok; rw [show (⟨(txt (n)).toArray⟩ : ByteArray) = sh from hsh] at this; exact this
  go_upto_region 8 with (fail)
  go_wp2_with fail
  refine region_any (by kernel_rfl) (by kernel_rfl) rfl (fun K hK => ?_)
  repeat (first | (refine seqr_skip (by rfl) (fun ρ => by rfl) ?_; (try simp only [Act.put, List.setIfInBounds_toArray, List.set_cons_zero, List.set_cons_succ])) | (refine seqr_pure (v := ?_) (by rfl) (fun ρ => by rfl) (fun ρ w hE hF => ?_) ?_; rotate_left 1; (· ((try simp only [fill, Act.put, List.setIfInBounds_toArray, List.set_cons_zero, List.set_cons_succ]); go_simp; try with_reducible rfl)); (try simp only [Act.put, List.setIfInBounds_toArray, List.set_cons_zero, List.set_cons_succ])) | (refine seqr_call0 (v := ?_) (f := ?_) (args := ?_) (by rfl) (fun ρ => by rfl) (fun ρ w => ?_) (fun w hE => ?_) ?_; rotate_left 3; (· ((try simp only [fill, Act.put, List.setIfInBounds_toArray, List.set_cons_zero, List.set_cons_succ]); go_simp; constructor <;> with_reducible rfl)); (· (with_reducible exact CallE.call (by assumption) hE)); (try simp only [Act.put, List.setIfInBounds_toArray, List.set_cons_zero, List.set_cons_succ])))
  refine seqr_done (fun ρ wN hEN hFN => ?_); (try simp only [fill, Act.put, List.setIfInBounds_toArray, List.set_cons_zero, List.set_cons_succ]); refine (show K _ _ from hK.out _ _ ?_); clear hK K
  have HEG := Lib.hid (HEF.out.trans hEN)
  replace b1 := fun w (h : Ext wN w) => b1 w (Ext.trans hEN h)
  replace b3 := fun w (h : Ext wN w) => b3 w (Ext.trans hEN h)
  replace b4 := fun w (h : Ext wN w) => b4 w (Ext.trans hEN h)
  replace b5 := fun w (h : Ext wN w) => b5 w (Ext.trans hEN h)
  replace l1 := fun w (h : Ext wN w) => l1 w (Ext.trans hEN h)
  replace l3 := fun w (h : Ext wN w) => l3 w (Ext.trans hEN h)
  replace l4 := fun w (h : Ext wN w) => l4 w (Ext.trans hEN h)
  replace l5 := fun w (h : Ext wN w) => l5 w (Ext.trans hEN h)
  replace t1 := CallE.more t1 hEN
  replace t2 := CallE.more t2 hEN
  replace t3 := CallE.more t3 hEN
  clear hr
  have hr := Ext.refl wN
  go_wp2_with fail
  refine region_any (by kernel_rfl) (by kernel_rfl) rfl (fun K hK => ?_)
  repeat (first | (refine seqr_skip (by rfl) (fun ρ => by rfl) ?_; (try simp only [Act.put, List.setIfInBounds_toArray, List.set_cons_zero, List.set_cons_succ])) | (refine seqr_pure (v := ?_) (by rfl) (fun ρ => by rfl) (fun ρ w hE hF => ?_) ?_; rotate_left 1; (· ((try simp only [fill, Act.put, List.setIfInBounds_toArray, List.set_cons_zero, List.set_cons_succ]); go_simp; try with_reducible rfl)); (try simp only [Act.put, List.setIfInBounds_toArray, List.set_cons_zero, List.set_cons_succ])) | (refine seqr_call0 (v := ?_) (f := ?_) (args := ?_) (by rfl) (fun ρ => by rfl) (fun ρ w => ?_) (fun w hE => ?_) ?_; rotate_left 3; (· ((try simp only [fill, Act.put, List.setIfInBounds_toArray, List.set_cons_zero, List.set_cons_succ]); go_simp; constructor <;> with_reducible rfl)); (· (with_reducible exact CallE.call (by assumption) hE)); (try simp only [Act.put, List.setIfInBounds_toArray, List.set_cons_zero, List.set_cons_succ])))
  refine seqr_done (fun ρ wN hEN hFN => ?_); (try simp only [fill, Act.put, List.setIfInBounds_toArray, List.set_cons_zero, List.set_cons_succ]); refine (show K _ _ from hK.out _ _ ?_); clear hK K
  go_wp2_with fail
  go_ret
  exact ⟨rfl, HEG.out.trans hEN⟩
set_option maxHeartbeats 4000000 in
set_option maxRecDepth 100000 in
theorem walk_err (c : Int) (sh : ByteArray) (w : World) (ht : Tab w) (hok : (RV.err c).ok) (hc : -9223372036854775808 ≤ c ∧ c ≤ 9223372036854775807) (hsh : errName c = sh) :
    Calls Tryd.prog 5 #[.agg #[.int .i64 4, .int .i64 c, .string ⟨#[]⟩]] w fun e w' => e = .returned (.bool true) ∧ Ext w w' := by
  have HS : Hid (ByteArray.size ⟨#[]⟩ ≤ 64) := Lib.hid (show (0 : Nat) ≤ 64 by decide)
  have HR : Hid (∀ w, Calls Tryd.prog 14 #[.agg #[.int .i64 4, .int .i64 c, .string ⟨#[]⟩]] w fun e w' => e = .returned (.bool true) ∧ Ext w w') := Lib.hid (fun w => right_v (.err c) w hok)
  have c1 : Hid (∀ w, Calls Tryd.prog 19 #[.agg #[.int .i64 4, .int .i64 c, .string ⟨#[]⟩]] w fun e w' => e = .returned (.agg #[.int .i64 4, .int .i64 c, .string ⟨#[]⟩]) ∧ Ext w w') := Lib.hid (fun w => tonum_v (.err c) w hok)
  have c2 : Hid (∀ w (ht : Tab w), Calls Tryd.prog 20 #[.agg #[.int .i64 4, .int .i64 c, .string ⟨#[]⟩]] w fun e w' => e = .returned (.agg #[.int .i64 4, .int .i64 c, .string ⟨#[]⟩]) ∧ Ext w w') := Lib.hid (fun w ht => totext_v (.err c) w hok ht)
  have c3 : Hid (∀ w, Calls Tryd.prog 21 #[.agg #[.int .i64 4, .int .i64 c, .string ⟨#[]⟩]] w fun e w' => e = .returned (.agg #[.int .i64 4, .int .i64 c, .string ⟨#[]⟩]) ∧ Ext w w') := Lib.hid (fun w => tobool_v (.err c) w hok)
  have HSH : Hid (∀ w (ht : Tab w), Calls Tryd.prog 22 #[.agg #[.int .i64 4, .int .i64 c, .string ⟨#[]⟩]] w fun e w' => e = .returned (.string sh) ∧ Ext w w') := Lib.hid (fun w ht => by have := show_v (.err c) w hok ht; rw [show showB (.err c) = sh from hsh] at this; exact this)
  obtain ⟨W1, hW1, hE1, hG1, hL1, hS1⟩ := new_blk w #[.int .i64 4, .int .i64 c, .string ⟨#[]⟩] 28
  have hT1 : Tab W1 := by rw [← hW1]; exact ht.alloc _
  have b1 := ext_blk hG1
  have l1 := ext_lt (blk_lt hG1)
  have HW1 := Lib.hid hW1
  have HE1 := Lib.hid hE1
  have HG1 := Lib.hid hG1
  have HT1 := Lib.hid hT1
  have HT := Lib.hid ht
  have f1 : CallE Tryd.prog W1 9 #[] (.bool true) := fun w' hE => fit_v w' (HT1.out.ext hE)
  have f2 : CallE Tryd.prog W1 12 #[.agg #[.int .i64 4, .int .i64 c, .string ⟨#[]⟩]] (.bool true) := fun w' hE => by
    have := light_any 4 c ⟨#[]⟩ w' (by have := HS.out; omega)
    rwa [show decide ((ByteArray.size ⟨#[]⟩ : Int) ≤ 300) = true from decide_eq_true (by have := HS.out; omega)] at this
  have f3 : CallE Tryd.prog W1 14 #[.agg #[.int .i64 4, .int .i64 c, .string ⟨#[]⟩]] (.bool true) := fun w' hE => HR.out w'
  have hr1 := Ext.refl W1
  have E1 : CallE Tryd.prog W1 19 #[.agg #[.int .i64 4, .int .i64 c, .string ⟨#[]⟩]] (.agg #[.int .i64 4, .int .i64 c, .string ⟨#[]⟩]) := fun w' _ => c1.out w'
  have E2 : CallE Tryd.prog W1 20 #[.agg #[.int .i64 4, .int .i64 c, .string ⟨#[]⟩]] (.agg #[.int .i64 4, .int .i64 c, .string ⟨#[]⟩]) := fun w' hE => c2.out w' (HT1.out.ext hE)
  have E3 : CallE Tryd.prog W1 21 #[.agg #[.int .i64 4, .int .i64 c, .string ⟨#[]⟩]] (.agg #[.int .i64 4, .int .i64 c, .string ⟨#[]⟩]) := fun w' _ => c3.out w'
  clear hW1 hE1 hG1 hL1 hS1 hT1 ht
  go_enter Tryd.func5, Tryd.ntmps5
  go_wp2_with fail
  rw [HW1.out]
  clear HW1
  go_upto_region 5 with (first | ((with_reducible refine (CallE.at_ (by assumption) (by assumption)).mono ?_); rintro e w' ⟨rfl, hEx⟩))
  have hx := hEx
  have HX := Lib.hid hx
  have HG2 := Lib.hid (hx.blk HG1.out)
  have b1 := ext_blk HG2.out
  have l1 := ext_lt (blk_lt HG2.out)
  have e1 := E1.more hx
  have e2 := E2.more hx
  have e3 := E3.more hx
  clear f1 f2 f3 hx
  go_wp2_with fail
  refine region_own [3, 4, 5] (by intro d hd; simp only [List.mem_cons, List.not_mem_nil, or_false] at hd; rcases hd with rfl | rfl | rfl <;> rfl) (by kernel_rfl) (by kernel_rfl) rfl (fun K hK => ?_)
  repeat (first | (refine seqr_skip (by rfl) (fun ρ => by rfl) ?_; (try simp only [Act.put, List.setIfInBounds_toArray, List.set_cons_zero, List.set_cons_succ])) | (refine seqr_pure (v := ?_) (by rfl) (fun ρ => by rfl) (fun ρ w hE hF => ?_) ?_; rotate_left 1; (· ((try simp only [fill, Act.put, List.setIfInBounds_toArray, List.set_cons_zero, List.set_cons_succ]); go_simp; try with_reducible rfl)); (try simp only [Act.put, List.setIfInBounds_toArray, List.set_cons_zero, List.set_cons_succ])) | (refine seqr_call0 (v := ?_) (f := ?_) (args := ?_) (by rfl) (fun ρ => by rfl) (fun ρ w => ?_) (fun w hE => ?_) ?_; rotate_left 3; (· ((try simp only [fill, Act.put, List.setIfInBounds_toArray, List.set_cons_zero, List.set_cons_succ]); go_simp; constructor <;> with_reducible rfl)); (· (with_reducible exact CallE.call (by assumption) hE)); (try simp only [Act.put, List.setIfInBounds_toArray, List.set_cons_zero, List.set_cons_succ])))
  (refine seqr_own 28 (#[.int .i64 0, .int .i64 0, .string ⟨#[]⟩]) rfl (by decide) (by rfl) (fun ρ => by rfl) (fun ρ w hE hF => ?_) ?_; (· ((try simp only [fill, Act.put, List.setIfInBounds_toArray, List.set_cons_zero, List.set_cons_succ]); go_simp; try rfl)); (try simp only [Act.put, List.setIfInBounds_toArray, List.set_cons_zero, List.set_cons_succ]))
  (refine seqr_own 28 (#[.int .i64 0, .int .i64 0, .string ⟨#[]⟩]) rfl (by decide) (by rfl) (fun ρ => by rfl) (fun ρ w hE hF => ?_) ?_; (· ((try simp only [fill, Act.put, List.setIfInBounds_toArray, List.set_cons_zero, List.set_cons_succ]); go_simp; try rfl)); (try simp only [Act.put, List.setIfInBounds_toArray, List.set_cons_zero, List.set_cons_succ]))
  (refine seqr_own 28 (#[.int .i64 0, .int .i64 0, .string ⟨#[]⟩]) rfl (by decide) (by rfl) (fun ρ => by rfl) (fun ρ w hE hF => ?_) ?_; (· ((try simp only [fill, Act.put, List.setIfInBounds_toArray, List.set_cons_zero, List.set_cons_succ]); go_simp; try rfl)); (try simp only [Act.put, List.setIfInBounds_toArray, List.set_cons_zero, List.set_cons_succ]))
  refine seqr_tails (by kernel_rfl) (fun ρ wN hEN hFN hAN => ?_); (try simp only [fill, Act.put, List.setIfInBounds_toArray, List.set_cons_zero, List.set_cons_succ])
  obtain ⟨g3, hp3, hl3, hb3⟩ := hFN _ (.tail _ (.tail _ (.head _)))
  obtain ⟨g4, hp4, hl4, hb4⟩ := hFN _ (.tail _ (.head _))
  obtain ⟨g5, hp5, hl5, hb5⟩ := hFN _ (.head _)
  simp only at hp3 hp4 hp5
  have n34 : g3 ≠ g4 := apt_ne hAN (d := 3) (d' := 4) (by simp) (by simp) (by decide) hl3 hp3 hp4
  have n35 : g3 ≠ g5 := apt_ne hAN (d := 3) (d' := 5) (by simp) (by simp) (by decide) hl3 hp3 hp5
  have n45 : g4 ≠ g5 := apt_ne hAN (d := 4) (d' := 5) (by simp) (by simp) (by decide) hl4 hp4 hp5
  have n43 := n34.symm
  have n53 := n35.symm
  have n54 := n45.symm
  rw [hp3, hp4, hp5]
  clear hp3 hp4 hp5 hFN hAN e1 e2 e3 b1 l1
  go_wp2_with ((with_reducible refine wpl_guard (isStore 28) ?_ ?_); (· rfl); refine wpl_store (t := ?_) (old := ?_) (w' := ?_) rfl 28 _ _ rfl rfl rfl ?_ ?_ ?_ ?_ ?_ ?_; rotate_left 2; (· (first | (with_reducible assumption) | (simp (disch := (first | omega | (simp only [World.size_alloc, World.size_setCell, World.size_drew, size_setRow]; done) | (simp only [World.size_alloc, World.size_setCell, World.size_drew, size_setRow]; omega))) only [hq_at, hq_past, hq_drew, hq_drewN, hq_cell, hq_row, hq_same, rowOf_cells, Option.map_some, *]; rfl) | (simp (disch := (first | omega | (simp only [World.size_alloc, World.size_setCell, World.size_drew, size_setRow]; done) | (simp only [World.size_alloc, World.size_setCell, World.size_drew, size_setRow]; omega))) only [hq_at, hq_past, hq_drew, hq_drewN, hq_cell, hq_row, hq_same, rowOf_cells, Option.map_some, *]))); (· kernel_rfl); (· rfl); (· rfl); rotate_left 1; (· (first | (simp (disch := (first | omega | (simp only [World.size_alloc, World.size_setCell, World.size_drew, size_setRow]; done) | (simp only [World.size_alloc, World.size_setCell, World.size_drew, size_setRow]; omega))) only [setRow_at, setRow_past, setRow_drew]; rfl) | rfl)))
  refine (show K _ _ from hK.out _ _ ?_); clear hK K
  obtain ⟨V1, hV1, hE1, hG3⟩ := put_blk hEN hl3 hb3 #[.int .i64 4, .int .i64 c, .string ⟨#[]⟩]
  have h4 := put_off (cs := #[.int .i64 4, .int .i64 c, .string ⟨#[]⟩]) n43 hb4
  have h5 := put_off (cs := #[.int .i64 4, .int .i64 c, .string ⟨#[]⟩]) n53 hb5
  rw [hV1] at h4 h5 ⊢
  obtain ⟨V2, hV2, hE2, hG4⟩ := put_blk hE1 hl4 h4 #[.int .i64 4, .int .i64 c, .string ⟨#[]⟩]
  have h5' := put_off (cs := #[.int .i64 4, .int .i64 c, .string ⟨#[]⟩]) n54 h5
  have hG3' := put_off (cs := #[.int .i64 4, .int .i64 c, .string ⟨#[]⟩]) n34 hG3
  rw [hV2] at h5' hG3' ⊢
  obtain ⟨V3, hV3, hE3, hG5⟩ := put_blk hE2 hl5 h5' #[.int .i64 4, .int .i64 c, .string ⟨#[]⟩]
  have hG3'' := put_off (cs := #[.int .i64 4, .int .i64 c, .string ⟨#[]⟩]) n35 hG3'
  have hG4' := put_off (cs := #[.int .i64 4, .int .i64 c, .string ⟨#[]⟩]) n45 hG4
  rw [hV3] at hG3'' hG4' ⊢
  have b1 := ext_blk (hE3.blk HG2.out)
  have l1 := ext_lt (blk_lt (hE3.blk HG2.out))
  have b3 := ext_blk hG3''
  have l3 := ext_lt (blk_lt hG3'')
  have b4 := ext_blk hG4'
  have l4 := ext_lt (blk_lt hG4')
  have b5 := ext_blk hG5
  have l5 := ext_lt (blk_lt hG5)
  have hEx := Ext.refl V3
  have E13 := HX.out.trans hE3
  have HEF := Lib.hid (HE1.out.trans E13)
  have E13 := Lib.hid E13
  clear hV1 hV2 hV3 hE1 hE2 hE3 hG3 hG4 hG5 hG3' hG3'' hG4' h4 h5 h5' hb3 hb4 hb5 hl3 hl4 hl5 hEN n34 n35 n45 n43 n53 n54 E1 E2 E3 HX HG1 HG2
  have t1 : CallE Tryd.prog V3 22 #[.agg #[.int .i64 4, .int .i64 c, .string ⟨#[]⟩]] (.string sh) := fun w' hE => HSH.out w' (HT1.out.ext (E13.out.trans hE))
  have q1 := fun w => eql_value_self 4 c ⟨#[]⟩ w
  have q2 := fun w => eql_value_self 4 c ⟨#[]⟩ w
  have q3 := fun w => eql_value_self 4 c ⟨#[]⟩ w
  have q4 : (ByteArray.toList sh == ByteArray.toList sh) = true := by simp
  have hr := Ext.refl V3
  clear hEx
  have t2 : CallE Tryd.prog V3 10 #[.int .i64 c] (.string sh) := fun w' hE => by have := ename_any c w' (HT1.out.ext (E13.out.trans hE)); rw [hsh] at this; exact this
  go_wp2_with fail
  refine region_any (by kernel_rfl) (by kernel_rfl) rfl (fun K hK => ?_)
  repeat (first | (refine seqr_skip (by rfl) (fun ρ => by rfl) ?_; (try simp only [Act.put, List.setIfInBounds_toArray, List.set_cons_zero, List.set_cons_succ])) | (refine seqr_pure (v := ?_) (by rfl) (fun ρ => by rfl) (fun ρ w hE hF => ?_) ?_; rotate_left 1; (· ((try simp only [fill, Act.put, List.setIfInBounds_toArray, List.set_cons_zero, List.set_cons_succ]); go_simp; try with_reducible rfl)); (try simp only [Act.put, List.setIfInBounds_toArray, List.set_cons_zero, List.set_cons_succ])) | (refine seqr_call0 (v := ?_) (f := ?_) (args := ?_) (by rfl) (fun ρ => by rfl) (fun ρ w => ?_) (fun w hE => ?_) ?_; rotate_left 3; (· ((try simp only [fill, Act.put, List.setIfInBounds_toArray, List.set_cons_zero, List.set_cons_succ]); go_simp; constructor <;> with_reducible rfl)); (· (with_reducible exact CallE.call (by assumption) hE)); (try simp only [Act.put, List.setIfInBounds_toArray, List.set_cons_zero, List.set_cons_succ])))
  refine seqr_done (fun ρ wN hEN hFN => ?_); (try simp only [fill, Act.put, List.setIfInBounds_toArray, List.set_cons_zero, List.set_cons_succ]); refine (show K _ _ from hK.out _ _ ?_); clear hK K
  go_wp2_with fail
  go_ret
  exact ⟨rfl, HEF.out.trans hEN⟩
set_option maxHeartbeats 4000000 in
set_option maxRecDepth 100000 in
theorem walk_textT (m nk nn : Int) (ns : ByteArray) (ok : Bool) (w : World) (ht : Tab w) (hok : (RV.text tTRUE).ok) (hpp : (ok = true ∧ nk = 1 ∧ nn = m ∧ ns = ⟨#[]⟩) ∨ (ok = false ∧ m = 0 ∧ nk = 4 ∧ nn = 2 ∧ ns = ⟨#[]⟩) ∨ (ok = false ∧ m = 0 ∧ nk = 1 ∧ ns = ⟨#[]⟩)) (HP : Hid (∀ w, Calls Tryd.prog 24 #[.string ⟨#[84, 82, 85, 69]⟩] w fun e w' => e = .returned (.tuple #[.int .i64 m, .bool ok]) ∧ Ext w w')) (HN : Hid (∀ w, Calls Tryd.prog 19 #[.agg #[.int .i64 2, .int .i64 0, .string ⟨#[84, 82, 85, 69]⟩]] w fun e w' => e = .returned (.agg #[.int .i64 nk, .int .i64 nn, .string ns]) ∧ Ext w w')) :
    Calls Tryd.prog 5 #[.agg #[.int .i64 2, .int .i64 0, .string ⟨#[84, 82, 85, 69]⟩]] w fun e w' => e = .returned (.bool true) ∧ Ext w w' := by
  have HS : Hid (ByteArray.size ⟨#[84, 82, 85, 69]⟩ ≤ 64) := Lib.hid (hok)
  have HR : Hid (∀ w, Calls Tryd.prog 14 #[.agg #[.int .i64 2, .int .i64 0, .string ⟨#[84, 82, 85, 69]⟩]] w fun e w' => e = .returned (.bool true) ∧ Ext w w') := Lib.hid (fun w => right_v (.text tTRUE) w hok)
  have c1 : Hid (∀ w, Calls Tryd.prog 19 #[.agg #[.int .i64 2, .int .i64 0, .string ⟨#[84, 82, 85, 69]⟩]] w fun e w' => e = .returned (.agg #[.int .i64 nk, .int .i64 nn, .string ns]) ∧ Ext w w') := Lib.hid (fun w => HN.out w)
  have c2 : Hid (∀ w (ht : Tab w), Calls Tryd.prog 20 #[.agg #[.int .i64 2, .int .i64 0, .string ⟨#[84, 82, 85, 69]⟩]] w fun e w' => e = .returned (.agg #[.int .i64 2, .int .i64 0, .string ⟨#[84, 82, 85, 69]⟩]) ∧ Ext w w') := Lib.hid (fun w ht => by have := totext_v (.text tTRUE) w hok ht; rw [show_64 hok (show (2 : Int) ≠ 4 by decide)] at this; exact this)
  have c3 : Hid (∀ w, Calls Tryd.prog 21 #[.agg #[.int .i64 2, .int .i64 0, .string ⟨#[84, 82, 85, 69]⟩]] w fun e w' => e = .returned (.agg #[.int .i64 3, .int .i64 1, .string ⟨#[]⟩]) ∧ Ext w w') := Lib.hid (fun w => by have := tobool_v (.text tTRUE) w hok; rw [tobool_T] at this; exact this)
  have HSH : Hid (∀ w (ht : Tab w), Calls Tryd.prog 22 #[.agg #[.int .i64 2, .int .i64 0, .string ⟨#[84, 82, 85, 69]⟩]] w fun e w' => e = .returned (.string ⟨#[84, 82, 85, 69]⟩) ∧ Ext w w') := Lib.hid (fun w ht => show_v (.text tTRUE) w hok ht)
  obtain ⟨W1, hW1, hE1, hG1, hL1, hS1⟩ := new_blk w #[.int .i64 2, .int .i64 0, .string ⟨#[84, 82, 85, 69]⟩] 28
  have hT1 : Tab W1 := by rw [← hW1]; exact ht.alloc _
  have b1 := ext_blk hG1
  have l1 := ext_lt (blk_lt hG1)
  have HW1 := Lib.hid hW1
  have HE1 := Lib.hid hE1
  have HG1 := Lib.hid hG1
  have HT1 := Lib.hid hT1
  have HT := Lib.hid ht
  have f1 : CallE Tryd.prog W1 9 #[] (.bool true) := fun w' hE => fit_v w' (HT1.out.ext hE)
  have f2 : CallE Tryd.prog W1 12 #[.agg #[.int .i64 2, .int .i64 0, .string ⟨#[84, 82, 85, 69]⟩]] (.bool true) := fun w' hE => by
    have := light_any 2 0 ⟨#[84, 82, 85, 69]⟩ w' (by have := HS.out; omega)
    rwa [show decide ((ByteArray.size ⟨#[84, 82, 85, 69]⟩ : Int) ≤ 300) = true from decide_eq_true (by have := HS.out; omega)] at this
  have f3 : CallE Tryd.prog W1 14 #[.agg #[.int .i64 2, .int .i64 0, .string ⟨#[84, 82, 85, 69]⟩]] (.bool true) := fun w' hE => HR.out w'
  have hr1 := Ext.refl W1
  have E1 : CallE Tryd.prog W1 19 #[.agg #[.int .i64 2, .int .i64 0, .string ⟨#[84, 82, 85, 69]⟩]] (.agg #[.int .i64 nk, .int .i64 nn, .string ns]) := fun w' _ => c1.out w'
  have E2 : CallE Tryd.prog W1 20 #[.agg #[.int .i64 2, .int .i64 0, .string ⟨#[84, 82, 85, 69]⟩]] (.agg #[.int .i64 2, .int .i64 0, .string ⟨#[84, 82, 85, 69]⟩]) := fun w' hE => c2.out w' (HT1.out.ext hE)
  have E3 : CallE Tryd.prog W1 21 #[.agg #[.int .i64 2, .int .i64 0, .string ⟨#[84, 82, 85, 69]⟩]] (.agg #[.int .i64 3, .int .i64 1, .string ⟨#[]⟩]) := fun w' _ => c3.out w'
  clear hW1 hE1 hG1 hL1 hS1 hT1 ht
  go_enter Tryd.func5, Tryd.ntmps5
  go_wp2_with fail
  rw [HW1.out]
  clear HW1
  go_upto_region 5 with (first | ((with_reducible refine (CallE.at_ (by assumption) (by assumption)).mono ?_); rintro e w' ⟨rfl, hEx⟩))
  have hx := hEx
  have HX := Lib.hid hx
  have HG2 := Lib.hid (hx.blk HG1.out)
  have b1 := ext_blk HG2.out
  have l1 := ext_lt (blk_lt HG2.out)
  have e1 := E1.more hx
  have e2 := E2.more hx
  have e3 := E3.more hx
  clear f1 f2 f3 hx
  go_wp2_with fail
  refine region_own [3, 4, 5] (by intro d hd; simp only [List.mem_cons, List.not_mem_nil, or_false] at hd; rcases hd with rfl | rfl | rfl <;> rfl) (by kernel_rfl) (by kernel_rfl) rfl (fun K hK => ?_)
  repeat (first | (refine seqr_skip (by rfl) (fun ρ => by rfl) ?_; (try simp only [Act.put, List.setIfInBounds_toArray, List.set_cons_zero, List.set_cons_succ])) | (refine seqr_pure (v := ?_) (by rfl) (fun ρ => by rfl) (fun ρ w hE hF => ?_) ?_; rotate_left 1; (· ((try simp only [fill, Act.put, List.setIfInBounds_toArray, List.set_cons_zero, List.set_cons_succ]); go_simp; try with_reducible rfl)); (try simp only [Act.put, List.setIfInBounds_toArray, List.set_cons_zero, List.set_cons_succ])) | (refine seqr_call0 (v := ?_) (f := ?_) (args := ?_) (by rfl) (fun ρ => by rfl) (fun ρ w => ?_) (fun w hE => ?_) ?_; rotate_left 3; (· ((try simp only [fill, Act.put, List.setIfInBounds_toArray, List.set_cons_zero, List.set_cons_succ]); go_simp; constructor <;> with_reducible rfl)); (· (with_reducible exact CallE.call (by assumption) hE)); (try simp only [Act.put, List.setIfInBounds_toArray, List.set_cons_zero, List.set_cons_succ])))
  (refine seqr_own 28 (#[.int .i64 0, .int .i64 0, .string ⟨#[]⟩]) rfl (by decide) (by rfl) (fun ρ => by rfl) (fun ρ w hE hF => ?_) ?_; (· ((try simp only [fill, Act.put, List.setIfInBounds_toArray, List.set_cons_zero, List.set_cons_succ]); go_simp; try rfl)); (try simp only [Act.put, List.setIfInBounds_toArray, List.set_cons_zero, List.set_cons_succ]))
  (refine seqr_own 28 (#[.int .i64 0, .int .i64 0, .string ⟨#[]⟩]) rfl (by decide) (by rfl) (fun ρ => by rfl) (fun ρ w hE hF => ?_) ?_; (· ((try simp only [fill, Act.put, List.setIfInBounds_toArray, List.set_cons_zero, List.set_cons_succ]); go_simp; try rfl)); (try simp only [Act.put, List.setIfInBounds_toArray, List.set_cons_zero, List.set_cons_succ]))
  (refine seqr_own 28 (#[.int .i64 0, .int .i64 0, .string ⟨#[]⟩]) rfl (by decide) (by rfl) (fun ρ => by rfl) (fun ρ w hE hF => ?_) ?_; (· ((try simp only [fill, Act.put, List.setIfInBounds_toArray, List.set_cons_zero, List.set_cons_succ]); go_simp; try rfl)); (try simp only [Act.put, List.setIfInBounds_toArray, List.set_cons_zero, List.set_cons_succ]))
  refine seqr_tails (by kernel_rfl) (fun ρ wN hEN hFN hAN => ?_); (try simp only [fill, Act.put, List.setIfInBounds_toArray, List.set_cons_zero, List.set_cons_succ])
  obtain ⟨g3, hp3, hl3, hb3⟩ := hFN _ (.tail _ (.tail _ (.head _)))
  obtain ⟨g4, hp4, hl4, hb4⟩ := hFN _ (.tail _ (.head _))
  obtain ⟨g5, hp5, hl5, hb5⟩ := hFN _ (.head _)
  simp only at hp3 hp4 hp5
  have n34 : g3 ≠ g4 := apt_ne hAN (d := 3) (d' := 4) (by simp) (by simp) (by decide) hl3 hp3 hp4
  have n35 : g3 ≠ g5 := apt_ne hAN (d := 3) (d' := 5) (by simp) (by simp) (by decide) hl3 hp3 hp5
  have n45 : g4 ≠ g5 := apt_ne hAN (d := 4) (d' := 5) (by simp) (by simp) (by decide) hl4 hp4 hp5
  have n43 := n34.symm
  have n53 := n35.symm
  have n54 := n45.symm
  rw [hp3, hp4, hp5]
  clear hp3 hp4 hp5 hFN hAN e1 e2 e3 b1 l1
  go_wp2_with ((with_reducible refine wpl_guard (isStore 28) ?_ ?_); (· rfl); refine wpl_store (t := ?_) (old := ?_) (w' := ?_) rfl 28 _ _ rfl rfl rfl ?_ ?_ ?_ ?_ ?_ ?_; rotate_left 2; (· (first | (with_reducible assumption) | (simp (disch := (first | omega | (simp only [World.size_alloc, World.size_setCell, World.size_drew, size_setRow]; done) | (simp only [World.size_alloc, World.size_setCell, World.size_drew, size_setRow]; omega))) only [hq_at, hq_past, hq_drew, hq_drewN, hq_cell, hq_row, hq_same, rowOf_cells, Option.map_some, *]; rfl) | (simp (disch := (first | omega | (simp only [World.size_alloc, World.size_setCell, World.size_drew, size_setRow]; done) | (simp only [World.size_alloc, World.size_setCell, World.size_drew, size_setRow]; omega))) only [hq_at, hq_past, hq_drew, hq_drewN, hq_cell, hq_row, hq_same, rowOf_cells, Option.map_some, *]))); (· kernel_rfl); (· rfl); (· rfl); rotate_left 1; (· (first | (simp (disch := (first | omega | (simp only [World.size_alloc, World.size_setCell, World.size_drew, size_setRow]; done) | (simp only [World.size_alloc, World.size_setCell, World.size_drew, size_setRow]; omega))) only [setRow_at, setRow_past, setRow_drew]; rfl) | rfl)))
  refine (show K _ _ from hK.out _ _ ?_); clear hK K
  obtain ⟨V1, hV1, hE1, hG3⟩ := put_blk hEN hl3 hb3 #[.int .i64 nk, .int .i64 nn, .string ns]
  have h4 := put_off (cs := #[.int .i64 nk, .int .i64 nn, .string ns]) n43 hb4
  have h5 := put_off (cs := #[.int .i64 nk, .int .i64 nn, .string ns]) n53 hb5
  rw [hV1] at h4 h5 ⊢
  obtain ⟨V2, hV2, hE2, hG4⟩ := put_blk hE1 hl4 h4 #[.int .i64 2, .int .i64 0, .string ⟨#[84, 82, 85, 69]⟩]
  have h5' := put_off (cs := #[.int .i64 2, .int .i64 0, .string ⟨#[84, 82, 85, 69]⟩]) n54 h5
  have hG3' := put_off (cs := #[.int .i64 2, .int .i64 0, .string ⟨#[84, 82, 85, 69]⟩]) n34 hG3
  rw [hV2] at h5' hG3' ⊢
  obtain ⟨V3, hV3, hE3, hG5⟩ := put_blk hE2 hl5 h5' #[.int .i64 3, .int .i64 1, .string ⟨#[]⟩]
  have hG3'' := put_off (cs := #[.int .i64 3, .int .i64 1, .string ⟨#[]⟩]) n35 hG3'
  have hG4' := put_off (cs := #[.int .i64 3, .int .i64 1, .string ⟨#[]⟩]) n45 hG4
  rw [hV3] at hG3'' hG4' ⊢
  have b1 := ext_blk (hE3.blk HG2.out)
  have l1 := ext_lt (blk_lt (hE3.blk HG2.out))
  have b3 := ext_blk hG3''
  have l3 := ext_lt (blk_lt hG3'')
  have b4 := ext_blk hG4'
  have l4 := ext_lt (blk_lt hG4')
  have b5 := ext_blk hG5
  have l5 := ext_lt (blk_lt hG5)
  have hEx := Ext.refl V3
  have E13 := HX.out.trans hE3
  have HEF := Lib.hid (HE1.out.trans E13)
  have E13 := Lib.hid E13
  clear hV1 hV2 hV3 hE1 hE2 hE3 hG3 hG4 hG5 hG3' hG3'' hG4' h4 h5 h5' hb3 hb4 hb5 hl3 hl4 hl5 hEN n34 n35 n45 n43 n53 n54 E1 E2 E3 HX HG1 HG2
  have t1 : CallE Tryd.prog V3 22 #[.agg #[.int .i64 2, .int .i64 0, .string ⟨#[84, 82, 85, 69]⟩]] (.string ⟨#[84, 82, 85, 69]⟩) := fun w' hE => HSH.out w' (HT1.out.ext (E13.out.trans hE))
  have q1 := fun w => eql_value_self nk nn ns w
  have q2 := fun w => eql_value_self 2 0 ⟨#[84, 82, 85, 69]⟩ w
  have q3 := fun w => eql_value_self 3 1 ⟨#[]⟩ w
  have q4 : (ByteArray.toList ⟨#[84, 82, 85, 69]⟩ == ByteArray.toList ⟨#[84, 82, 85, 69]⟩) = true := by simp
  have hr := Ext.refl V3
  clear hEx
  have t2 : CallE Tryd.prog V3 24 #[.string ⟨#[84, 82, 85, 69]⟩] (.tuple #[.int .i64 m, .bool ok]) := fun w' _ => HP.out w'
  have t3 : CallE Tryd.prog V3 15 #[.int .i64 m] (.agg #[.int .i64 1, .int .i64 m, .string ⟨#[]⟩]) := fun w' _ => num_v m w'
  have t4 : CallE Tryd.prog V3 17 #[.int .i64 2] (.agg #[.int .i64 4, .int .i64 2, .string ⟨#[]⟩]) := fun w' _ => fail_v 2 w'
  have fd1 := eql_value_self
  go_upto_region 8 with (fail)
  go_wp2_with fail
  refine region_any (by kernel_rfl) (by kernel_rfl) rfl (fun K hK => ?_)
  repeat (first | (refine seqr_skip (by rfl) (fun ρ => by rfl) ?_; (try simp only [Act.put, List.setIfInBounds_toArray, List.set_cons_zero, List.set_cons_succ])) | (refine seqr_pure (v := ?_) (by rfl) (fun ρ => by rfl) (fun ρ w hE hF => ?_) ?_; rotate_left 1; (· ((try simp only [fill, Act.put, List.setIfInBounds_toArray, List.set_cons_zero, List.set_cons_succ]); go_simp; try with_reducible rfl)); (try simp only [Act.put, List.setIfInBounds_toArray, List.set_cons_zero, List.set_cons_succ])) | (refine seqr_call0 (v := ?_) (f := ?_) (args := ?_) (by rfl) (fun ρ => by rfl) (fun ρ w => ?_) (fun w hE => ?_) ?_; rotate_left 3; (· ((try simp only [fill, Act.put, List.setIfInBounds_toArray, List.set_cons_zero, List.set_cons_succ]); go_simp; constructor <;> with_reducible rfl)); (· (with_reducible exact CallE.call (by assumption) hE)); (try simp only [Act.put, List.setIfInBounds_toArray, List.set_cons_zero, List.set_cons_succ])))
  refine seqr_done (fun ρ wN hEN hFN => ?_); (try simp only [fill, Act.put, List.setIfInBounds_toArray, List.set_cons_zero, List.set_cons_succ]); refine (show K _ _ from hK.out _ _ ?_); clear hK K
  have HEG := Lib.hid (HEF.out.trans hEN)
  replace b1 := fun w (h : Ext wN w) => b1 w (Ext.trans hEN h)
  replace b3 := fun w (h : Ext wN w) => b3 w (Ext.trans hEN h)
  replace b4 := fun w (h : Ext wN w) => b4 w (Ext.trans hEN h)
  replace b5 := fun w (h : Ext wN w) => b5 w (Ext.trans hEN h)
  replace l1 := fun w (h : Ext wN w) => l1 w (Ext.trans hEN h)
  replace l3 := fun w (h : Ext wN w) => l3 w (Ext.trans hEN h)
  replace l4 := fun w (h : Ext wN w) => l4 w (Ext.trans hEN h)
  replace l5 := fun w (h : Ext wN w) => l5 w (Ext.trans hEN h)
  replace t1 := CallE.more t1 hEN
  replace t2 := CallE.more t2 hEN
  replace t3 := CallE.more t3 hEN
  replace t4 := CallE.more t4 hEN
  clear hr
  have hr := Ext.refl wN
  go_upto_region 18 with (first | ((with_reducible refine (CallE.at_ (by assumption) (by assumption)).mono ?_); rintro e w' ⟨rfl, hEx⟩))
  have HEH := Lib.hid (HEG.out.trans hEx)
  replace b1 := fun w (h : Ext w' w) => b1 w (Ext.trans hEx h)
  replace b3 := fun w (h : Ext w' w) => b3 w (Ext.trans hEx h)
  replace b4 := fun w (h : Ext w' w) => b4 w (Ext.trans hEx h)
  replace b5 := fun w (h : Ext w' w) => b5 w (Ext.trans hEx h)
  replace l1 := fun w (h : Ext w' w) => l1 w (Ext.trans hEx h)
  replace l3 := fun w (h : Ext w' w) => l3 w (Ext.trans hEx h)
  replace l4 := fun w (h : Ext w' w) => l4 w (Ext.trans hEx h)
  replace l5 := fun w (h : Ext w' w) => l5 w (Ext.trans hEx h)
  replace t1 := CallE.more t1 hEx
  replace t2 := CallE.more t2 hEx
  replace t3 := CallE.more t3 hEx
  replace t4 := CallE.more t4 hEx
  clear hr
  have hr := Ext.refl w'
  rcases hpp with ⟨rfl, rfl, rfl, rfl⟩ | ⟨rfl, rfl, rfl, rfl, rfl⟩ | ⟨rfl, rfl, rfl, rfl⟩
  all_goals
    go_wp2_with fail
    refine region_any (by kernel_rfl) (by kernel_rfl) rfl (fun K hK => ?_)
    repeat (first | (refine seqr_skip (by rfl) (fun ρ => by rfl) ?_; (try simp only [Act.put, List.setIfInBounds_toArray, List.set_cons_zero, List.set_cons_succ])) | (refine seqr_pure (v := ?_) (by rfl) (fun ρ => by rfl) (fun ρ w hE hF => ?_) ?_; rotate_left 1; (· ((try simp only [fill, Act.put, List.setIfInBounds_toArray, List.set_cons_zero, List.set_cons_succ]); go_simp; try with_reducible rfl)); (try simp only [Act.put, List.setIfInBounds_toArray, List.set_cons_zero, List.set_cons_succ])) | (refine seqr_call0 (v := ?_) (f := ?_) (args := ?_) (by rfl) (fun ρ => by rfl) (fun ρ w => ?_) (fun w hE => ?_) ?_; rotate_left 3; (· ((try simp only [fill, Act.put, List.setIfInBounds_toArray, List.set_cons_zero, List.set_cons_succ]); go_simp; constructor <;> with_reducible rfl)); (· (with_reducible exact CallE.call (by assumption) hE)); (try simp only [Act.put, List.setIfInBounds_toArray, List.set_cons_zero, List.set_cons_succ])))
    refine seqr_done (fun ρ wN hEN hFN => ?_); (try simp only [fill, Act.put, List.setIfInBounds_toArray, List.set_cons_zero, List.set_cons_succ]); refine (show K _ _ from hK.out _ _ ?_); clear hK K
    go_wp2_with fail
    go_ret
    exact ⟨rfl, HEH.out.trans hEN⟩
set_option maxHeartbeats 4000000 in
set_option maxRecDepth 100000 in
theorem walk_textF (m nk nn : Int) (ns : ByteArray) (ok : Bool) (w : World) (ht : Tab w) (hok : (RV.text tFALSE).ok) (hpp : (ok = true ∧ nk = 1 ∧ nn = m ∧ ns = ⟨#[]⟩) ∨ (ok = false ∧ m = 0 ∧ nk = 4 ∧ nn = 2 ∧ ns = ⟨#[]⟩) ∨ (ok = false ∧ m = 0 ∧ nk = 1 ∧ ns = ⟨#[]⟩)) (HP : Hid (∀ w, Calls Tryd.prog 24 #[.string ⟨#[70, 65, 76, 83, 69]⟩] w fun e w' => e = .returned (.tuple #[.int .i64 m, .bool ok]) ∧ Ext w w')) (HN : Hid (∀ w, Calls Tryd.prog 19 #[.agg #[.int .i64 2, .int .i64 0, .string ⟨#[70, 65, 76, 83, 69]⟩]] w fun e w' => e = .returned (.agg #[.int .i64 nk, .int .i64 nn, .string ns]) ∧ Ext w w')) :
    Calls Tryd.prog 5 #[.agg #[.int .i64 2, .int .i64 0, .string ⟨#[70, 65, 76, 83, 69]⟩]] w fun e w' => e = .returned (.bool true) ∧ Ext w w' := by
  have HS : Hid (ByteArray.size ⟨#[70, 65, 76, 83, 69]⟩ ≤ 64) := Lib.hid (hok)
  have HR : Hid (∀ w, Calls Tryd.prog 14 #[.agg #[.int .i64 2, .int .i64 0, .string ⟨#[70, 65, 76, 83, 69]⟩]] w fun e w' => e = .returned (.bool true) ∧ Ext w w') := Lib.hid (fun w => right_v (.text tFALSE) w hok)
  have c1 : Hid (∀ w, Calls Tryd.prog 19 #[.agg #[.int .i64 2, .int .i64 0, .string ⟨#[70, 65, 76, 83, 69]⟩]] w fun e w' => e = .returned (.agg #[.int .i64 nk, .int .i64 nn, .string ns]) ∧ Ext w w') := Lib.hid (fun w => HN.out w)
  have c2 : Hid (∀ w (ht : Tab w), Calls Tryd.prog 20 #[.agg #[.int .i64 2, .int .i64 0, .string ⟨#[70, 65, 76, 83, 69]⟩]] w fun e w' => e = .returned (.agg #[.int .i64 2, .int .i64 0, .string ⟨#[70, 65, 76, 83, 69]⟩]) ∧ Ext w w') := Lib.hid (fun w ht => by have := totext_v (.text tFALSE) w hok ht; rw [show_64 hok (show (2 : Int) ≠ 4 by decide)] at this; exact this)
  have c3 : Hid (∀ w, Calls Tryd.prog 21 #[.agg #[.int .i64 2, .int .i64 0, .string ⟨#[70, 65, 76, 83, 69]⟩]] w fun e w' => e = .returned (.agg #[.int .i64 3, .int .i64 0, .string ⟨#[]⟩]) ∧ Ext w w') := Lib.hid (fun w => by have := tobool_v (.text tFALSE) w hok; rw [tobool_F] at this; exact this)
  have HSH : Hid (∀ w (ht : Tab w), Calls Tryd.prog 22 #[.agg #[.int .i64 2, .int .i64 0, .string ⟨#[70, 65, 76, 83, 69]⟩]] w fun e w' => e = .returned (.string ⟨#[70, 65, 76, 83, 69]⟩) ∧ Ext w w') := Lib.hid (fun w ht => show_v (.text tFALSE) w hok ht)
  obtain ⟨W1, hW1, hE1, hG1, hL1, hS1⟩ := new_blk w #[.int .i64 2, .int .i64 0, .string ⟨#[70, 65, 76, 83, 69]⟩] 28
  have hT1 : Tab W1 := by rw [← hW1]; exact ht.alloc _
  have b1 := ext_blk hG1
  have l1 := ext_lt (blk_lt hG1)
  have HW1 := Lib.hid hW1
  have HE1 := Lib.hid hE1
  have HG1 := Lib.hid hG1
  have HT1 := Lib.hid hT1
  have HT := Lib.hid ht
  have f1 : CallE Tryd.prog W1 9 #[] (.bool true) := fun w' hE => fit_v w' (HT1.out.ext hE)
  have f2 : CallE Tryd.prog W1 12 #[.agg #[.int .i64 2, .int .i64 0, .string ⟨#[70, 65, 76, 83, 69]⟩]] (.bool true) := fun w' hE => by
    have := light_any 2 0 ⟨#[70, 65, 76, 83, 69]⟩ w' (by have := HS.out; omega)
    rwa [show decide ((ByteArray.size ⟨#[70, 65, 76, 83, 69]⟩ : Int) ≤ 300) = true from decide_eq_true (by have := HS.out; omega)] at this
  have f3 : CallE Tryd.prog W1 14 #[.agg #[.int .i64 2, .int .i64 0, .string ⟨#[70, 65, 76, 83, 69]⟩]] (.bool true) := fun w' hE => HR.out w'
  have hr1 := Ext.refl W1
  have E1 : CallE Tryd.prog W1 19 #[.agg #[.int .i64 2, .int .i64 0, .string ⟨#[70, 65, 76, 83, 69]⟩]] (.agg #[.int .i64 nk, .int .i64 nn, .string ns]) := fun w' _ => c1.out w'
  have E2 : CallE Tryd.prog W1 20 #[.agg #[.int .i64 2, .int .i64 0, .string ⟨#[70, 65, 76, 83, 69]⟩]] (.agg #[.int .i64 2, .int .i64 0, .string ⟨#[70, 65, 76, 83, 69]⟩]) := fun w' hE => c2.out w' (HT1.out.ext hE)
  have E3 : CallE Tryd.prog W1 21 #[.agg #[.int .i64 2, .int .i64 0, .string ⟨#[70, 65, 76, 83, 69]⟩]] (.agg #[.int .i64 3, .int .i64 0, .string ⟨#[]⟩]) := fun w' _ => c3.out w'
  clear hW1 hE1 hG1 hL1 hS1 hT1 ht
  go_enter Tryd.func5, Tryd.ntmps5
  go_wp2_with fail
  rw [HW1.out]
  clear HW1
  go_upto_region 5 with (first | ((with_reducible refine (CallE.at_ (by assumption) (by assumption)).mono ?_); rintro e w' ⟨rfl, hEx⟩))
  have hx := hEx
  have HX := Lib.hid hx
  have HG2 := Lib.hid (hx.blk HG1.out)
  have b1 := ext_blk HG2.out
  have l1 := ext_lt (blk_lt HG2.out)
  have e1 := E1.more hx
  have e2 := E2.more hx
  have e3 := E3.more hx
  clear f1 f2 f3 hx
  go_wp2_with fail
  refine region_own [3, 4, 5] (by intro d hd; simp only [List.mem_cons, List.not_mem_nil, or_false] at hd; rcases hd with rfl | rfl | rfl <;> rfl) (by kernel_rfl) (by kernel_rfl) rfl (fun K hK => ?_)
  repeat (first | (refine seqr_skip (by rfl) (fun ρ => by rfl) ?_; (try simp only [Act.put, List.setIfInBounds_toArray, List.set_cons_zero, List.set_cons_succ])) | (refine seqr_pure (v := ?_) (by rfl) (fun ρ => by rfl) (fun ρ w hE hF => ?_) ?_; rotate_left 1; (· ((try simp only [fill, Act.put, List.setIfInBounds_toArray, List.set_cons_zero, List.set_cons_succ]); go_simp; try with_reducible rfl)); (try simp only [Act.put, List.setIfInBounds_toArray, List.set_cons_zero, List.set_cons_succ])) | (refine seqr_call0 (v := ?_) (f := ?_) (args := ?_) (by rfl) (fun ρ => by rfl) (fun ρ w => ?_) (fun w hE => ?_) ?_; rotate_left 3; (· ((try simp only [fill, Act.put, List.setIfInBounds_toArray, List.set_cons_zero, List.set_cons_succ]); go_simp; constructor <;> with_reducible rfl)); (· (with_reducible exact CallE.call (by assumption) hE)); (try simp only [Act.put, List.setIfInBounds_toArray, List.set_cons_zero, List.set_cons_succ])))
  (refine seqr_own 28 (#[.int .i64 0, .int .i64 0, .string ⟨#[]⟩]) rfl (by decide) (by rfl) (fun ρ => by rfl) (fun ρ w hE hF => ?_) ?_; (· ((try simp only [fill, Act.put, List.setIfInBounds_toArray, List.set_cons_zero, List.set_cons_succ]); go_simp; try rfl)); (try simp only [Act.put, List.setIfInBounds_toArray, List.set_cons_zero, List.set_cons_succ]))
  (refine seqr_own 28 (#[.int .i64 0, .int .i64 0, .string ⟨#[]⟩]) rfl (by decide) (by rfl) (fun ρ => by rfl) (fun ρ w hE hF => ?_) ?_; (· ((try simp only [fill, Act.put, List.setIfInBounds_toArray, List.set_cons_zero, List.set_cons_succ]); go_simp; try rfl)); (try simp only [Act.put, List.setIfInBounds_toArray, List.set_cons_zero, List.set_cons_succ]))
  (refine seqr_own 28 (#[.int .i64 0, .int .i64 0, .string ⟨#[]⟩]) rfl (by decide) (by rfl) (fun ρ => by rfl) (fun ρ w hE hF => ?_) ?_; (· ((try simp only [fill, Act.put, List.setIfInBounds_toArray, List.set_cons_zero, List.set_cons_succ]); go_simp; try rfl)); (try simp only [Act.put, List.setIfInBounds_toArray, List.set_cons_zero, List.set_cons_succ]))
  refine seqr_tails (by kernel_rfl) (fun ρ wN hEN hFN hAN => ?_); (try simp only [fill, Act.put, List.setIfInBounds_toArray, List.set_cons_zero, List.set_cons_succ])
  obtain ⟨g3, hp3, hl3, hb3⟩ := hFN _ (.tail _ (.tail _ (.head _)))
  obtain ⟨g4, hp4, hl4, hb4⟩ := hFN _ (.tail _ (.head _))
  obtain ⟨g5, hp5, hl5, hb5⟩ := hFN _ (.head _)
  simp only at hp3 hp4 hp5
  have n34 : g3 ≠ g4 := apt_ne hAN (d := 3) (d' := 4) (by simp) (by simp) (by decide) hl3 hp3 hp4
  have n35 : g3 ≠ g5 := apt_ne hAN (d := 3) (d' := 5) (by simp) (by simp) (by decide) hl3 hp3 hp5
  have n45 : g4 ≠ g5 := apt_ne hAN (d := 4) (d' := 5) (by simp) (by simp) (by decide) hl4 hp4 hp5
  have n43 := n34.symm
  have n53 := n35.symm
  have n54 := n45.symm
  rw [hp3, hp4, hp5]
  clear hp3 hp4 hp5 hFN hAN e1 e2 e3 b1 l1
  go_wp2_with ((with_reducible refine wpl_guard (isStore 28) ?_ ?_); (· rfl); refine wpl_store (t := ?_) (old := ?_) (w' := ?_) rfl 28 _ _ rfl rfl rfl ?_ ?_ ?_ ?_ ?_ ?_; rotate_left 2; (· (first | (with_reducible assumption) | (simp (disch := (first | omega | (simp only [World.size_alloc, World.size_setCell, World.size_drew, size_setRow]; done) | (simp only [World.size_alloc, World.size_setCell, World.size_drew, size_setRow]; omega))) only [hq_at, hq_past, hq_drew, hq_drewN, hq_cell, hq_row, hq_same, rowOf_cells, Option.map_some, *]; rfl) | (simp (disch := (first | omega | (simp only [World.size_alloc, World.size_setCell, World.size_drew, size_setRow]; done) | (simp only [World.size_alloc, World.size_setCell, World.size_drew, size_setRow]; omega))) only [hq_at, hq_past, hq_drew, hq_drewN, hq_cell, hq_row, hq_same, rowOf_cells, Option.map_some, *]))); (· kernel_rfl); (· rfl); (· rfl); rotate_left 1; (· (first | (simp (disch := (first | omega | (simp only [World.size_alloc, World.size_setCell, World.size_drew, size_setRow]; done) | (simp only [World.size_alloc, World.size_setCell, World.size_drew, size_setRow]; omega))) only [setRow_at, setRow_past, setRow_drew]; rfl) | rfl)))
  refine (show K _ _ from hK.out _ _ ?_); clear hK K
  obtain ⟨V1, hV1, hE1, hG3⟩ := put_blk hEN hl3 hb3 #[.int .i64 nk, .int .i64 nn, .string ns]
  have h4 := put_off (cs := #[.int .i64 nk, .int .i64 nn, .string ns]) n43 hb4
  have h5 := put_off (cs := #[.int .i64 nk, .int .i64 nn, .string ns]) n53 hb5
  rw [hV1] at h4 h5 ⊢
  obtain ⟨V2, hV2, hE2, hG4⟩ := put_blk hE1 hl4 h4 #[.int .i64 2, .int .i64 0, .string ⟨#[70, 65, 76, 83, 69]⟩]
  have h5' := put_off (cs := #[.int .i64 2, .int .i64 0, .string ⟨#[70, 65, 76, 83, 69]⟩]) n54 h5
  have hG3' := put_off (cs := #[.int .i64 2, .int .i64 0, .string ⟨#[70, 65, 76, 83, 69]⟩]) n34 hG3
  rw [hV2] at h5' hG3' ⊢
  obtain ⟨V3, hV3, hE3, hG5⟩ := put_blk hE2 hl5 h5' #[.int .i64 3, .int .i64 0, .string ⟨#[]⟩]
  have hG3'' := put_off (cs := #[.int .i64 3, .int .i64 0, .string ⟨#[]⟩]) n35 hG3'
  have hG4' := put_off (cs := #[.int .i64 3, .int .i64 0, .string ⟨#[]⟩]) n45 hG4
  rw [hV3] at hG3'' hG4' ⊢
  have b1 := ext_blk (hE3.blk HG2.out)
  have l1 := ext_lt (blk_lt (hE3.blk HG2.out))
  have b3 := ext_blk hG3''
  have l3 := ext_lt (blk_lt hG3'')
  have b4 := ext_blk hG4'
  have l4 := ext_lt (blk_lt hG4')
  have b5 := ext_blk hG5
  have l5 := ext_lt (blk_lt hG5)
  have hEx := Ext.refl V3
  have E13 := HX.out.trans hE3
  have HEF := Lib.hid (HE1.out.trans E13)
  have E13 := Lib.hid E13
  clear hV1 hV2 hV3 hE1 hE2 hE3 hG3 hG4 hG5 hG3' hG3'' hG4' h4 h5 h5' hb3 hb4 hb5 hl3 hl4 hl5 hEN n34 n35 n45 n43 n53 n54 E1 E2 E3 HX HG1 HG2
  have t1 : CallE Tryd.prog V3 22 #[.agg #[.int .i64 2, .int .i64 0, .string ⟨#[70, 65, 76, 83, 69]⟩]] (.string ⟨#[70, 65, 76, 83, 69]⟩) := fun w' hE => HSH.out w' (HT1.out.ext (E13.out.trans hE))
  have q1 := fun w => eql_value_self nk nn ns w
  have q2 := fun w => eql_value_self 2 0 ⟨#[70, 65, 76, 83, 69]⟩ w
  have q3 := fun w => eql_value_self 3 0 ⟨#[]⟩ w
  have q4 : (ByteArray.toList ⟨#[70, 65, 76, 83, 69]⟩ == ByteArray.toList ⟨#[70, 65, 76, 83, 69]⟩) = true := by simp
  have hr := Ext.refl V3
  clear hEx
  have t2 : CallE Tryd.prog V3 24 #[.string ⟨#[70, 65, 76, 83, 69]⟩] (.tuple #[.int .i64 m, .bool ok]) := fun w' _ => HP.out w'
  have t3 : CallE Tryd.prog V3 15 #[.int .i64 m] (.agg #[.int .i64 1, .int .i64 m, .string ⟨#[]⟩]) := fun w' _ => num_v m w'
  have t4 : CallE Tryd.prog V3 17 #[.int .i64 2] (.agg #[.int .i64 4, .int .i64 2, .string ⟨#[]⟩]) := fun w' _ => fail_v 2 w'
  have fd1 := eql_value_self
  go_upto_region 8 with (fail)
  go_wp2_with fail
  refine region_any (by kernel_rfl) (by kernel_rfl) rfl (fun K hK => ?_)
  repeat (first | (refine seqr_skip (by rfl) (fun ρ => by rfl) ?_; (try simp only [Act.put, List.setIfInBounds_toArray, List.set_cons_zero, List.set_cons_succ])) | (refine seqr_pure (v := ?_) (by rfl) (fun ρ => by rfl) (fun ρ w hE hF => ?_) ?_; rotate_left 1; (· ((try simp only [fill, Act.put, List.setIfInBounds_toArray, List.set_cons_zero, List.set_cons_succ]); go_simp; try with_reducible rfl)); (try simp only [Act.put, List.setIfInBounds_toArray, List.set_cons_zero, List.set_cons_succ])) | (refine seqr_call0 (v := ?_) (f := ?_) (args := ?_) (by rfl) (fun ρ => by rfl) (fun ρ w => ?_) (fun w hE => ?_) ?_; rotate_left 3; (· ((try simp only [fill, Act.put, List.setIfInBounds_toArray, List.set_cons_zero, List.set_cons_succ]); go_simp; constructor <;> with_reducible rfl)); (· (with_reducible exact CallE.call (by assumption) hE)); (try simp only [Act.put, List.setIfInBounds_toArray, List.set_cons_zero, List.set_cons_succ])))
  refine seqr_done (fun ρ wN hEN hFN => ?_); (try simp only [fill, Act.put, List.setIfInBounds_toArray, List.set_cons_zero, List.set_cons_succ]); refine (show K _ _ from hK.out _ _ ?_); clear hK K
  have HEG := Lib.hid (HEF.out.trans hEN)
  replace b1 := fun w (h : Ext wN w) => b1 w (Ext.trans hEN h)
  replace b3 := fun w (h : Ext wN w) => b3 w (Ext.trans hEN h)
  replace b4 := fun w (h : Ext wN w) => b4 w (Ext.trans hEN h)
  replace b5 := fun w (h : Ext wN w) => b5 w (Ext.trans hEN h)
  replace l1 := fun w (h : Ext wN w) => l1 w (Ext.trans hEN h)
  replace l3 := fun w (h : Ext wN w) => l3 w (Ext.trans hEN h)
  replace l4 := fun w (h : Ext wN w) => l4 w (Ext.trans hEN h)
  replace l5 := fun w (h : Ext wN w) => l5 w (Ext.trans hEN h)
  replace t1 := CallE.more t1 hEN
  replace t2 := CallE.more t2 hEN
  replace t3 := CallE.more t3 hEN
  replace t4 := CallE.more t4 hEN
  clear hr
  have hr := Ext.refl wN
  go_upto_region 18 with (first | ((with_reducible refine (CallE.at_ (by assumption) (by assumption)).mono ?_); rintro e w' ⟨rfl, hEx⟩))
  have HEH := Lib.hid (HEG.out.trans hEx)
  replace b1 := fun w (h : Ext w' w) => b1 w (Ext.trans hEx h)
  replace b3 := fun w (h : Ext w' w) => b3 w (Ext.trans hEx h)
  replace b4 := fun w (h : Ext w' w) => b4 w (Ext.trans hEx h)
  replace b5 := fun w (h : Ext w' w) => b5 w (Ext.trans hEx h)
  replace l1 := fun w (h : Ext w' w) => l1 w (Ext.trans hEx h)
  replace l3 := fun w (h : Ext w' w) => l3 w (Ext.trans hEx h)
  replace l4 := fun w (h : Ext w' w) => l4 w (Ext.trans hEx h)
  replace l5 := fun w (h : Ext w' w) => l5 w (Ext.trans hEx h)
  replace t1 := CallE.more t1 hEx
  replace t2 := CallE.more t2 hEx
  replace t3 := CallE.more t3 hEx
  replace t4 := CallE.more t4 hEx
  clear hr
  have hr := Ext.refl w'
  rcases hpp with ⟨rfl, rfl, rfl, rfl⟩ | ⟨rfl, rfl, rfl, rfl, rfl⟩ | ⟨rfl, rfl, rfl, rfl⟩
  all_goals
    go_wp2_with fail
    refine region_any (by kernel_rfl) (by kernel_rfl) rfl (fun K hK => ?_)
    repeat (first | (refine seqr_skip (by rfl) (fun ρ => by rfl) ?_; (try simp only [Act.put, List.setIfInBounds_toArray, List.set_cons_zero, List.set_cons_succ])) | (refine seqr_pure (v := ?_) (by rfl) (fun ρ => by rfl) (fun ρ w hE hF => ?_) ?_; rotate_left 1; (· ((try simp only [fill, Act.put, List.setIfInBounds_toArray, List.set_cons_zero, List.set_cons_succ]); go_simp; try with_reducible rfl)); (try simp only [Act.put, List.setIfInBounds_toArray, List.set_cons_zero, List.set_cons_succ])) | (refine seqr_call0 (v := ?_) (f := ?_) (args := ?_) (by rfl) (fun ρ => by rfl) (fun ρ w => ?_) (fun w hE => ?_) ?_; rotate_left 3; (· ((try simp only [fill, Act.put, List.setIfInBounds_toArray, List.set_cons_zero, List.set_cons_succ]); go_simp; constructor <;> with_reducible rfl)); (· (with_reducible exact CallE.call (by assumption) hE)); (try simp only [Act.put, List.setIfInBounds_toArray, List.set_cons_zero, List.set_cons_succ])))
    refine seqr_done (fun ρ wN hEN hFN => ?_); (try simp only [fill, Act.put, List.setIfInBounds_toArray, List.set_cons_zero, List.set_cons_succ]); refine (show K _ _ from hK.out _ _ ?_); clear hK K
    go_wp2_with fail
    go_ret
    exact ⟨rfl, HEH.out.trans hEN⟩
set_option maxHeartbeats 4000000 in
set_option maxRecDepth 100000 in
theorem walk_textO (s : ByteArray) (m nk nn : Int) (ns : ByteArray) (ok : Bool) (w : World) (ht : Tab w) (hok : (RV.text s).ok) (h1 : s ≠ tTRUE) (h2 : s ≠ tFALSE) (hpp : (ok = true ∧ nk = 1 ∧ nn = m ∧ ns = ⟨#[]⟩) ∨ (ok = false ∧ m = 0 ∧ nk = 4 ∧ nn = 2 ∧ ns = ⟨#[]⟩) ∨ (ok = false ∧ m = 0 ∧ nk = 1 ∧ ns = ⟨#[]⟩)) (HP : Hid (∀ w, Calls Tryd.prog 24 #[.string s] w fun e w' => e = .returned (.tuple #[.int .i64 m, .bool ok]) ∧ Ext w w')) (HN : Hid (∀ w, Calls Tryd.prog 19 #[.agg #[.int .i64 2, .int .i64 0, .string s]] w fun e w' => e = .returned (.agg #[.int .i64 nk, .int .i64 nn, .string ns]) ∧ Ext w w')) :
    Calls Tryd.prog 5 #[.agg #[.int .i64 2, .int .i64 0, .string s]] w fun e w' => e = .returned (.bool true) ∧ Ext w w' := by
  have HS : Hid (ByteArray.size s ≤ 64) := Lib.hid (hok)
  have HR : Hid (∀ w, Calls Tryd.prog 14 #[.agg #[.int .i64 2, .int .i64 0, .string s]] w fun e w' => e = .returned (.bool true) ∧ Ext w w') := Lib.hid (fun w => right_v (.text s) w hok)
  have c1 : Hid (∀ w, Calls Tryd.prog 19 #[.agg #[.int .i64 2, .int .i64 0, .string s]] w fun e w' => e = .returned (.agg #[.int .i64 nk, .int .i64 nn, .string ns]) ∧ Ext w w') := Lib.hid (fun w => HN.out w)
  have c2 : Hid (∀ w (ht : Tab w), Calls Tryd.prog 20 #[.agg #[.int .i64 2, .int .i64 0, .string s]] w fun e w' => e = .returned (.agg #[.int .i64 2, .int .i64 0, .string s]) ∧ Ext w w') := Lib.hid (fun w ht => by have := totext_v (.text s) w hok ht; rw [show_64 hok (show (2 : Int) ≠ 4 by decide)] at this; exact this)
  have c3 : Hid (∀ w, Calls Tryd.prog 21 #[.agg #[.int .i64 2, .int .i64 0, .string s]] w fun e w' => e = .returned (.agg #[.int .i64 4, .int .i64 2, .string ⟨#[]⟩]) ∧ Ext w w') := Lib.hid (fun w => by have := tobool_v (.text s) w hok; rw [tobool_O h1 h2] at this; exact this)
  have HSH : Hid (∀ w (ht : Tab w), Calls Tryd.prog 22 #[.agg #[.int .i64 2, .int .i64 0, .string s]] w fun e w' => e = .returned (.string s) ∧ Ext w w') := Lib.hid (fun w ht => show_v (.text s) w hok ht)
  obtain ⟨W1, hW1, hE1, hG1, hL1, hS1⟩ := new_blk w #[.int .i64 2, .int .i64 0, .string s] 28
  have hT1 : Tab W1 := by rw [← hW1]; exact ht.alloc _
  have b1 := ext_blk hG1
  have l1 := ext_lt (blk_lt hG1)
  have HW1 := Lib.hid hW1
  have HE1 := Lib.hid hE1
  have HG1 := Lib.hid hG1
  have HT1 := Lib.hid hT1
  have HT := Lib.hid ht
  have f1 : CallE Tryd.prog W1 9 #[] (.bool true) := fun w' hE => fit_v w' (HT1.out.ext hE)
  have f2 : CallE Tryd.prog W1 12 #[.agg #[.int .i64 2, .int .i64 0, .string s]] (.bool true) := fun w' hE => by
    have := light_any 2 0 s w' (by have := HS.out; omega)
    rwa [show decide ((ByteArray.size s : Int) ≤ 300) = true from decide_eq_true (by have := HS.out; omega)] at this
  have f3 : CallE Tryd.prog W1 14 #[.agg #[.int .i64 2, .int .i64 0, .string s]] (.bool true) := fun w' hE => HR.out w'
  have hr1 := Ext.refl W1
  have E1 : CallE Tryd.prog W1 19 #[.agg #[.int .i64 2, .int .i64 0, .string s]] (.agg #[.int .i64 nk, .int .i64 nn, .string ns]) := fun w' _ => c1.out w'
  have E2 : CallE Tryd.prog W1 20 #[.agg #[.int .i64 2, .int .i64 0, .string s]] (.agg #[.int .i64 2, .int .i64 0, .string s]) := fun w' hE => c2.out w' (HT1.out.ext hE)
  have E3 : CallE Tryd.prog W1 21 #[.agg #[.int .i64 2, .int .i64 0, .string s]] (.agg #[.int .i64 4, .int .i64 2, .string ⟨#[]⟩]) := fun w' _ => c3.out w'
  clear hW1 hE1 hG1 hL1 hS1 hT1 ht
  go_enter Tryd.func5, Tryd.ntmps5
  go_wp2_with fail
  rw [HW1.out]
  clear HW1
  go_upto_region 5 with (first | ((with_reducible refine (CallE.at_ (by assumption) (by assumption)).mono ?_); rintro e w' ⟨rfl, hEx⟩))
  have hx := hEx
  have HX := Lib.hid hx
  have HG2 := Lib.hid (hx.blk HG1.out)
  have b1 := ext_blk HG2.out
  have l1 := ext_lt (blk_lt HG2.out)
  have e1 := E1.more hx
  have e2 := E2.more hx
  have e3 := E3.more hx
  clear f1 f2 f3 hx
  go_wp2_with fail
  refine region_own [3, 4, 5] (by intro d hd; simp only [List.mem_cons, List.not_mem_nil, or_false] at hd; rcases hd with rfl | rfl | rfl <;> rfl) (by kernel_rfl) (by kernel_rfl) rfl (fun K hK => ?_)
  repeat (first | (refine seqr_skip (by rfl) (fun ρ => by rfl) ?_; (try simp only [Act.put, List.setIfInBounds_toArray, List.set_cons_zero, List.set_cons_succ])) | (refine seqr_pure (v := ?_) (by rfl) (fun ρ => by rfl) (fun ρ w hE hF => ?_) ?_; rotate_left 1; (· ((try simp only [fill, Act.put, List.setIfInBounds_toArray, List.set_cons_zero, List.set_cons_succ]); go_simp; try with_reducible rfl)); (try simp only [Act.put, List.setIfInBounds_toArray, List.set_cons_zero, List.set_cons_succ])) | (refine seqr_call0 (v := ?_) (f := ?_) (args := ?_) (by rfl) (fun ρ => by rfl) (fun ρ w => ?_) (fun w hE => ?_) ?_; rotate_left 3; (· ((try simp only [fill, Act.put, List.setIfInBounds_toArray, List.set_cons_zero, List.set_cons_succ]); go_simp; constructor <;> with_reducible rfl)); (· (with_reducible exact CallE.call (by assumption) hE)); (try simp only [Act.put, List.setIfInBounds_toArray, List.set_cons_zero, List.set_cons_succ])))
  (refine seqr_own 28 (#[.int .i64 0, .int .i64 0, .string ⟨#[]⟩]) rfl (by decide) (by rfl) (fun ρ => by rfl) (fun ρ w hE hF => ?_) ?_; (· ((try simp only [fill, Act.put, List.setIfInBounds_toArray, List.set_cons_zero, List.set_cons_succ]); go_simp; try rfl)); (try simp only [Act.put, List.setIfInBounds_toArray, List.set_cons_zero, List.set_cons_succ]))
  (refine seqr_own 28 (#[.int .i64 0, .int .i64 0, .string ⟨#[]⟩]) rfl (by decide) (by rfl) (fun ρ => by rfl) (fun ρ w hE hF => ?_) ?_; (· ((try simp only [fill, Act.put, List.setIfInBounds_toArray, List.set_cons_zero, List.set_cons_succ]); go_simp; try rfl)); (try simp only [Act.put, List.setIfInBounds_toArray, List.set_cons_zero, List.set_cons_succ]))
  (refine seqr_own 28 (#[.int .i64 0, .int .i64 0, .string ⟨#[]⟩]) rfl (by decide) (by rfl) (fun ρ => by rfl) (fun ρ w hE hF => ?_) ?_; (· ((try simp only [fill, Act.put, List.setIfInBounds_toArray, List.set_cons_zero, List.set_cons_succ]); go_simp; try rfl)); (try simp only [Act.put, List.setIfInBounds_toArray, List.set_cons_zero, List.set_cons_succ]))
  refine seqr_tails (by kernel_rfl) (fun ρ wN hEN hFN hAN => ?_); (try simp only [fill, Act.put, List.setIfInBounds_toArray, List.set_cons_zero, List.set_cons_succ])
  obtain ⟨g3, hp3, hl3, hb3⟩ := hFN _ (.tail _ (.tail _ (.head _)))
  obtain ⟨g4, hp4, hl4, hb4⟩ := hFN _ (.tail _ (.head _))
  obtain ⟨g5, hp5, hl5, hb5⟩ := hFN _ (.head _)
  simp only at hp3 hp4 hp5
  have n34 : g3 ≠ g4 := apt_ne hAN (d := 3) (d' := 4) (by simp) (by simp) (by decide) hl3 hp3 hp4
  have n35 : g3 ≠ g5 := apt_ne hAN (d := 3) (d' := 5) (by simp) (by simp) (by decide) hl3 hp3 hp5
  have n45 : g4 ≠ g5 := apt_ne hAN (d := 4) (d' := 5) (by simp) (by simp) (by decide) hl4 hp4 hp5
  have n43 := n34.symm
  have n53 := n35.symm
  have n54 := n45.symm
  rw [hp3, hp4, hp5]
  clear hp3 hp4 hp5 hFN hAN e1 e2 e3 b1 l1
  go_wp2_with ((with_reducible refine wpl_guard (isStore 28) ?_ ?_); (· rfl); refine wpl_store (t := ?_) (old := ?_) (w' := ?_) rfl 28 _ _ rfl rfl rfl ?_ ?_ ?_ ?_ ?_ ?_; rotate_left 2; (· (first | (with_reducible assumption) | (simp (disch := (first | omega | (simp only [World.size_alloc, World.size_setCell, World.size_drew, size_setRow]; done) | (simp only [World.size_alloc, World.size_setCell, World.size_drew, size_setRow]; omega))) only [hq_at, hq_past, hq_drew, hq_drewN, hq_cell, hq_row, hq_same, rowOf_cells, Option.map_some, *]; rfl) | (simp (disch := (first | omega | (simp only [World.size_alloc, World.size_setCell, World.size_drew, size_setRow]; done) | (simp only [World.size_alloc, World.size_setCell, World.size_drew, size_setRow]; omega))) only [hq_at, hq_past, hq_drew, hq_drewN, hq_cell, hq_row, hq_same, rowOf_cells, Option.map_some, *]))); (· kernel_rfl); (· rfl); (· rfl); rotate_left 1; (· (first | (simp (disch := (first | omega | (simp only [World.size_alloc, World.size_setCell, World.size_drew, size_setRow]; done) | (simp only [World.size_alloc, World.size_setCell, World.size_drew, size_setRow]; omega))) only [setRow_at, setRow_past, setRow_drew]; rfl) | rfl)))
  refine (show K _ _ from hK.out _ _ ?_); clear hK K
  obtain ⟨V1, hV1, hE1, hG3⟩ := put_blk hEN hl3 hb3 #[.int .i64 nk, .int .i64 nn, .string ns]
  have h4 := put_off (cs := #[.int .i64 nk, .int .i64 nn, .string ns]) n43 hb4
  have h5 := put_off (cs := #[.int .i64 nk, .int .i64 nn, .string ns]) n53 hb5
  rw [hV1] at h4 h5 ⊢
  obtain ⟨V2, hV2, hE2, hG4⟩ := put_blk hE1 hl4 h4 #[.int .i64 2, .int .i64 0, .string s]
  have h5' := put_off (cs := #[.int .i64 2, .int .i64 0, .string s]) n54 h5
  have hG3' := put_off (cs := #[.int .i64 2, .int .i64 0, .string s]) n34 hG3
  rw [hV2] at h5' hG3' ⊢
  obtain ⟨V3, hV3, hE3, hG5⟩ := put_blk hE2 hl5 h5' #[.int .i64 4, .int .i64 2, .string ⟨#[]⟩]
  have hG3'' := put_off (cs := #[.int .i64 4, .int .i64 2, .string ⟨#[]⟩]) n35 hG3'
  have hG4' := put_off (cs := #[.int .i64 4, .int .i64 2, .string ⟨#[]⟩]) n45 hG4
  rw [hV3] at hG3'' hG4' ⊢
  have b1 := ext_blk (hE3.blk HG2.out)
  have l1 := ext_lt (blk_lt (hE3.blk HG2.out))
  have b3 := ext_blk hG3''
  have l3 := ext_lt (blk_lt hG3'')
  have b4 := ext_blk hG4'
  have l4 := ext_lt (blk_lt hG4')
  have b5 := ext_blk hG5
  have l5 := ext_lt (blk_lt hG5)
  have hEx := Ext.refl V3
  have E13 := HX.out.trans hE3
  have HEF := Lib.hid (HE1.out.trans E13)
  have E13 := Lib.hid E13
  clear hV1 hV2 hV3 hE1 hE2 hE3 hG3 hG4 hG5 hG3' hG3'' hG4' h4 h5 h5' hb3 hb4 hb5 hl3 hl4 hl5 hEN n34 n35 n45 n43 n53 n54 E1 E2 E3 HX HG1 HG2
  have t1 : CallE Tryd.prog V3 22 #[.agg #[.int .i64 2, .int .i64 0, .string s]] (.string s) := fun w' hE => HSH.out w' (HT1.out.ext (E13.out.trans hE))
  have q1 := fun w => eql_value_self nk nn ns w
  have q2 := fun w => eql_value_self 2 0 s w
  have q3 := fun w => eql_value_self 4 2 ⟨#[]⟩ w
  have q4 : (ByteArray.toList s == ByteArray.toList s) = true := by simp
  have hr := Ext.refl V3
  clear hEx
  have t2 : CallE Tryd.prog V3 24 #[.string s] (.tuple #[.int .i64 m, .bool ok]) := fun w' _ => HP.out w'
  have t3 : CallE Tryd.prog V3 15 #[.int .i64 m] (.agg #[.int .i64 1, .int .i64 m, .string ⟨#[]⟩]) := fun w' _ => num_v m w'
  have t4 : CallE Tryd.prog V3 17 #[.int .i64 2] (.agg #[.int .i64 4, .int .i64 2, .string ⟨#[]⟩]) := fun w' _ => fail_v 2 w'
  have fd1 := eql_value_self
  have e1 : (s.toList == [84, 82, 85, 69]) = false := by rw [beq_eq_false_iff_ne]; exact bytes_ne h1
  have e2 : (s.toList == [70, 65, 76, 83, 69]) = false := by rw [beq_eq_false_iff_ne]; exact bytes_ne h2
  have e3 : ¬ s.toList = [84, 82, 85, 69] := bytes_ne h1
  have e4 : ¬ s.toList = [70, 65, 76, 83, 69] := bytes_ne h2
  clear h1 h2
  go_upto_region 8 with (fail)
  go_wp2_with fail
  refine region_any (by kernel_rfl) (by kernel_rfl) rfl (fun K hK => ?_)
  repeat (first | (refine seqr_skip (by rfl) (fun ρ => by rfl) ?_; (try simp only [Act.put, List.setIfInBounds_toArray, List.set_cons_zero, List.set_cons_succ])) | (refine seqr_pure (v := ?_) (by rfl) (fun ρ => by rfl) (fun ρ w hE hF => ?_) ?_; rotate_left 1; (· ((try simp only [fill, Act.put, List.setIfInBounds_toArray, List.set_cons_zero, List.set_cons_succ]); go_simp; try with_reducible rfl)); (try simp only [Act.put, List.setIfInBounds_toArray, List.set_cons_zero, List.set_cons_succ])) | (refine seqr_call0 (v := ?_) (f := ?_) (args := ?_) (by rfl) (fun ρ => by rfl) (fun ρ w => ?_) (fun w hE => ?_) ?_; rotate_left 3; (· ((try simp only [fill, Act.put, List.setIfInBounds_toArray, List.set_cons_zero, List.set_cons_succ]); go_simp; constructor <;> with_reducible rfl)); (· (with_reducible exact CallE.call (by assumption) hE)); (try simp only [Act.put, List.setIfInBounds_toArray, List.set_cons_zero, List.set_cons_succ])))
  refine seqr_done (fun ρ wN hEN hFN => ?_); (try simp only [fill, Act.put, List.setIfInBounds_toArray, List.set_cons_zero, List.set_cons_succ]); refine (show K _ _ from hK.out _ _ ?_); clear hK K
  have HEG := Lib.hid (HEF.out.trans hEN)
  replace b1 := fun w (h : Ext wN w) => b1 w (Ext.trans hEN h)
  replace b3 := fun w (h : Ext wN w) => b3 w (Ext.trans hEN h)
  replace b4 := fun w (h : Ext wN w) => b4 w (Ext.trans hEN h)
  replace b5 := fun w (h : Ext wN w) => b5 w (Ext.trans hEN h)
  replace l1 := fun w (h : Ext wN w) => l1 w (Ext.trans hEN h)
  replace l3 := fun w (h : Ext wN w) => l3 w (Ext.trans hEN h)
  replace l4 := fun w (h : Ext wN w) => l4 w (Ext.trans hEN h)
  replace l5 := fun w (h : Ext wN w) => l5 w (Ext.trans hEN h)
  replace t1 := CallE.more t1 hEN
  replace t2 := CallE.more t2 hEN
  replace t3 := CallE.more t3 hEN
  replace t4 := CallE.more t4 hEN
  clear hr
  have hr := Ext.refl wN
  go_upto_region 18 with (first | ((with_reducible refine (CallE.at_ (by assumption) (by assumption)).mono ?_); rintro e w' ⟨rfl, hEx⟩))
  have HEH := Lib.hid (HEG.out.trans hEx)
  replace b1 := fun w (h : Ext w' w) => b1 w (Ext.trans hEx h)
  replace b3 := fun w (h : Ext w' w) => b3 w (Ext.trans hEx h)
  replace b4 := fun w (h : Ext w' w) => b4 w (Ext.trans hEx h)
  replace b5 := fun w (h : Ext w' w) => b5 w (Ext.trans hEx h)
  replace l1 := fun w (h : Ext w' w) => l1 w (Ext.trans hEx h)
  replace l3 := fun w (h : Ext w' w) => l3 w (Ext.trans hEx h)
  replace l4 := fun w (h : Ext w' w) => l4 w (Ext.trans hEx h)
  replace l5 := fun w (h : Ext w' w) => l5 w (Ext.trans hEx h)
  replace t1 := CallE.more t1 hEx
  replace t2 := CallE.more t2 hEx
  replace t3 := CallE.more t3 hEx
  replace t4 := CallE.more t4 hEx
  clear hr
  have hr := Ext.refl w'
  rcases hpp with ⟨rfl, rfl, rfl, rfl⟩ | ⟨rfl, rfl, rfl, rfl, rfl⟩ | ⟨rfl, rfl, rfl, rfl⟩
  all_goals
    go_wp2_with fail
    refine region_any (by kernel_rfl) (by kernel_rfl) rfl (fun K hK => ?_)
    repeat (first | (refine seqr_skip (by rfl) (fun ρ => by rfl) ?_; (try simp only [Act.put, List.setIfInBounds_toArray, List.set_cons_zero, List.set_cons_succ])) | (refine seqr_pure (v := ?_) (by rfl) (fun ρ => by rfl) (fun ρ w hE hF => ?_) ?_; rotate_left 1; (· ((try simp only [fill, Act.put, List.setIfInBounds_toArray, List.set_cons_zero, List.set_cons_succ]); go_simp; try with_reducible rfl)); (try simp only [Act.put, List.setIfInBounds_toArray, List.set_cons_zero, List.set_cons_succ])) | (refine seqr_call0 (v := ?_) (f := ?_) (args := ?_) (by rfl) (fun ρ => by rfl) (fun ρ w => ?_) (fun w hE => ?_) ?_; rotate_left 3; (· ((try simp only [fill, Act.put, List.setIfInBounds_toArray, List.set_cons_zero, List.set_cons_succ]); go_simp; constructor <;> with_reducible rfl)); (· (with_reducible exact CallE.call (by assumption) hE)); (try simp only [Act.put, List.setIfInBounds_toArray, List.set_cons_zero, List.set_cons_succ])))
    refine seqr_done (fun ρ wN hEN hFN => ?_); (try simp only [fill, Act.put, List.setIfInBounds_toArray, List.set_cons_zero, List.set_cons_succ]); refine (show K _ _ from hK.out _ _ ?_); clear hK K
    go_wp2_with fail
    go_ret
    exact ⟨rfl, HEH.out.trans hEN⟩
set_option maxHeartbeats 4000000 in
set_option maxRecDepth 100000 in
theorem walk_boolT (w : World) (ht : Tab w) :
    Calls Tryd.prog 5 #[.agg #[.int .i64 3, .int .i64 1, .string ⟨#[]⟩]] w fun e w' => e = .returned (.bool true) ∧ Ext w w' := by
  have HS : Hid (ByteArray.size ⟨#[]⟩ ≤ 64) := Lib.hid (show (0 : Nat) ≤ 64 by decide)
  have HR : Hid (∀ w, Calls Tryd.prog 14 #[.agg #[.int .i64 3, .int .i64 1, .string ⟨#[]⟩]] w fun e w' => e = .returned (.bool true) ∧ Ext w w') := Lib.hid (fun w => right_v (.bool true) w trivial)
  have c1 : Hid (∀ w, Calls Tryd.prog 19 #[.agg #[.int .i64 3, .int .i64 1, .string ⟨#[]⟩]] w fun e w' => e = .returned (.agg #[.int .i64 1, .int .i64 1000000, .string ⟨#[]⟩]) ∧ Ext w w') := Lib.hid (fun w => tonum_v (.bool true) w trivial)
  have c2 : Hid (∀ w (ht : Tab w), Calls Tryd.prog 20 #[.agg #[.int .i64 3, .int .i64 1, .string ⟨#[]⟩]] w fun e w' => e = .returned (.agg #[.int .i64 2, .int .i64 0, .string ⟨#[84, 82, 85, 69]⟩]) ∧ Ext w w') := Lib.hid (fun w ht => totext_v (.bool true) w trivial ht)
  have c3 : Hid (∀ w, Calls Tryd.prog 21 #[.agg #[.int .i64 3, .int .i64 1, .string ⟨#[]⟩]] w fun e w' => e = .returned (.agg #[.int .i64 3, .int .i64 1, .string ⟨#[]⟩]) ∧ Ext w w') := Lib.hid (fun w => tobool_v (.bool true) w trivial)
  have HSH : Hid (∀ w (ht : Tab w), Calls Tryd.prog 22 #[.agg #[.int .i64 3, .int .i64 1, .string ⟨#[]⟩]] w fun e w' => e = .returned (.string ⟨#[84, 82, 85, 69]⟩) ∧ Ext w w') := Lib.hid (fun w ht => show_v (.bool true) w trivial ht)
  obtain ⟨W1, hW1, hE1, hG1, hL1, hS1⟩ := new_blk w #[.int .i64 3, .int .i64 1, .string ⟨#[]⟩] 28
  have hT1 : Tab W1 := by rw [← hW1]; exact ht.alloc _
  have b1 := ext_blk hG1
  have l1 := ext_lt (blk_lt hG1)
  have HW1 := Lib.hid hW1
  have HE1 := Lib.hid hE1
  have HG1 := Lib.hid hG1
  have HT1 := Lib.hid hT1
  have HT := Lib.hid ht
  have f1 : CallE Tryd.prog W1 9 #[] (.bool true) := fun w' hE => fit_v w' (HT1.out.ext hE)
  have f2 : CallE Tryd.prog W1 12 #[.agg #[.int .i64 3, .int .i64 1, .string ⟨#[]⟩]] (.bool true) := fun w' hE => by
    have := light_any 3 1 ⟨#[]⟩ w' (by have := HS.out; omega)
    rwa [show decide ((ByteArray.size ⟨#[]⟩ : Int) ≤ 300) = true from decide_eq_true (by have := HS.out; omega)] at this
  have f3 : CallE Tryd.prog W1 14 #[.agg #[.int .i64 3, .int .i64 1, .string ⟨#[]⟩]] (.bool true) := fun w' hE => HR.out w'
  have hr1 := Ext.refl W1
  have E1 : CallE Tryd.prog W1 19 #[.agg #[.int .i64 3, .int .i64 1, .string ⟨#[]⟩]] (.agg #[.int .i64 1, .int .i64 1000000, .string ⟨#[]⟩]) := fun w' _ => c1.out w'
  have E2 : CallE Tryd.prog W1 20 #[.agg #[.int .i64 3, .int .i64 1, .string ⟨#[]⟩]] (.agg #[.int .i64 2, .int .i64 0, .string ⟨#[84, 82, 85, 69]⟩]) := fun w' hE => c2.out w' (HT1.out.ext hE)
  have E3 : CallE Tryd.prog W1 21 #[.agg #[.int .i64 3, .int .i64 1, .string ⟨#[]⟩]] (.agg #[.int .i64 3, .int .i64 1, .string ⟨#[]⟩]) := fun w' _ => c3.out w'
  clear hW1 hE1 hG1 hL1 hS1 hT1 ht
  go_enter Tryd.func5, Tryd.ntmps5
  go_wp2_with fail
  rw [HW1.out]
  clear HW1
  go_upto_region 5 with (first | ((with_reducible refine (CallE.at_ (by assumption) (by assumption)).mono ?_); rintro e w' ⟨rfl, hEx⟩))
  have hx := hEx
  have HX := Lib.hid hx
  have HG2 := Lib.hid (hx.blk HG1.out)
  have b1 := ext_blk HG2.out
  have l1 := ext_lt (blk_lt HG2.out)
  have e1 := E1.more hx
  have e2 := E2.more hx
  have e3 := E3.more hx
  clear f1 f2 f3 hx
  go_wp2_with fail
  refine region_own [3, 4, 5] (by intro d hd; simp only [List.mem_cons, List.not_mem_nil, or_false] at hd; rcases hd with rfl | rfl | rfl <;> rfl) (by kernel_rfl) (by kernel_rfl) rfl (fun K hK => ?_)
  repeat (first | (refine seqr_skip (by rfl) (fun ρ => by rfl) ?_; (try simp only [Act.put, List.setIfInBounds_toArray, List.set_cons_zero, List.set_cons_succ])) | (refine seqr_pure (v := ?_) (by rfl) (fun ρ => by rfl) (fun ρ w hE hF => ?_) ?_; rotate_left 1; (· ((try simp only [fill, Act.put, List.setIfInBounds_toArray, List.set_cons_zero, List.set_cons_succ]); go_simp; try with_reducible rfl)); (try simp only [Act.put, List.setIfInBounds_toArray, List.set_cons_zero, List.set_cons_succ])) | (refine seqr_call0 (v := ?_) (f := ?_) (args := ?_) (by rfl) (fun ρ => by rfl) (fun ρ w => ?_) (fun w hE => ?_) ?_; rotate_left 3; (· ((try simp only [fill, Act.put, List.setIfInBounds_toArray, List.set_cons_zero, List.set_cons_succ]); go_simp; constructor <;> with_reducible rfl)); (· (with_reducible exact CallE.call (by assumption) hE)); (try simp only [Act.put, List.setIfInBounds_toArray, List.set_cons_zero, List.set_cons_succ])))
  (refine seqr_own 28 (#[.int .i64 0, .int .i64 0, .string ⟨#[]⟩]) rfl (by decide) (by rfl) (fun ρ => by rfl) (fun ρ w hE hF => ?_) ?_; (· ((try simp only [fill, Act.put, List.setIfInBounds_toArray, List.set_cons_zero, List.set_cons_succ]); go_simp; try rfl)); (try simp only [Act.put, List.setIfInBounds_toArray, List.set_cons_zero, List.set_cons_succ]))
  (refine seqr_own 28 (#[.int .i64 0, .int .i64 0, .string ⟨#[]⟩]) rfl (by decide) (by rfl) (fun ρ => by rfl) (fun ρ w hE hF => ?_) ?_; (· ((try simp only [fill, Act.put, List.setIfInBounds_toArray, List.set_cons_zero, List.set_cons_succ]); go_simp; try rfl)); (try simp only [Act.put, List.setIfInBounds_toArray, List.set_cons_zero, List.set_cons_succ]))
  (refine seqr_own 28 (#[.int .i64 0, .int .i64 0, .string ⟨#[]⟩]) rfl (by decide) (by rfl) (fun ρ => by rfl) (fun ρ w hE hF => ?_) ?_; (· ((try simp only [fill, Act.put, List.setIfInBounds_toArray, List.set_cons_zero, List.set_cons_succ]); go_simp; try rfl)); (try simp only [Act.put, List.setIfInBounds_toArray, List.set_cons_zero, List.set_cons_succ]))
  refine seqr_tails (by kernel_rfl) (fun ρ wN hEN hFN hAN => ?_); (try simp only [fill, Act.put, List.setIfInBounds_toArray, List.set_cons_zero, List.set_cons_succ])
  obtain ⟨g3, hp3, hl3, hb3⟩ := hFN _ (.tail _ (.tail _ (.head _)))
  obtain ⟨g4, hp4, hl4, hb4⟩ := hFN _ (.tail _ (.head _))
  obtain ⟨g5, hp5, hl5, hb5⟩ := hFN _ (.head _)
  simp only at hp3 hp4 hp5
  have n34 : g3 ≠ g4 := apt_ne hAN (d := 3) (d' := 4) (by simp) (by simp) (by decide) hl3 hp3 hp4
  have n35 : g3 ≠ g5 := apt_ne hAN (d := 3) (d' := 5) (by simp) (by simp) (by decide) hl3 hp3 hp5
  have n45 : g4 ≠ g5 := apt_ne hAN (d := 4) (d' := 5) (by simp) (by simp) (by decide) hl4 hp4 hp5
  have n43 := n34.symm
  have n53 := n35.symm
  have n54 := n45.symm
  rw [hp3, hp4, hp5]
  clear hp3 hp4 hp5 hFN hAN e1 e2 e3 b1 l1
  go_wp2_with ((with_reducible refine wpl_guard (isStore 28) ?_ ?_); (· rfl); refine wpl_store (t := ?_) (old := ?_) (w' := ?_) rfl 28 _ _ rfl rfl rfl ?_ ?_ ?_ ?_ ?_ ?_; rotate_left 2; (· (first | (with_reducible assumption) | (simp (disch := (first | omega | (simp only [World.size_alloc, World.size_setCell, World.size_drew, size_setRow]; done) | (simp only [World.size_alloc, World.size_setCell, World.size_drew, size_setRow]; omega))) only [hq_at, hq_past, hq_drew, hq_drewN, hq_cell, hq_row, hq_same, rowOf_cells, Option.map_some, *]; rfl) | (simp (disch := (first | omega | (simp only [World.size_alloc, World.size_setCell, World.size_drew, size_setRow]; done) | (simp only [World.size_alloc, World.size_setCell, World.size_drew, size_setRow]; omega))) only [hq_at, hq_past, hq_drew, hq_drewN, hq_cell, hq_row, hq_same, rowOf_cells, Option.map_some, *]))); (· kernel_rfl); (· rfl); (· rfl); rotate_left 1; (· (first | (simp (disch := (first | omega | (simp only [World.size_alloc, World.size_setCell, World.size_drew, size_setRow]; done) | (simp only [World.size_alloc, World.size_setCell, World.size_drew, size_setRow]; omega))) only [setRow_at, setRow_past, setRow_drew]; rfl) | rfl)))
  refine (show K _ _ from hK.out _ _ ?_); clear hK K
  obtain ⟨V1, hV1, hE1, hG3⟩ := put_blk hEN hl3 hb3 #[.int .i64 1, .int .i64 1000000, .string ⟨#[]⟩]
  have h4 := put_off (cs := #[.int .i64 1, .int .i64 1000000, .string ⟨#[]⟩]) n43 hb4
  have h5 := put_off (cs := #[.int .i64 1, .int .i64 1000000, .string ⟨#[]⟩]) n53 hb5
  rw [hV1] at h4 h5 ⊢
  obtain ⟨V2, hV2, hE2, hG4⟩ := put_blk hE1 hl4 h4 #[.int .i64 2, .int .i64 0, .string ⟨#[84, 82, 85, 69]⟩]
  have h5' := put_off (cs := #[.int .i64 2, .int .i64 0, .string ⟨#[84, 82, 85, 69]⟩]) n54 h5
  have hG3' := put_off (cs := #[.int .i64 2, .int .i64 0, .string ⟨#[84, 82, 85, 69]⟩]) n34 hG3
  rw [hV2] at h5' hG3' ⊢
  obtain ⟨V3, hV3, hE3, hG5⟩ := put_blk hE2 hl5 h5' #[.int .i64 3, .int .i64 1, .string ⟨#[]⟩]
  have hG3'' := put_off (cs := #[.int .i64 3, .int .i64 1, .string ⟨#[]⟩]) n35 hG3'
  have hG4' := put_off (cs := #[.int .i64 3, .int .i64 1, .string ⟨#[]⟩]) n45 hG4
  rw [hV3] at hG3'' hG4' ⊢
  have b1 := ext_blk (hE3.blk HG2.out)
  have l1 := ext_lt (blk_lt (hE3.blk HG2.out))
  have b3 := ext_blk hG3''
  have l3 := ext_lt (blk_lt hG3'')
  have b4 := ext_blk hG4'
  have l4 := ext_lt (blk_lt hG4')
  have b5 := ext_blk hG5
  have l5 := ext_lt (blk_lt hG5)
  have hEx := Ext.refl V3
  have E13 := HX.out.trans hE3
  have HEF := Lib.hid (HE1.out.trans E13)
  have E13 := Lib.hid E13
  clear hV1 hV2 hV3 hE1 hE2 hE3 hG3 hG4 hG5 hG3' hG3'' hG4' h4 h5 h5' hb3 hb4 hb5 hl3 hl4 hl5 hEN n34 n35 n45 n43 n53 n54 E1 E2 E3 HX HG1 HG2
  have t1 : CallE Tryd.prog V3 22 #[.agg #[.int .i64 3, .int .i64 1, .string ⟨#[]⟩]] (.string ⟨#[84, 82, 85, 69]⟩) := fun w' hE => HSH.out w' (HT1.out.ext (E13.out.trans hE))
  have q1 := fun w => eql_value_self 1 1000000 ⟨#[]⟩ w
  have q2 := fun w => eql_value_self 2 0 ⟨#[84, 82, 85, 69]⟩ w
  have q3 := fun w => eql_value_self 3 1 ⟨#[]⟩ w
  have q4 : (ByteArray.toList ⟨#[84, 82, 85, 69]⟩ == ByteArray.toList ⟨#[84, 82, 85, 69]⟩) = true := by simp
  have hr := Ext.refl V3
  clear hEx
  have t2 : CallE Tryd.prog V3 15 #[.int .i64 (IntKind.i64.wrap 1000000)] (.agg #[.int .i64 1, .int .i64 1000000, .string ⟨#[]⟩]) := fun w' _ => by rw [show IntKind.i64.wrap 1000000 = 1000000 by decide]; exact num_v _ w'
  have t3 : CallE Tryd.prog V3 15 #[.int .i64 1000000] (.agg #[.int .i64 1, .int .i64 1000000, .string ⟨#[]⟩]) := fun w' _ => num_v _ w'
  go_upto_region 8 with (fail)
  go_wp2_with fail
  refine region_any (by kernel_rfl) (by kernel_rfl) rfl (fun K hK => ?_)
  repeat (first | (refine seqr_skip (by rfl) (fun ρ => by rfl) ?_; (try simp only [Act.put, List.setIfInBounds_toArray, List.set_cons_zero, List.set_cons_succ])) | (refine seqr_pure (v := ?_) (by rfl) (fun ρ => by rfl) (fun ρ w hE hF => ?_) ?_; rotate_left 1; (· ((try simp only [fill, Act.put, List.setIfInBounds_toArray, List.set_cons_zero, List.set_cons_succ]); go_simp; try with_reducible rfl)); (try simp only [Act.put, List.setIfInBounds_toArray, List.set_cons_zero, List.set_cons_succ])) | (refine seqr_call0 (v := ?_) (f := ?_) (args := ?_) (by rfl) (fun ρ => by rfl) (fun ρ w => ?_) (fun w hE => ?_) ?_; rotate_left 3; (· ((try simp only [fill, Act.put, List.setIfInBounds_toArray, List.set_cons_zero, List.set_cons_succ]); go_simp; constructor <;> with_reducible rfl)); (· (with_reducible exact CallE.call (by assumption) hE)); (try simp only [Act.put, List.setIfInBounds_toArray, List.set_cons_zero, List.set_cons_succ])))
  refine seqr_done (fun ρ wN hEN hFN => ?_); (try simp only [fill, Act.put, List.setIfInBounds_toArray, List.set_cons_zero, List.set_cons_succ]); refine (show K _ _ from hK.out _ _ ?_); clear hK K
  have HEG := Lib.hid (HEF.out.trans hEN)
  replace b1 := fun w (h : Ext wN w) => b1 w (Ext.trans hEN h)
  replace b3 := fun w (h : Ext wN w) => b3 w (Ext.trans hEN h)
  replace b4 := fun w (h : Ext wN w) => b4 w (Ext.trans hEN h)
  replace b5 := fun w (h : Ext wN w) => b5 w (Ext.trans hEN h)
  replace l1 := fun w (h : Ext wN w) => l1 w (Ext.trans hEN h)
  replace l3 := fun w (h : Ext wN w) => l3 w (Ext.trans hEN h)
  replace l4 := fun w (h : Ext wN w) => l4 w (Ext.trans hEN h)
  replace l5 := fun w (h : Ext wN w) => l5 w (Ext.trans hEN h)
  replace t1 := CallE.more t1 hEN
  replace t2 := CallE.more t2 hEN
  replace t3 := CallE.more t3 hEN
  clear hr
  have hr := Ext.refl wN
  go_wp2_with fail
  refine region_any (by kernel_rfl) (by kernel_rfl) rfl (fun K hK => ?_)
  repeat (first | (refine seqr_skip (by rfl) (fun ρ => by rfl) ?_; (try simp only [Act.put, List.setIfInBounds_toArray, List.set_cons_zero, List.set_cons_succ])) | (refine seqr_pure (v := ?_) (by rfl) (fun ρ => by rfl) (fun ρ w hE hF => ?_) ?_; rotate_left 1; (· ((try simp only [fill, Act.put, List.setIfInBounds_toArray, List.set_cons_zero, List.set_cons_succ]); go_simp; try with_reducible rfl)); (try simp only [Act.put, List.setIfInBounds_toArray, List.set_cons_zero, List.set_cons_succ])) | (refine seqr_call0 (v := ?_) (f := ?_) (args := ?_) (by rfl) (fun ρ => by rfl) (fun ρ w => ?_) (fun w hE => ?_) ?_; rotate_left 3; (· ((try simp only [fill, Act.put, List.setIfInBounds_toArray, List.set_cons_zero, List.set_cons_succ]); go_simp; constructor <;> with_reducible rfl)); (· (with_reducible exact CallE.call (by assumption) hE)); (try simp only [Act.put, List.setIfInBounds_toArray, List.set_cons_zero, List.set_cons_succ])))
  refine seqr_rel SlB SlB.lasts rfl (by rfl) (fun ρ => by rfl) (fun ρ w hE hF => ?_) ?_
  · refine outcome_value ?_ (below_alloc1 w _) (SlB.new w 9)
    (try simp only [fill, Act.put, List.setIfInBounds_toArray, List.set_cons_zero, List.set_cons_succ])
    go_simp
  (try simp only [Act.put, List.setIfInBounds_toArray, List.set_cons_zero, List.set_cons_succ])
  repeat (first | (refine seqr_skip (by rfl) (fun ρ => by rfl) ?_; (try simp only [Act.put, List.setIfInBounds_toArray, List.set_cons_zero, List.set_cons_succ])) | (refine seqr_pure (v := ?_) (by rfl) (fun ρ => by rfl) (fun ρ w hE hF => ?_) ?_; rotate_left 1; (· ((try simp only [fill, Act.put, List.setIfInBounds_toArray, List.set_cons_zero, List.set_cons_succ]); go_simp; try with_reducible rfl)); (try simp only [Act.put, List.setIfInBounds_toArray, List.set_cons_zero, List.set_cons_succ])) | (refine seqr_call0 (v := ?_) (f := ?_) (args := ?_) (by rfl) (fun ρ => by rfl) (fun ρ w => ?_) (fun w hE => ?_) ?_; rotate_left 3; (· ((try simp only [fill, Act.put, List.setIfInBounds_toArray, List.set_cons_zero, List.set_cons_succ]); go_simp; constructor <;> with_reducible rfl)); (· (with_reducible exact CallE.call (by assumption) hE)); (try simp only [Act.put, List.setIfInBounds_toArray, List.set_cons_zero, List.set_cons_succ])))
  refine seqr_rel (PtB 1 ⟨#[84, 82, 85, 69]⟩) (PtB.lasts _ _) rfl (by rfl) (fun ρ => by rfl) (fun ρ w hE hF => ?_) ?_
  · obtain ⟨g, hg, hc⟩ := hF.get (.head _) (by rfl)
    refine outcome_value (v := .pointer (some ⟨g, 1, none⟩)) ?_ (Ext.refl w) ⟨g, rfl, fun w' hE' => (hc w' hE').2⟩
    (try simp only [fill, Act.put, List.setIfInBounds_toArray, List.set_cons_zero, List.set_cons_succ])
    simp only [hg]
    go_simp
  (try simp only [Act.put, List.setIfInBounds_toArray, List.set_cons_zero, List.set_cons_succ])
  refine seqr_pure (v := .string ⟨#[84, 82, 85, 69]⟩) (by rfl) (fun ρ => by rfl) (fun ρ w hE hF => ?_) ?_
  · obtain ⟨g, hg, hc⟩ := hF.get (.head _) (by rfl)
    have hc := hc w (Ext.refl w)
    (try simp only [fill, Act.put, List.setIfInBounds_toArray, List.set_cons_zero, List.set_cons_succ])
    simp only [hg]
    go_simp
  (try simp only [Act.put, List.setIfInBounds_toArray, List.set_cons_zero, List.set_cons_succ])
  repeat (first | (refine seqr_skip (by rfl) (fun ρ => by rfl) ?_; (try simp only [Act.put, List.setIfInBounds_toArray, List.set_cons_zero, List.set_cons_succ])) | (refine seqr_pure (v := ?_) (by rfl) (fun ρ => by rfl) (fun ρ w hE hF => ?_) ?_; rotate_left 1; (· ((try simp only [fill, Act.put, List.setIfInBounds_toArray, List.set_cons_zero, List.set_cons_succ]); go_simp; try with_reducible rfl)); (try simp only [Act.put, List.setIfInBounds_toArray, List.set_cons_zero, List.set_cons_succ])) | (refine seqr_call0 (v := ?_) (f := ?_) (args := ?_) (by rfl) (fun ρ => by rfl) (fun ρ w => ?_) (fun w hE => ?_) ?_; rotate_left 3; (· ((try simp only [fill, Act.put, List.setIfInBounds_toArray, List.set_cons_zero, List.set_cons_succ]); go_simp; constructor <;> with_reducible rfl)); (· (with_reducible exact CallE.call (by assumption) hE)); (try simp only [Act.put, List.setIfInBounds_toArray, List.set_cons_zero, List.set_cons_succ])))
  refine seqr_done (fun ρ wN hEN hFN => ?_); (try simp only [fill, Act.put, List.setIfInBounds_toArray, List.set_cons_zero, List.set_cons_succ]); refine (show K _ _ from hK.out _ _ ?_); clear hK K
  go_wp2_with fail
  go_ret
  exact ⟨rfl, HEG.out.trans hEN⟩
set_option maxHeartbeats 4000000 in
set_option maxRecDepth 100000 in
theorem walk_boolF (w : World) (ht : Tab w) :
    Calls Tryd.prog 5 #[.agg #[.int .i64 3, .int .i64 0, .string ⟨#[]⟩]] w fun e w' => e = .returned (.bool true) ∧ Ext w w' := by
  have HS : Hid (ByteArray.size ⟨#[]⟩ ≤ 64) := Lib.hid (show (0 : Nat) ≤ 64 by decide)
  have HR : Hid (∀ w, Calls Tryd.prog 14 #[.agg #[.int .i64 3, .int .i64 0, .string ⟨#[]⟩]] w fun e w' => e = .returned (.bool true) ∧ Ext w w') := Lib.hid (fun w => right_v (.bool false) w trivial)
  have c1 : Hid (∀ w, Calls Tryd.prog 19 #[.agg #[.int .i64 3, .int .i64 0, .string ⟨#[]⟩]] w fun e w' => e = .returned (.agg #[.int .i64 1, .int .i64 0, .string ⟨#[]⟩]) ∧ Ext w w') := Lib.hid (fun w => tonum_v (.bool false) w trivial)
  have c2 : Hid (∀ w (ht : Tab w), Calls Tryd.prog 20 #[.agg #[.int .i64 3, .int .i64 0, .string ⟨#[]⟩]] w fun e w' => e = .returned (.agg #[.int .i64 2, .int .i64 0, .string ⟨#[70, 65, 76, 83, 69]⟩]) ∧ Ext w w') := Lib.hid (fun w ht => totext_v (.bool false) w trivial ht)
  have c3 : Hid (∀ w, Calls Tryd.prog 21 #[.agg #[.int .i64 3, .int .i64 0, .string ⟨#[]⟩]] w fun e w' => e = .returned (.agg #[.int .i64 3, .int .i64 0, .string ⟨#[]⟩]) ∧ Ext w w') := Lib.hid (fun w => tobool_v (.bool false) w trivial)
  have HSH : Hid (∀ w (ht : Tab w), Calls Tryd.prog 22 #[.agg #[.int .i64 3, .int .i64 0, .string ⟨#[]⟩]] w fun e w' => e = .returned (.string ⟨#[70, 65, 76, 83, 69]⟩) ∧ Ext w w') := Lib.hid (fun w ht => show_v (.bool false) w trivial ht)
  obtain ⟨W1, hW1, hE1, hG1, hL1, hS1⟩ := new_blk w #[.int .i64 3, .int .i64 0, .string ⟨#[]⟩] 28
  have hT1 : Tab W1 := by rw [← hW1]; exact ht.alloc _
  have b1 := ext_blk hG1
  have l1 := ext_lt (blk_lt hG1)
  have HW1 := Lib.hid hW1
  have HE1 := Lib.hid hE1
  have HG1 := Lib.hid hG1
  have HT1 := Lib.hid hT1
  have HT := Lib.hid ht
  have f1 : CallE Tryd.prog W1 9 #[] (.bool true) := fun w' hE => fit_v w' (HT1.out.ext hE)
  have f2 : CallE Tryd.prog W1 12 #[.agg #[.int .i64 3, .int .i64 0, .string ⟨#[]⟩]] (.bool true) := fun w' hE => by
    have := light_any 3 0 ⟨#[]⟩ w' (by have := HS.out; omega)
    rwa [show decide ((ByteArray.size ⟨#[]⟩ : Int) ≤ 300) = true from decide_eq_true (by have := HS.out; omega)] at this
  have f3 : CallE Tryd.prog W1 14 #[.agg #[.int .i64 3, .int .i64 0, .string ⟨#[]⟩]] (.bool true) := fun w' hE => HR.out w'
  have hr1 := Ext.refl W1
  have E1 : CallE Tryd.prog W1 19 #[.agg #[.int .i64 3, .int .i64 0, .string ⟨#[]⟩]] (.agg #[.int .i64 1, .int .i64 0, .string ⟨#[]⟩]) := fun w' _ => c1.out w'
  have E2 : CallE Tryd.prog W1 20 #[.agg #[.int .i64 3, .int .i64 0, .string ⟨#[]⟩]] (.agg #[.int .i64 2, .int .i64 0, .string ⟨#[70, 65, 76, 83, 69]⟩]) := fun w' hE => c2.out w' (HT1.out.ext hE)
  have E3 : CallE Tryd.prog W1 21 #[.agg #[.int .i64 3, .int .i64 0, .string ⟨#[]⟩]] (.agg #[.int .i64 3, .int .i64 0, .string ⟨#[]⟩]) := fun w' _ => c3.out w'
  clear hW1 hE1 hG1 hL1 hS1 hT1 ht
  go_enter Tryd.func5, Tryd.ntmps5
  go_wp2_with fail
  rw [HW1.out]
  clear HW1
  go_upto_region 5 with (first | ((with_reducible refine (CallE.at_ (by assumption) (by assumption)).mono ?_); rintro e w' ⟨rfl, hEx⟩))
  have hx := hEx
  have HX := Lib.hid hx
  have HG2 := Lib.hid (hx.blk HG1.out)
  have b1 := ext_blk HG2.out
  have l1 := ext_lt (blk_lt HG2.out)
  have e1 := E1.more hx
  have e2 := E2.more hx
  have e3 := E3.more hx
  clear f1 f2 f3 hx
  go_wp2_with fail
  refine region_own [3, 4, 5] (by intro d hd; simp only [List.mem_cons, List.not_mem_nil, or_false] at hd; rcases hd with rfl | rfl | rfl <;> rfl) (by kernel_rfl) (by kernel_rfl) rfl (fun K hK => ?_)
  repeat (first | (refine seqr_skip (by rfl) (fun ρ => by rfl) ?_; (try simp only [Act.put, List.setIfInBounds_toArray, List.set_cons_zero, List.set_cons_succ])) | (refine seqr_pure (v := ?_) (by rfl) (fun ρ => by rfl) (fun ρ w hE hF => ?_) ?_; rotate_left 1; (· ((try simp only [fill, Act.put, List.setIfInBounds_toArray, List.set_cons_zero, List.set_cons_succ]); go_simp; try with_reducible rfl)); (try simp only [Act.put, List.setIfInBounds_toArray, List.set_cons_zero, List.set_cons_succ])) | (refine seqr_call0 (v := ?_) (f := ?_) (args := ?_) (by rfl) (fun ρ => by rfl) (fun ρ w => ?_) (fun w hE => ?_) ?_; rotate_left 3; (· ((try simp only [fill, Act.put, List.setIfInBounds_toArray, List.set_cons_zero, List.set_cons_succ]); go_simp; constructor <;> with_reducible rfl)); (· (with_reducible exact CallE.call (by assumption) hE)); (try simp only [Act.put, List.setIfInBounds_toArray, List.set_cons_zero, List.set_cons_succ])))
  (refine seqr_own 28 (#[.int .i64 0, .int .i64 0, .string ⟨#[]⟩]) rfl (by decide) (by rfl) (fun ρ => by rfl) (fun ρ w hE hF => ?_) ?_; (· ((try simp only [fill, Act.put, List.setIfInBounds_toArray, List.set_cons_zero, List.set_cons_succ]); go_simp; try rfl)); (try simp only [Act.put, List.setIfInBounds_toArray, List.set_cons_zero, List.set_cons_succ]))
  (refine seqr_own 28 (#[.int .i64 0, .int .i64 0, .string ⟨#[]⟩]) rfl (by decide) (by rfl) (fun ρ => by rfl) (fun ρ w hE hF => ?_) ?_; (· ((try simp only [fill, Act.put, List.setIfInBounds_toArray, List.set_cons_zero, List.set_cons_succ]); go_simp; try rfl)); (try simp only [Act.put, List.setIfInBounds_toArray, List.set_cons_zero, List.set_cons_succ]))
  (refine seqr_own 28 (#[.int .i64 0, .int .i64 0, .string ⟨#[]⟩]) rfl (by decide) (by rfl) (fun ρ => by rfl) (fun ρ w hE hF => ?_) ?_; (· ((try simp only [fill, Act.put, List.setIfInBounds_toArray, List.set_cons_zero, List.set_cons_succ]); go_simp; try rfl)); (try simp only [Act.put, List.setIfInBounds_toArray, List.set_cons_zero, List.set_cons_succ]))
  refine seqr_tails (by kernel_rfl) (fun ρ wN hEN hFN hAN => ?_); (try simp only [fill, Act.put, List.setIfInBounds_toArray, List.set_cons_zero, List.set_cons_succ])
  obtain ⟨g3, hp3, hl3, hb3⟩ := hFN _ (.tail _ (.tail _ (.head _)))
  obtain ⟨g4, hp4, hl4, hb4⟩ := hFN _ (.tail _ (.head _))
  obtain ⟨g5, hp5, hl5, hb5⟩ := hFN _ (.head _)
  simp only at hp3 hp4 hp5
  have n34 : g3 ≠ g4 := apt_ne hAN (d := 3) (d' := 4) (by simp) (by simp) (by decide) hl3 hp3 hp4
  have n35 : g3 ≠ g5 := apt_ne hAN (d := 3) (d' := 5) (by simp) (by simp) (by decide) hl3 hp3 hp5
  have n45 : g4 ≠ g5 := apt_ne hAN (d := 4) (d' := 5) (by simp) (by simp) (by decide) hl4 hp4 hp5
  have n43 := n34.symm
  have n53 := n35.symm
  have n54 := n45.symm
  rw [hp3, hp4, hp5]
  clear hp3 hp4 hp5 hFN hAN e1 e2 e3 b1 l1
  go_wp2_with ((with_reducible refine wpl_guard (isStore 28) ?_ ?_); (· rfl); refine wpl_store (t := ?_) (old := ?_) (w' := ?_) rfl 28 _ _ rfl rfl rfl ?_ ?_ ?_ ?_ ?_ ?_; rotate_left 2; (· (first | (with_reducible assumption) | (simp (disch := (first | omega | (simp only [World.size_alloc, World.size_setCell, World.size_drew, size_setRow]; done) | (simp only [World.size_alloc, World.size_setCell, World.size_drew, size_setRow]; omega))) only [hq_at, hq_past, hq_drew, hq_drewN, hq_cell, hq_row, hq_same, rowOf_cells, Option.map_some, *]; rfl) | (simp (disch := (first | omega | (simp only [World.size_alloc, World.size_setCell, World.size_drew, size_setRow]; done) | (simp only [World.size_alloc, World.size_setCell, World.size_drew, size_setRow]; omega))) only [hq_at, hq_past, hq_drew, hq_drewN, hq_cell, hq_row, hq_same, rowOf_cells, Option.map_some, *]))); (· kernel_rfl); (· rfl); (· rfl); rotate_left 1; (· (first | (simp (disch := (first | omega | (simp only [World.size_alloc, World.size_setCell, World.size_drew, size_setRow]; done) | (simp only [World.size_alloc, World.size_setCell, World.size_drew, size_setRow]; omega))) only [setRow_at, setRow_past, setRow_drew]; rfl) | rfl)))
  refine (show K _ _ from hK.out _ _ ?_); clear hK K
  obtain ⟨V1, hV1, hE1, hG3⟩ := put_blk hEN hl3 hb3 #[.int .i64 1, .int .i64 0, .string ⟨#[]⟩]
  have h4 := put_off (cs := #[.int .i64 1, .int .i64 0, .string ⟨#[]⟩]) n43 hb4
  have h5 := put_off (cs := #[.int .i64 1, .int .i64 0, .string ⟨#[]⟩]) n53 hb5
  rw [hV1] at h4 h5 ⊢
  obtain ⟨V2, hV2, hE2, hG4⟩ := put_blk hE1 hl4 h4 #[.int .i64 2, .int .i64 0, .string ⟨#[70, 65, 76, 83, 69]⟩]
  have h5' := put_off (cs := #[.int .i64 2, .int .i64 0, .string ⟨#[70, 65, 76, 83, 69]⟩]) n54 h5
  have hG3' := put_off (cs := #[.int .i64 2, .int .i64 0, .string ⟨#[70, 65, 76, 83, 69]⟩]) n34 hG3
  rw [hV2] at h5' hG3' ⊢
  obtain ⟨V3, hV3, hE3, hG5⟩ := put_blk hE2 hl5 h5' #[.int .i64 3, .int .i64 0, .string ⟨#[]⟩]
  have hG3'' := put_off (cs := #[.int .i64 3, .int .i64 0, .string ⟨#[]⟩]) n35 hG3'
  have hG4' := put_off (cs := #[.int .i64 3, .int .i64 0, .string ⟨#[]⟩]) n45 hG4
  rw [hV3] at hG3'' hG4' ⊢
  have b1 := ext_blk (hE3.blk HG2.out)
  have l1 := ext_lt (blk_lt (hE3.blk HG2.out))
  have b3 := ext_blk hG3''
  have l3 := ext_lt (blk_lt hG3'')
  have b4 := ext_blk hG4'
  have l4 := ext_lt (blk_lt hG4')
  have b5 := ext_blk hG5
  have l5 := ext_lt (blk_lt hG5)
  have hEx := Ext.refl V3
  have E13 := HX.out.trans hE3
  have HEF := Lib.hid (HE1.out.trans E13)
  have E13 := Lib.hid E13
  clear hV1 hV2 hV3 hE1 hE2 hE3 hG3 hG4 hG5 hG3' hG3'' hG4' h4 h5 h5' hb3 hb4 hb5 hl3 hl4 hl5 hEN n34 n35 n45 n43 n53 n54 E1 E2 E3 HX HG1 HG2
  have t1 : CallE Tryd.prog V3 22 #[.agg #[.int .i64 3, .int .i64 0, .string ⟨#[]⟩]] (.string ⟨#[70, 65, 76, 83, 69]⟩) := fun w' hE => HSH.out w' (HT1.out.ext (E13.out.trans hE))
  have q1 := fun w => eql_value_self 1 0 ⟨#[]⟩ w
  have q2 := fun w => eql_value_self 2 0 ⟨#[70, 65, 76, 83, 69]⟩ w
  have q3 := fun w => eql_value_self 3 0 ⟨#[]⟩ w
  have q4 : (ByteArray.toList ⟨#[70, 65, 76, 83, 69]⟩ == ByteArray.toList ⟨#[70, 65, 76, 83, 69]⟩) = true := by simp
  have hr := Ext.refl V3
  clear hEx
  have t2 : CallE Tryd.prog V3 15 #[.int .i64 (IntKind.i64.wrap 0)] (.agg #[.int .i64 1, .int .i64 0, .string ⟨#[]⟩]) := fun w' _ => by rw [show IntKind.i64.wrap 0 = 0 by decide]; exact num_v _ w'
  have t3 : CallE Tryd.prog V3 15 #[.int .i64 0] (.agg #[.int .i64 1, .int .i64 0, .string ⟨#[]⟩]) := fun w' _ => num_v _ w'
  go_upto_region 8 with (fail)
  go_wp2_with fail
  refine region_any (by kernel_rfl) (by kernel_rfl) rfl (fun K hK => ?_)
  repeat (first | (refine seqr_skip (by rfl) (fun ρ => by rfl) ?_; (try simp only [Act.put, List.setIfInBounds_toArray, List.set_cons_zero, List.set_cons_succ])) | (refine seqr_pure (v := ?_) (by rfl) (fun ρ => by rfl) (fun ρ w hE hF => ?_) ?_; rotate_left 1; (· ((try simp only [fill, Act.put, List.setIfInBounds_toArray, List.set_cons_zero, List.set_cons_succ]); go_simp; try with_reducible rfl)); (try simp only [Act.put, List.setIfInBounds_toArray, List.set_cons_zero, List.set_cons_succ])) | (refine seqr_call0 (v := ?_) (f := ?_) (args := ?_) (by rfl) (fun ρ => by rfl) (fun ρ w => ?_) (fun w hE => ?_) ?_; rotate_left 3; (· ((try simp only [fill, Act.put, List.setIfInBounds_toArray, List.set_cons_zero, List.set_cons_succ]); go_simp; constructor <;> with_reducible rfl)); (· (with_reducible exact CallE.call (by assumption) hE)); (try simp only [Act.put, List.setIfInBounds_toArray, List.set_cons_zero, List.set_cons_succ])))
  refine seqr_done (fun ρ wN hEN hFN => ?_); (try simp only [fill, Act.put, List.setIfInBounds_toArray, List.set_cons_zero, List.set_cons_succ]); refine (show K _ _ from hK.out _ _ ?_); clear hK K
  have HEG := Lib.hid (HEF.out.trans hEN)
  replace b1 := fun w (h : Ext wN w) => b1 w (Ext.trans hEN h)
  replace b3 := fun w (h : Ext wN w) => b3 w (Ext.trans hEN h)
  replace b4 := fun w (h : Ext wN w) => b4 w (Ext.trans hEN h)
  replace b5 := fun w (h : Ext wN w) => b5 w (Ext.trans hEN h)
  replace l1 := fun w (h : Ext wN w) => l1 w (Ext.trans hEN h)
  replace l3 := fun w (h : Ext wN w) => l3 w (Ext.trans hEN h)
  replace l4 := fun w (h : Ext wN w) => l4 w (Ext.trans hEN h)
  replace l5 := fun w (h : Ext wN w) => l5 w (Ext.trans hEN h)
  replace t1 := CallE.more t1 hEN
  replace t2 := CallE.more t2 hEN
  replace t3 := CallE.more t3 hEN
  clear hr
  have hr := Ext.refl wN
  go_wp2_with fail
  refine region_any (by kernel_rfl) (by kernel_rfl) rfl (fun K hK => ?_)
  repeat (first | (refine seqr_skip (by rfl) (fun ρ => by rfl) ?_; (try simp only [Act.put, List.setIfInBounds_toArray, List.set_cons_zero, List.set_cons_succ])) | (refine seqr_pure (v := ?_) (by rfl) (fun ρ => by rfl) (fun ρ w hE hF => ?_) ?_; rotate_left 1; (· ((try simp only [fill, Act.put, List.setIfInBounds_toArray, List.set_cons_zero, List.set_cons_succ]); go_simp; try with_reducible rfl)); (try simp only [Act.put, List.setIfInBounds_toArray, List.set_cons_zero, List.set_cons_succ])) | (refine seqr_call0 (v := ?_) (f := ?_) (args := ?_) (by rfl) (fun ρ => by rfl) (fun ρ w => ?_) (fun w hE => ?_) ?_; rotate_left 3; (· ((try simp only [fill, Act.put, List.setIfInBounds_toArray, List.set_cons_zero, List.set_cons_succ]); go_simp; constructor <;> with_reducible rfl)); (· (with_reducible exact CallE.call (by assumption) hE)); (try simp only [Act.put, List.setIfInBounds_toArray, List.set_cons_zero, List.set_cons_succ])))
  refine seqr_rel SlB SlB.lasts rfl (by rfl) (fun ρ => by rfl) (fun ρ w hE hF => ?_) ?_
  · refine outcome_value ?_ (below_alloc1 w _) (SlB.new w 9)
    (try simp only [fill, Act.put, List.setIfInBounds_toArray, List.set_cons_zero, List.set_cons_succ])
    go_simp
  (try simp only [Act.put, List.setIfInBounds_toArray, List.set_cons_zero, List.set_cons_succ])
  repeat (first | (refine seqr_skip (by rfl) (fun ρ => by rfl) ?_; (try simp only [Act.put, List.setIfInBounds_toArray, List.set_cons_zero, List.set_cons_succ])) | (refine seqr_pure (v := ?_) (by rfl) (fun ρ => by rfl) (fun ρ w hE hF => ?_) ?_; rotate_left 1; (· ((try simp only [fill, Act.put, List.setIfInBounds_toArray, List.set_cons_zero, List.set_cons_succ]); go_simp; try with_reducible rfl)); (try simp only [Act.put, List.setIfInBounds_toArray, List.set_cons_zero, List.set_cons_succ])) | (refine seqr_call0 (v := ?_) (f := ?_) (args := ?_) (by rfl) (fun ρ => by rfl) (fun ρ w => ?_) (fun w hE => ?_) ?_; rotate_left 3; (· ((try simp only [fill, Act.put, List.setIfInBounds_toArray, List.set_cons_zero, List.set_cons_succ]); go_simp; constructor <;> with_reducible rfl)); (· (with_reducible exact CallE.call (by assumption) hE)); (try simp only [Act.put, List.setIfInBounds_toArray, List.set_cons_zero, List.set_cons_succ])))
  refine seqr_rel (PtB 0 ⟨#[70, 65, 76, 83, 69]⟩) (PtB.lasts _ _) rfl (by rfl) (fun ρ => by rfl) (fun ρ w hE hF => ?_) ?_
  · obtain ⟨g, hg, hc⟩ := hF.get (.head _) (by rfl)
    refine outcome_value (v := .pointer (some ⟨g, 0, none⟩)) ?_ (Ext.refl w) ⟨g, rfl, fun w' hE' => (hc w' hE').1⟩
    (try simp only [fill, Act.put, List.setIfInBounds_toArray, List.set_cons_zero, List.set_cons_succ])
    simp only [hg]
    go_simp
  (try simp only [Act.put, List.setIfInBounds_toArray, List.set_cons_zero, List.set_cons_succ])
  refine seqr_pure (v := .string ⟨#[70, 65, 76, 83, 69]⟩) (by rfl) (fun ρ => by rfl) (fun ρ w hE hF => ?_) ?_
  · obtain ⟨g, hg, hc⟩ := hF.get (.head _) (by rfl)
    have hc := hc w (Ext.refl w)
    (try simp only [fill, Act.put, List.setIfInBounds_toArray, List.set_cons_zero, List.set_cons_succ])
    simp only [hg]
    go_simp
  (try simp only [Act.put, List.setIfInBounds_toArray, List.set_cons_zero, List.set_cons_succ])
  repeat (first | (refine seqr_skip (by rfl) (fun ρ => by rfl) ?_; (try simp only [Act.put, List.setIfInBounds_toArray, List.set_cons_zero, List.set_cons_succ])) | (refine seqr_pure (v := ?_) (by rfl) (fun ρ => by rfl) (fun ρ w hE hF => ?_) ?_; rotate_left 1; (· ((try simp only [fill, Act.put, List.setIfInBounds_toArray, List.set_cons_zero, List.set_cons_succ]); go_simp; try with_reducible rfl)); (try simp only [Act.put, List.setIfInBounds_toArray, List.set_cons_zero, List.set_cons_succ])) | (refine seqr_call0 (v := ?_) (f := ?_) (args := ?_) (by rfl) (fun ρ => by rfl) (fun ρ w => ?_) (fun w hE => ?_) ?_; rotate_left 3; (· ((try simp only [fill, Act.put, List.setIfInBounds_toArray, List.set_cons_zero, List.set_cons_succ]); go_simp; constructor <;> with_reducible rfl)); (· (with_reducible exact CallE.call (by assumption) hE)); (try simp only [Act.put, List.setIfInBounds_toArray, List.set_cons_zero, List.set_cons_succ])))
  refine seqr_done (fun ρ wN hEN hFN => ?_); (try simp only [fill, Act.put, List.setIfInBounds_toArray, List.set_cons_zero, List.set_cons_succ]); refine (show K _ _ from hK.out _ _ ?_); clear hK K
  go_wp2_with fail
  go_ret
  exact ⟨rfl, HEG.out.trans hEN⟩
end Go.Proofs.YtkkfgobdkbcdhaaDoor.valueTurns
