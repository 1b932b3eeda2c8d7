/-
  ValueMade: walk. Conditions: the arguments' own.
-/
import Derived.Test.YtkkfgobdkbcdhaaDoorComp
import Derived.Test.YtkkfgobdkbcdhaaDoorTurns
import Derived.Test.YtkkfgobdkbcdhaaDoorArgU
import Derived.BigQuiet
namespace Go.Proofs.YtkkfgobdkbcdhaaDoor.valueMade
open Go.RowKit Num
set_option linter.unusedVariables false
set_option linter.unusedSimpArgs false

theorem apt_ne {D : List Tmp} {W w : World} {a : Act} (h : Apt D W a w) {d d' : Tmp} {g g' : Nat} (hd : d ∈ D) (hd' : d' ∈ D) (hne : d ≠ d') (hl : W.heap.size ≤ g) (h1 : rd a d = .pointer (some ⟨g, 0, none⟩)) (h2 : rd a d' = .pointer (some ⟨g', 0, none⟩)) : g ≠ g' := by
  rintro rfl; exact h.2 d hd d' hd' hne g hl h1 h2
theorem rv_s {x : RV} (h : x.ok) : x.s.size ≤ 64 := by cases x <;> first | exact h | exact (show (0 : Nat) ≤ 64 by decide)
set_option maxHeartbeats 4000000 in
set_option maxRecDepth 100000 in
theorem walk0 (x : RV) (w : World) (h : x.ok) (ht : Tab w) :
    Calls Tryd.prog 6 #[.agg #[.int .i64 x.k, .int .i64 x.n, .string x.s]] w fun e w' => e = .returned (.bool true) ∧ Ext w w' := by
  obtain ⟨⟨k1, k2, k3⟩, ⟨m1, m2, m3⟩, hnk, hbk⟩ := made_fact x h
  have HS := Lib.hid (rv_s h)
  have HR := Lib.hid (fun w => right_v x w h)
  have c1 := Lib.hid (fun w => tonum_v x w h)
  have c2 := Lib.hid (fun w (ht : Tab w) => totext_v x w h ht)
  have c3 := Lib.hid (fun w => tobool_v x w h)
  have d1 := Lib.hid (fun w => right_v (toNum x) w k1)
  have d2 := Lib.hid (fun w => right_v (toText x) w k2)
  have d3 := Lib.hid (fun w => right_v (toBool x) w k3)
  have a1 := fun w => tonum_v (toNum x) w k1
  have a2 := fun w (ht : Tab w) => totext_v (toText x) w k2 ht
  have a3 := fun w => tobool_v (toBool x) w k3
  rw [m1] at a1
  rw [m2] at a2
  rw [m3] at a3
  have a1 := Lib.hid a1
  have a2 := Lib.hid a2
  have a3 := Lib.hid a3
  clear k1 k2 k3 m1 m2 m3 h
  unfold RetRV RV.val at *
  generalize (toNum x).k = nk at *
  generalize (toNum x).n = nn at *
  generalize (toNum x).s = ns at *
  generalize (toText x).k = sk at *
  generalize (toText x).n = sn at *
  generalize (toText x).s = ss at *
  generalize (toBool x).k = bk at *
  generalize (toBool x).n = bn at *
  generalize (toBool x).s = bs at *
  generalize x.k = k at *
  generalize x.n = n at *
  generalize x.s = s at *
  obtain ⟨W1, hW1, hE1, hG1, hL1, hS1⟩ := new_blk w #[.int .i64 k, .int .i64 n, .string s] 28
  have hT1 : Tab W1 := by rw [← hW1]; exact ht.alloc _
  have b1 := ext_blk hG1
  have l1 := ext_lt (blk_lt hG1)
  have HW1 := Lib.hid hW1
  have HE1 := Lib.hid hE1
  have HG1 := Lib.hid hG1
  have HT1 := Lib.hid hT1
  have HT := Lib.hid ht
  have f1 : CallE Tryd.prog W1 9 #[] (.bool true) := fun w' hE => fit_v w' (HT1.out.ext hE)
  have f2 : CallE Tryd.prog W1 12 #[.agg #[.int .i64 k, .int .i64 n, .string s]] (.bool true) := fun w' hE => by
    have := light_any k n s w' (by have := HS.out; omega)
    rwa [show decide ((s.size : Int) ≤ 300) = true from decide_eq_true (by have := HS.out; omega)] at this
  have f3 : CallE Tryd.prog W1 14 #[.agg #[.int .i64 k, .int .i64 n, .string s]] (.bool true) := fun w' hE => HR.out w'
  have hr1 := Ext.refl W1
  have E1 : CallE Tryd.prog W1 19 #[.agg #[.int .i64 k, .int .i64 n, .string s]] (.agg #[.int .i64 nk, .int .i64 nn, .string ns]) := fun w' _ => c1.out w'
  have E2 : CallE Tryd.prog W1 20 #[.agg #[.int .i64 k, .int .i64 n, .string s]] (.agg #[.int .i64 sk, .int .i64 sn, .string ss]) := fun w' hE => c2.out w' (HT1.out.ext hE)
  have E3 : CallE Tryd.prog W1 21 #[.agg #[.int .i64 k, .int .i64 n, .string s]] (.agg #[.int .i64 bk, .int .i64 bn, .string bs]) := fun w' _ => c3.out w'
  clear hW1 hE1 hG1 hL1 hS1 hT1 ht
  go_enter Tryd.func6, Tryd.ntmps6
  go_wp2_with fail
  rw [HW1.out]
  clear HW1
  go_upto_region 5 with (first | ((with_reducible refine (CallE.at_ (by assumption) (by assumption)).mono ?_); rintro e w' ⟨rfl, hEx⟩))
  have hx := hEx
  have HX := Lib.hid hx
  have HG2 := Lib.hid (hx.blk HG1.out)
  have b1 := ext_blk HG2.out
  have l1 := ext_lt (blk_lt HG2.out)
  have e1 := E1.more hx
  have e2 := E2.more hx
  have e3 := E3.more hx
  clear f1 f2 f3 hx
  go_wp2_with fail
  refine region_own [3, 4, 5] (by intro d hd; simp only [List.mem_cons, List.not_mem_nil, or_false] at hd; rcases hd with rfl | rfl | rfl <;> rfl) (by kernel_rfl) (by kernel_rfl) rfl (fun K hK => ?_)
  repeat (first | (refine seqr_skip (by rfl) (fun ρ => by rfl) ?_; (try simp only [Act.put, List.setIfInBounds_toArray, List.set_cons_zero, List.set_cons_succ])) | (refine seqr_pure (v := ?_) (by rfl) (fun ρ => by rfl) (fun ρ w hE hF => ?_) ?_; rotate_left 1; (· ((try simp only [fill, Act.put, List.setIfInBounds_toArray, List.set_cons_zero, List.set_cons_succ]); go_simp; try with_reducible rfl)); (try simp only [Act.put, List.setIfInBounds_toArray, List.set_cons_zero, List.set_cons_succ])) | (refine seqr_call0 (v := ?_) (f := ?_) (args := ?_) (by rfl) (fun ρ => by rfl) (fun ρ w => ?_) (fun w hE => ?_) ?_; rotate_left 3; (· ((try simp only [fill, Act.put, List.setIfInBounds_toArray, List.set_cons_zero, List.set_cons_succ]); go_simp; constructor <;> with_reducible rfl)); (· (with_reducible exact CallE.call (by assumption) hE)); (try simp only [Act.put, List.setIfInBounds_toArray, List.set_cons_zero, List.set_cons_succ])))
  (refine seqr_own 28 (#[.int .i64 0, .int .i64 0, .string ⟨#[]⟩]) rfl (by decide) (by rfl) (fun ρ => by rfl) (fun ρ w hE hF => ?_) ?_; (· ((try simp only [fill, Act.put, List.setIfInBounds_toArray, List.set_cons_zero, List.set_cons_succ]); go_simp; try rfl)); (try simp only [Act.put, List.setIfInBounds_toArray, List.set_cons_zero, List.set_cons_succ]))
  (refine seqr_own 28 (#[.int .i64 0, .int .i64 0, .string ⟨#[]⟩]) rfl (by decide) (by rfl) (fun ρ => by rfl) (fun ρ w hE hF => ?_) ?_; (· ((try simp only [fill, Act.put, List.setIfInBounds_toArray, List.set_cons_zero, List.set_cons_succ]); go_simp; try rfl)); (try simp only [Act.put, List.setIfInBounds_toArray, List.set_cons_zero, List.set_cons_succ]))
  (refine seqr_own 28 (#[.int .i64 0, .int .i64 0, .string ⟨#[]⟩]) rfl (by decide) (by rfl) (fun ρ => by rfl) (fun ρ w hE hF => ?_) ?_; (· ((try simp only [fill, Act.put, List.setIfInBounds_toArray, List.set_cons_zero, List.set_cons_succ]); go_simp; try rfl)); (try simp only [Act.put, List.setIfInBounds_toArray, List.set_cons_zero, List.set_cons_succ]))
  refine seqr_tails (by kernel_rfl) (fun ρ wN hEN hFN hAN => ?_); (try simp only [fill, Act.put, List.setIfInBounds_toArray, List.set_cons_zero, List.set_cons_succ])
  obtain ⟨g3, hp3, hl3, hb3⟩ := hFN _ (.tail _ (.tail _ (.head _)))
  obtain ⟨g4, hp4, hl4, hb4⟩ := hFN _ (.tail _ (.head _))
  obtain ⟨g5, hp5, hl5, hb5⟩ := hFN _ (.head _)
  simp only at hp3 hp4 hp5
  have n34 : g3 ≠ g4 := apt_ne hAN (d := 3) (d' := 4) (by simp) (by simp) (by decide) hl3 hp3 hp4
  have n35 : g3 ≠ g5 := apt_ne hAN (d := 3) (d' := 5) (by simp) (by simp) (by decide) hl3 hp3 hp5
  have n45 : g4 ≠ g5 := apt_ne hAN (d := 4) (d' := 5) (by simp) (by simp) (by decide) hl4 hp4 hp5
  have n43 := n34.symm
  have n53 := n35.symm
  have n54 := n45.symm
  rw [hp3, hp4, hp5]
  clear hp3 hp4 hp5 hFN hAN e1 e2 e3 b1 l1
  go_wp2_with ((with_reducible refine wpl_guard (isStore 28) ?_ ?_); (· rfl); refine wpl_store (t := ?_) (old := ?_) (w' := ?_) rfl 28 _ _ rfl rfl rfl ?_ ?_ ?_ ?_ ?_ ?_; rotate_left 2; (· (first | (with_reducible assumption) | (simp (disch := (first | omega | (simp only [World.size_alloc, World.size_setCell, World.size_drew, size_setRow]; done) | (simp only [World.size_alloc, World.size_setCell, World.size_drew, size_setRow]; omega))) only [hq_at, hq_past, hq_drew, hq_drewN, hq_cell, hq_row, hq_same, rowOf_cells, Option.map_some, *]; rfl) | (simp (disch := (first | omega | (simp only [World.size_alloc, World.size_setCell, World.size_drew, size_setRow]; done) | (simp only [World.size_alloc, World.size_setCell, World.size_drew, size_setRow]; omega))) only [hq_at, hq_past, hq_drew, hq_drewN, hq_cell, hq_row, hq_same, rowOf_cells, Option.map_some, *]))); (· kernel_rfl); (· rfl); (· rfl); rotate_left 1; (· (first | (simp (disch := (first | omega | (simp only [World.size_alloc, World.size_setCell, World.size_drew, size_setRow]; done) | (simp only [World.size_alloc, World.size_setCell, World.size_drew, size_setRow]; omega))) only [setRow_at, setRow_past, setRow_drew]; rfl) | rfl)))
  refine (show K _ _ from hK.out _ _ ?_); clear hK K
  obtain ⟨V1, hV1, hE1, hG3⟩ := put_blk hEN hl3 hb3 #[.int .i64 nk, .int .i64 nn, .string ns]
  have h4 := put_off (cs := #[.int .i64 nk, .int .i64 nn, .string ns]) n43 hb4
  have h5 := put_off (cs := #[.int .i64 nk, .int .i64 nn, .string ns]) n53 hb5
  rw [hV1] at h4 h5 ⊢
  obtain ⟨V2, hV2, hE2, hG4⟩ := put_blk hE1 hl4 h4 #[.int .i64 sk, .int .i64 sn, .string ss]
  have h5' := put_off (cs := #[.int .i64 sk, .int .i64 sn, .string ss]) n54 h5
  have hG3' := put_off (cs := #[.int .i64 sk, .int .i64 sn, .string ss]) n34 hG3
  rw [hV2] at h5' hG3' ⊢
  obtain ⟨V3, hV3, hE3, hG5⟩ := put_blk hE2 hl5 h5' #[.int .i64 bk, .int .i64 bn, .string bs]
  have hG3'' := put_off (cs := #[.int .i64 bk, .int .i64 bn, .string bs]) n35 hG3'
  have hG4' := put_off (cs := #[.int .i64 bk, .int .i64 bn, .string bs]) n45 hG4
  rw [hV3] at hG3'' hG4' ⊢
  have b1 := ext_blk (hE3.blk HG2.out)
  have l1 := ext_lt (blk_lt (hE3.blk HG2.out))
  have b3 := ext_blk hG3''
  have l3 := ext_lt (blk_lt hG3'')
  have b4 := ext_blk hG4'
  have l4 := ext_lt (blk_lt hG4')
  have b5 := ext_blk hG5
  have l5 := ext_lt (blk_lt hG5)
  have hEx := Ext.refl V3
  have E13 := HX.out.trans hE3
  have HEF := Lib.hid (HE1.out.trans E13)
  have E13 := Lib.hid E13
  clear hV1 hV2 hV3 hE1 hE2 hE3 hG3 hG4 hG5 hG3' hG3'' hG4' h4 h5 h5' hb3 hb4 hb5 hl3 hl4 hl5 hEN n34 n35 n45 n43 n53 n54 E1 E2 E3 HX HG1 HG2
  have e1 : CallE Tryd.prog V3 14 #[.agg #[.int .i64 nk, .int .i64 nn, .string ns]] (.bool true) := fun w' _ => d1.out w'
  have e2 : CallE Tryd.prog V3 14 #[.agg #[.int .i64 sk, .int .i64 sn, .string ss]] (.bool true) := fun w' _ => d2.out w'
  have e3 : CallE Tryd.prog V3 14 #[.agg #[.int .i64 bk, .int .i64 bn, .string bs]] (.bool true) := fun w' _ => d3.out w'
  have e4 : CallE Tryd.prog V3 19 #[.agg #[.int .i64 nk, .int .i64 nn, .string ns]] (.agg #[.int .i64 nk, .int .i64 nn, .string ns]) := fun w' _ => a1.out w'
  have e5 : CallE Tryd.prog V3 20 #[.agg #[.int .i64 sk, .int .i64 sn, .string ss]] (.agg #[.int .i64 sk, .int .i64 sn, .string ss]) := fun w' hE => a2.out w' (HT1.out.ext (E13.out.trans hE))
  have e6 : CallE Tryd.prog V3 21 #[.agg #[.int .i64 bk, .int .i64 bn, .string bs]] (.agg #[.int .i64 bk, .int .i64 bn, .string bs]) := fun w' _ => a3.out w'
  have q1 := fun w => eql_value_self nk nn ns w
  have q2 := fun w => eql_value_self sk sn ss w
  have q3 := fun w => eql_value_self bk bn bs w
  have hr := Ext.refl V3
  clear hEx
  rcases hnk with rfl | rfl <;> rcases hbk with rfl | rfl
  all_goals
    go_wp2_with fail
    refine region_any (by kernel_rfl) (by kernel_rfl) rfl (fun K hK => ?_)
    repeat (first | (refine seqr_skip (by rfl) (fun ρ => by rfl) ?_; (try simp only [Act.put, List.setIfInBounds_toArray, List.set_cons_zero, List.set_cons_succ])) | (refine seqr_pure (v := ?_) (by rfl) (fun ρ => by rfl) (fun ρ w hE hF => ?_) ?_; rotate_left 1; (· ((try simp only [fill, Act.put, List.setIfInBounds_toArray, List.set_cons_zero, List.set_cons_succ]); go_simp; try with_reducible rfl)); (try simp only [Act.put, List.setIfInBounds_toArray, List.set_cons_zero, List.set_cons_succ])) | (refine seqr_call0 (v := ?_) (f := ?_) (args := ?_) (by rfl) (fun ρ => by rfl) (fun ρ w => ?_) (fun w hE => ?_) ?_; rotate_left 3; (· ((try simp only [fill, Act.put, List.setIfInBounds_toArray, List.set_cons_zero, List.set_cons_succ]); go_simp; constructor <;> with_reducible rfl)); (· (with_reducible exact CallE.call (by assumption) hE)); (try simp only [Act.put, List.setIfInBounds_toArray, List.set_cons_zero, List.set_cons_succ])))
    refine seqr_done (fun ρ wN hEN hFN => ?_); (try simp only [fill, Act.put, List.setIfInBounds_toArray, List.set_cons_zero, List.set_cons_succ]); refine (show K _ _ from hK.out _ _ ?_); clear hK K
    go_wp2_with fail
    go_ret
    exact ⟨rfl, HEF.out.trans hEN⟩
set_option maxHeartbeats 1000000 in
/-- What is too long, or may not be, is passed over. -/
theorem over1 (k n : Int) (s : ByteArray) (w : World) (ht : Tab w) (hs : s.size ≤ 9223372036854775807) (hn : -9223372036854775808 ≤ n ∧ n ≤ 9223372036854775807) (hc : 300 < (s.size : Int) ∨ vr k n s = false) :
    Calls Tryd.prog 6 #[.agg #[.int .i64 k, .int .i64 n, .string s]] w fun e w' => e = .returned (.bool true) ∧ Ext w w' := by
  have HT := Lib.hid ht
  have HL := Lib.hid (fun w => light_any k n s w hs)
  have c2 := fun w => vright_any k n s w hn
  generalize vr k n s = u at *
  have HR := Lib.hid c2
  have key : decide ((s.size : Int) ≤ 300) = false ∨ (decide ((s.size : Int) ≤ 300) = true ∧ u = false) := by
    by_cases h : (s.size : Int) ≤ 300
    · rcases hc with h' | h'
      · omega
      · exact .inr ⟨decide_eq_true h, h'⟩
    · exact .inl (decide_eq_false h)
  clear hc ht c2
  rcases key with h1 | ⟨h1, rfl⟩
  · go_enter Tryd.func6, Tryd.ntmps6
    go_wp2_with fail
    refine (fit_v _ (HT.out.alloc _)).mono ?_
    rintro e w1 ⟨rfl, hE1⟩
    obtain ⟨gc1, gf1⟩ := ecell hE1; have gh1 := bheap hE1; have hz1 := Below.size hE1; simp only [World.size_alloc] at hz1; have hX1 := (ext_dig hE1); have hl1_0 : w.heap.size < w1.heap.size := (by omega); have hm1_0 : w.heap.size < w1.heap.size + 1 := (by omega); have hn1_0 : w.heap.size < w1.heap.size + 1 + 1 := (by omega)
    go_wp2_with fail
    refine (HL.out _).mono ?_
    rintro e w2 ⟨rfl, hE2⟩
    go_wp2_with fail
    go_ret
    exact ⟨rfl, hX1.trans hE2⟩
  · go_enter Tryd.func6, Tryd.ntmps6
    go_wp2_with fail
    refine (fit_v _ (HT.out.alloc _)).mono ?_
    rintro e w1 ⟨rfl, hE1⟩
    obtain ⟨gc1, gf1⟩ := ecell hE1; have gh1 := bheap hE1; have hz1 := Below.size hE1; simp only [World.size_alloc] at hz1; have hX1 := (ext_dig hE1); have hl1_0 : w.heap.size < w1.heap.size := (by omega); have hm1_0 : w.heap.size < w1.heap.size + 1 := (by omega); have hn1_0 : w.heap.size < w1.heap.size + 1 + 1 := (by omega)
    go_wp2_with fail
    refine (HL.out _).mono ?_
    rintro e w2 ⟨rfl, hE2⟩
    have hE3 := Ext.trans hE1 hE2
    clear hE1 hE2 gc1 gf1 gh1 hz1 hX1 hl1_0 hm1_0 hn1_0
    obtain ⟨gc3, gf3⟩ := ecell hE3; have gh3 := bheap hE3; have hz3 := Below.size hE3; simp only [World.size_alloc] at hz3; have hX3 := (ext_dig hE3); have hl3_0 : w.heap.size < w2.heap.size := (by omega); have hm3_0 : w.heap.size < w2.heap.size + 1 := (by omega); have hn3_0 : w.heap.size < w2.heap.size + 1 + 1 := (by omega)
    go_wp2_with fail
    refine (HR.out _).mono ?_
    rintro e w3 ⟨rfl, hE4⟩
    go_wp2_with fail
    go_ret
    exact ⟨rfl, hX3.trans hE4⟩
theorem walk (x : Vl) (w : World) (wx : VW x) (ht : Tab w) :
    Calls Tryd.prog 6 #[.agg #[.int .i64 x.k, .int .i64 x.n, .string x.s]] w fun e w' => e = .returned (.bool true) ∧ Below w.heap.size w w' := by
  by_cases hc : 300 < (x.s.size : Int) ∨ vr x.k x.n x.s = false
  · exact over1 x.k x.n x.s w ht wx.2.2 wx.2.1 hc
  · have hv : vr x.k x.n x.s = true := by
      cases h : vr x.k x.n x.s with
      | true => rfl
      | false => exact absurd (.inr h) hc
    obtain ⟨y, hy, e1, e2, e3⟩ := rv_of hv wx.2.1
    rw [← e1, ← e2, ← e3]
    exact walk0 y w hy ht
end Go.Proofs.YtkkfgobdkbcdhaaDoor.valueMade
