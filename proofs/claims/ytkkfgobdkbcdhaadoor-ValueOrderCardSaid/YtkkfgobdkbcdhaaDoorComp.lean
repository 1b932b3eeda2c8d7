/-
  value: like, rank, Compare: walks. Conditions: each theorem's own.
-/
import Derived.Test.YtkkfgobdkbcdhaaDoorErrsB
import Derived.Test.YtkkfgobdkbcdhaaDoorPut
import Derived.Deep.CutBlock
import Derived.Deep.DeepCutAuto
namespace Go.Proofs.YtkkfgobdkbcdhaaDoor
open Go.RowKit Num
set_option linter.unusedVariables false
set_option linter.unusedSimpArgs false

def likeR (x y : RV) : RV := match x with
  | .blank => match y with
    | .text _ => .text ⟨#[]⟩
    | .bool _ => .bool false
    | _ => .num 0
  | x => x
theorem likeR_of {x y : RV} (h : x.k ≠ 0) : likeR x y = x := by cases x <;> first | rfl | exact absurd rfl h
theorem like_full (k n k' n' : Int) (s s' : ByteArray) (w : World) (hk : (k != 0) = true) :
    Calls Tryd.prog 32 #[.agg #[.int .i64 k, .int .i64 n, .string s], .agg #[.int .i64 k', .int .i64 n', .string s']] w fun e w' => e = .returned (.agg #[.int .i64 k, .int .i64 n, .string s]) ∧ Ext w w' := by
  have hE := Ext.refl w
  go_enter Tryd.func32, Tryd.ntmps32
  go_wp2_with fail
  refine bodyPost_ret (v := (.agg #[.int .i64 k, .int .i64 n, .string s])) (by simp [results, Tryd.results32, go_sem, *]) rfl ⟨rfl, ?_⟩; repeat (first | with_reducible assumption | (with_reducible refine below_set ?_ (by first | omega | (simp only [World.size_alloc]; omega))) | (with_reducible refine below_row ?_ (by first | omega | (simp only [World.size_alloc]; omega))) | (with_reducible refine below_drewN ?_ _) | (with_reducible refine below_drew1 ?_) | (with_reducible refine ext_alloc ?_ _))
theorem like_text (n n' : Int) (s s' : ByteArray) (w : World) :
    Calls Tryd.prog 32 #[.agg #[.int .i64 0, .int .i64 n, .string s], .agg #[.int .i64 2, .int .i64 n', .string s']] w (RetRV (.text ⟨#[]⟩) w) := by
  have hE := Ext.refl w
  have c1 := fun w => text_v ⟨#[]⟩ w
  rw [show textOf ⟨#[]⟩ = .text ⟨#[]⟩ from rfl] at c1
  have C1 := Lib.hid c1
  clear c1
  go_enter Tryd.func32, Tryd.ntmps32
  go_wp2_with fail
  refine (C1.out _).mono ?_
  rintro e w1 ⟨rfl, hE1⟩
  obtain ⟨gc1, gf1⟩ := ecell hE1; have gh1 := bheap hE1; have hz1 := Below.size hE1; simp only [World.size_alloc] at hz1; have hX1 := (ext_dig (ext_dig (ext_dig hE1))); have hl1_0 : w.heap.size < w1.heap.size := (by omega); have hm1_0 : w.heap.size < w1.heap.size + 1 := (by omega); have hn1_0 : w.heap.size < w1.heap.size + 1 + 1 := (by omega); have hl1_1 : w.heap.size + 1 < w1.heap.size := (by omega); have hm1_1 : w.heap.size + 1 < w1.heap.size + 1 := (by omega); have hn1_1 : w.heap.size + 1 < w1.heap.size + 1 + 1 := (by omega); have hl1_2 : w.heap.size + 1 + 1 < w1.heap.size := (by omega); have hm1_2 : w.heap.size + 1 + 1 < w1.heap.size + 1 := (by omega); have hn1_2 : w.heap.size + 1 + 1 < w1.heap.size + 1 + 1 := (by omega)
  unfold RV.val RV.k RV.n RV.s
  go_wp2_with fail
  refine bodyPost_ret (v := (.agg #[.int .i64 2, .int .i64 0, .string ⟨#[]⟩])) (by simp [results, Tryd.results32, go_sem, *]) rfl ⟨rfl, ?_⟩; repeat (first | with_reducible assumption | (with_reducible refine below_set ?_ (by first | omega | (simp only [World.size_alloc]; omega))) | (with_reducible refine below_row ?_ (by first | omega | (simp only [World.size_alloc]; omega))) | (with_reducible refine below_drewN ?_ _) | (with_reducible refine below_drew1 ?_) | (with_reducible refine ext_alloc ?_ _))
theorem like_bool (n n' : Int) (s s' : ByteArray) (w : World) :
    Calls Tryd.prog 32 #[.agg #[.int .i64 0, .int .i64 n, .string s], .agg #[.int .i64 3, .int .i64 n', .string s']] w (RetRV (.bool false) w) := by
  have hE := Ext.refl w
  go_enter Tryd.func32, Tryd.ntmps32
  go_wp2_with fail
  refine (bool_v false _).mono ?_
  rintro e w1 ⟨rfl, hE1⟩
  obtain ⟨gc1, gf1⟩ := ecell hE1; have gh1 := bheap hE1; have hz1 := Below.size hE1; simp only [World.size_alloc] at hz1; have hX1 := (ext_dig (ext_dig (ext_dig hE1))); have hl1_0 : w.heap.size < w1.heap.size := (by omega); have hm1_0 : w.heap.size < w1.heap.size + 1 := (by omega); have hn1_0 : w.heap.size < w1.heap.size + 1 + 1 := (by omega); have hl1_1 : w.heap.size + 1 < w1.heap.size := (by omega); have hm1_1 : w.heap.size + 1 < w1.heap.size + 1 := (by omega); have hn1_1 : w.heap.size + 1 < w1.heap.size + 1 + 1 := (by omega); have hl1_2 : w.heap.size + 1 + 1 < w1.heap.size := (by omega); have hm1_2 : w.heap.size + 1 + 1 < w1.heap.size + 1 := (by omega); have hn1_2 : w.heap.size + 1 + 1 < w1.heap.size + 1 + 1 := (by omega)
  unfold RV.val RV.k RV.n RV.s
  go_wp2_with fail
  refine bodyPost_ret (v := (.agg #[.int .i64 3, .int .i64 0, .string ⟨#[]⟩])) (by simp [results, Tryd.results32, go_sem, *]) rfl ⟨rfl, ?_⟩; repeat (first | with_reducible assumption | (with_reducible refine below_set ?_ (by first | omega | (simp only [World.size_alloc]; omega))) | (with_reducible refine below_row ?_ (by first | omega | (simp only [World.size_alloc]; omega))) | (with_reducible refine below_drewN ?_ _) | (with_reducible refine below_drew1 ?_) | (with_reducible refine ext_alloc ?_ _))
theorem like_num (n k' n' : Int) (s s' : ByteArray) (w : World) (h2 : (k' == 2) = false) (h3 : (k' == 3) = false) :
    Calls Tryd.prog 32 #[.agg #[.int .i64 0, .int .i64 n, .string s], .agg #[.int .i64 k', .int .i64 n', .string s']] w (RetRV (.num 0) w) := by
  have hE := Ext.refl w
  go_enter Tryd.func32, Tryd.ntmps32
  go_wp2_with fail
  refine (num_v 0 _).mono ?_
  rintro e w1 ⟨rfl, hE1⟩
  obtain ⟨gc1, gf1⟩ := ecell hE1; have gh1 := bheap hE1; have hz1 := Below.size hE1; simp only [World.size_alloc] at hz1; have hX1 := (ext_dig (ext_dig (ext_dig hE1))); have hl1_0 : w.heap.size < w1.heap.size := (by omega); have hm1_0 : w.heap.size < w1.heap.size + 1 := (by omega); have hn1_0 : w.heap.size < w1.heap.size + 1 + 1 := (by omega); have hl1_1 : w.heap.size + 1 < w1.heap.size := (by omega); have hm1_1 : w.heap.size + 1 < w1.heap.size + 1 := (by omega); have hn1_1 : w.heap.size + 1 < w1.heap.size + 1 + 1 := (by omega); have hl1_2 : w.heap.size + 1 + 1 < w1.heap.size := (by omega); have hm1_2 : w.heap.size + 1 + 1 < w1.heap.size + 1 := (by omega); have hn1_2 : w.heap.size + 1 + 1 < w1.heap.size + 1 + 1 := (by omega)
  unfold RV.val RV.k RV.n RV.s
  go_wp2_with fail
  refine bodyPost_ret (v := (.agg #[.int .i64 1, .int .i64 0, .string ⟨#[]⟩])) (by simp [results, Tryd.results32, go_sem, *]) rfl ⟨rfl, ?_⟩; repeat (first | with_reducible assumption | (with_reducible refine below_set ?_ (by first | omega | (simp only [World.size_alloc]; omega))) | (with_reducible refine below_row ?_ (by first | omega | (simp only [World.size_alloc]; omega))) | (with_reducible refine below_drewN ?_ _) | (with_reducible refine below_drew1 ?_) | (with_reducible refine ext_alloc ?_ _))
theorem like_v (x y : RV) (w : World) : Calls Tryd.prog 32 #[x.val, y.val] w (RetRV (likeR x y) w) := by
  cases x with
  | blank => cases y with
    | text s => exact like_text _ _ _ _ w
    | bool b => exact like_bool _ _ _ _ w
    | blank => exact like_num _ _ _ _ _ w (by decide) (by decide)
    | num n => exact like_num _ _ _ _ _ w (show ((1 : Int) == 2) = false by decide) (show ((1 : Int) == 3) = false by decide)
    | err n => exact like_num _ _ _ _ _ w (show ((4 : Int) == 2) = false by decide) (show ((4 : Int) == 3) = false by decide)
  | num n => exact like_full 1 n y.k y.n ⟨#[]⟩ y.s w (by decide)
  | text s => exact like_full 2 0 y.k y.n s y.s w (by decide)
  | bool b => exact like_full 3 _ y.k y.n ⟨#[]⟩ y.s w (by decide)
  | err c => exact like_full 4 c y.k y.n ⟨#[]⟩ y.s w (by decide)
theorem rank_v (k n : Int) (s : ByteArray) (w : World) : Calls Tryd.prog 33 #[.agg #[.int .i64 k, .int .i64 n, .string s]] w fun e w' => e = .returned (.int .i64 k) ∧ Ext w w' := by
  go_enter Tryd.func33, Tryd.ntmps33
  go_wp2_with fail
  go_ret
  exact ⟨rfl, below_alloc1 _ _⟩
def cmpK (k n : Int) (s : ByteArray) (k' n' : Int) (s' : ByteArray) : Int :=
  if k = k' then (if k = 2 then Lib.compareBytes s.data.toList s'.data.toList else if n < n' then -1 else if n' < n then 1 else 0) else k - k'
def cmpV (x y : RV) : Int := cmpK (likeR x y).k (likeR x y).n (likeR x y).s (likeR y x).k (likeR y x).n (likeR y x).s
theorem rv_k (x : RV) : 0 ≤ x.k ∧ x.k ≤ 4 := by cases x <;> simp [RV.k]
set_option maxHeartbeats 2000000 in
set_option maxRecDepth 100000 in
theorem compare_v (x y : RV) (w : World) : Calls Tryd.prog 25 #[x.val, y.val] w fun e w' => e = .returned (.int .i64 (cmpV x y)) ∧ Ext w w' := by
  have c1 := fun w => like_v x y w
  have c2 := fun w => like_v y x w
  unfold cmpV
  have hk := rv_k (likeR x y)
  have hk' := rv_k (likeR y x)
  unfold RetRV RV.val at c1 c2
  unfold RV.val
  generalize (likeR x y).k = k at *
  generalize (likeR x y).n = n at *
  generalize (likeR x y).s = s at *
  generalize (likeR y x).k = k' at *
  generalize (likeR y x).n = n' at *
  generalize (likeR y x).s = s' at *
  generalize x.k = xk at *
  generalize x.n = xn at *
  generalize x.s = xs at *
  generalize y.k = yk at *
  generalize y.n = yn at *
  generalize y.s = ys at *
  obtain ⟨W1, hW1, hE1, hG1, hL1, hS1⟩ := new_blk w #[.int .i64 xk, .int .i64 xn, .string xs] 28
  obtain ⟨W2, hW2, hE2, hG2, hL2, hS2⟩ := new_blk W1 #[.int .i64 yk, .int .i64 yn, .string ys] 28
  have hg1 := hE2.blk hG1
  rw [hS1] at hG2
  have HW1 := Lib.hid hW1
  have HW2 := Lib.hid hW2
  have HE := Lib.hid (hE1.trans hE2)
  have HG1 := Lib.hid hg1
  have HG2 := Lib.hid hG2
  have hr := Ext.refl W2
  have b1 := ext_blk hg1
  have b2 := ext_blk hG2
  have l1 := ext_lt (blk_lt hg1)
  have l2 := ext_lt (blk_lt hG2)
  have e1 : CallE Tryd.prog W2 _ _ _ := fun w _ => c1 w
  have e2 : CallE Tryd.prog W2 _ _ _ := fun w _ => c2 w
  clear hW1 hW2 hE1 hE2 hG1 hG2 hg1 hL1 hL2 hS1 hS2 c1 c2
  go_enter Tryd.func25, Tryd.ntmps25
  go_upto_region 1 with (fail)
  rw [HW1.out, HW2.out]
  clear HW1 HW2
  go_wp2_with fail
  refine region_any (by kernel_rfl) (by kernel_rfl) rfl (fun K hK => ?_)
  repeat (first | (refine seqr_skip (by rfl) (fun ρ => by rfl) ?_; (try simp only [Act.put, List.setIfInBounds_toArray, List.set_cons_zero, List.set_cons_succ])) | (refine seqr_pure (v := ?_) (by rfl) (fun ρ => by rfl) (fun ρ w hE hF => ?_) ?_; rotate_left 1; (· ((try simp only [fill, Act.put, List.setIfInBounds_toArray, List.set_cons_zero, List.set_cons_succ]); go_simp; try with_reducible rfl)); (try simp only [Act.put, List.setIfInBounds_toArray, List.set_cons_zero, List.set_cons_succ])) | (refine seqr_call0 (v := ?_) (f := ?_) (args := ?_) (by rfl) (fun ρ => by rfl) (fun ρ w => ?_) (fun w hE => ?_) ?_; rotate_left 3; (· ((try simp only [fill, Act.put, List.setIfInBounds_toArray, List.set_cons_zero, List.set_cons_succ]); go_simp; constructor <;> with_reducible rfl)); (· (with_reducible exact CallE.call (by assumption) hE)); (try simp only [Act.put, List.setIfInBounds_toArray, List.set_cons_zero, List.set_cons_succ])))
  refine seqr_tails (by kernel_rfl) (fun ρ wN hEN hFN hAN => ?_); (try simp only [fill, Act.put, List.setIfInBounds_toArray, List.set_cons_zero, List.set_cons_succ])
  have hx1 := hEN.blk HG1.out
  have hx2 := hEN.blk HG2.out
  clear hFN hAN b1 b2 l1 l2 e1 e2 hr
  go_wp2_with ((with_reducible refine wpl_guard (isStore 28) ?_ ?_); (· rfl); refine wpl_store (t := ?_) (old := ?_) (w' := ?_) rfl 28 _ _ rfl rfl rfl ?_ ?_ ?_ ?_ ?_ ?_; rotate_left 2; (· (first | (with_reducible assumption) | (simp (disch := (first | omega | (simp only [World.size_alloc, World.size_setCell, World.size_drew, size_setRow]; done) | (simp only [World.size_alloc, World.size_setCell, World.size_drew, size_setRow]; omega))) only [hq_at, hq_past, hq_drew, hq_drewN, hq_cell, hq_row, hq_same, rowOf_cells, Option.map_some, *]; rfl) | (simp (disch := (first | omega | (simp only [World.size_alloc, World.size_setCell, World.size_drew, size_setRow]; done) | (simp only [World.size_alloc, World.size_setCell, World.size_drew, size_setRow]; omega))) only [hq_at, hq_past, hq_drew, hq_drewN, hq_cell, hq_row, hq_same, rowOf_cells, Option.map_some, *]))); (· kernel_rfl); (· rfl); (· rfl); rotate_left 1; (· (first | (simp (disch := (first | omega | (simp only [World.size_alloc, World.size_setCell, World.size_drew, size_setRow]; done) | (simp only [World.size_alloc, World.size_setCell, World.size_drew, size_setRow]; omega))) only [setRow_at, setRow_past, setRow_drew]; rfl) | rfl)))
  refine (show K _ _ from hK.out _ _ ?_); clear hK K
  obtain ⟨W3, hW3, hE3, hG3⟩ := put_blk (W := w) (HE.out.trans hEN) (Nat.le_refl _) hx1 #[.int .i64 k, .int .i64 n, .string s]
  have hx3 := put_off (cs := #[.int .i64 k, .int .i64 n, .string s]) (show w.heap.size + 1 ≠ w.heap.size by omega) hx2
  rw [hW3] at hx3 ⊢
  obtain ⟨W4, hW4, hE4, hG4⟩ := put_blk (W := w) hE3 (Nat.le_succ _) hx3 #[.int .i64 k', .int .i64 n', .string s']
  have hG5 := put_off (cs := #[.int .i64 k', .int .i64 n', .string s']) (show w.heap.size ≠ w.heap.size + 1 by omega) hG3
  rw [hW4] at hG5 ⊢
  have b1 := ext_blk hG5
  have b2 := ext_blk hG4
  have hr := Ext.refl W4
  have e3 : CallE Tryd.prog W4 _ _ _ := fun w _ => rank_v k n s w
  have e4 : CallE Tryd.prog W4 _ _ _ := fun w _ => rank_v k' n' s' w
  have HE4 := Lib.hid hE4
  clear hW3 hW4 hE3 hE4 hG3 hG4 hG5 hx1 hx2 hx3 hEN HE HG1 HG2
  by_cases hkk : k = k'
  · subst hkk
    have hq : (k != k) = false := by simp
    by_cases h2 : k = 2
    · subst h2
      have HC : Hid (cmpK 2 n s 2 n' s' = Lib.compareBytes s.data.toList s'.data.toList) := Lib.hid (by unfold cmpK; rw [if_pos rfl, if_pos rfl])
      clear e3 e4
      go_wp2_with fail
      refine (Tryd.strings_Compare s s' _).mono ?_
      rintro e w' ⟨rfl, rfl⟩
      go_wp2_with fail
      go_ret
      exact ⟨by rw [HC.out]; rfl, HE4.out⟩
    · have h2' : (k == 2) = false := by simpa using h2
      clear e3 e4
      by_cases h3 : n < n'
      · have HC : Hid (cmpK k n s k n' s' = -1) := Lib.hid (by unfold cmpK; rw [if_pos rfl, if_neg h2, if_pos h3])
        go_wp2_with fail
        go_ret
        exact ⟨by rw [HC.out]; rfl, HE4.out⟩
      · by_cases h4 : n' < n
        · have HC : Hid (cmpK k n s k n' s' = 1) := Lib.hid (by unfold cmpK; rw [if_pos rfl, if_neg h2, if_neg h3, if_pos h4])
          go_wp2_with fail
          go_ret
          exact ⟨by rw [HC.out]; rfl, HE4.out⟩
        · have HC : Hid (cmpK k n s k n' s' = 0) := Lib.hid (by unfold cmpK; rw [if_pos rfl, if_neg h2, if_neg h3, if_neg h4])
          go_wp2_with fail
          go_ret
          exact ⟨by rw [HC.out]; rfl, HE4.out⟩
  · have hq : (k != k') = true := by simpa using hkk
    have HC : Hid (cmpK k n s k' n' s' = IntKind.i64.wrap (k - k')) := Lib.hid (by unfold cmpK; rw [if_neg hkk]; exact (IntWalk.i64_in _ ⟨by omega, by omega⟩).symm)
    go_wp2_with fail
    refine region_any (by kernel_rfl) (by kernel_rfl) rfl (fun K hK => ?_)
    repeat (first | (refine seqr_skip (by rfl) (fun ρ => by rfl) ?_; (try simp only [Act.put, List.setIfInBounds_toArray, List.set_cons_zero, List.set_cons_succ])) | (refine seqr_pure (v := ?_) (by rfl) (fun ρ => by rfl) (fun ρ w hE hF => ?_) ?_; rotate_left 1; (· ((try simp only [fill, Act.put, List.setIfInBounds_toArray, List.set_cons_zero, List.set_cons_succ]); go_simp; try with_reducible rfl)); (try simp only [Act.put, List.setIfInBounds_toArray, List.set_cons_zero, List.set_cons_succ])) | (refine seqr_call0 (v := ?_) (f := ?_) (args := ?_) (by rfl) (fun ρ => by rfl) (fun ρ w => ?_) (fun w hE => ?_) ?_; rotate_left 3; (· ((try simp only [fill, Act.put, List.setIfInBounds_toArray, List.set_cons_zero, List.set_cons_succ]); go_simp; constructor <;> with_reducible rfl)); (· (with_reducible exact CallE.call (by assumption) hE)); (try simp only [Act.put, List.setIfInBounds_toArray, List.set_cons_zero, List.set_cons_succ])))
    refine seqr_done (fun ρ wN hEN hFN => ?_); (try simp only [fill, Act.put, List.setIfInBounds_toArray, List.set_cons_zero, List.set_cons_succ]); refine (show K _ _ from hK.out _ _ ?_); clear hK K
    go_wp2_with fail
    go_ret
    exact ⟨by rw [HC.out]; rfl, HE4.out.trans hEN⟩
end Go.Proofs.YtkkfgobdkbcdhaaDoor
