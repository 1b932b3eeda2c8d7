/-
  value: ToText, ToBool; the law's fit, light: walks. Conditions: each theorem's own.
-/
import Derived.Test.YtkkfgobdkbcdhaaDoorValueX
namespace Go.Proofs.YtkkfgobdkbcdhaaDoor
open Go.RowKit Num
set_option linter.unusedVariables false
set_option linter.unusedSimpArgs false

theorem bytes_ne {s t : ByteArray} (h : s ≠ t) : ¬ s.toList = t.data.toList := by
  rw [Lib.toList_data]
  intro e
  apply h
  cases s; cases t
  congr 1
  exact Array.toList_inj.1 e
theorem textOf_cases (s : ByteArray) : textOf s = .text s ∨ textOf s = .err 2 := by
  unfold textOf; split
  · exact .inl rfl
  · exact .inr rfl
theorem totext_core (x : RV) (k n : Int) (t : ByteArray) (w : World) (hv : x.val = .agg #[.int .i64 k, .int .i64 n, .string t]) (hk : (k == 4) = false) (h : x.ok) (ht : Tab w) :
    Calls Tryd.prog 20 #[x.val] w (RetRV (textOf (showB x)) w) := by
  have hsh := fun w (ht : Tab w) => show_v x w h ht
  rw [hv] at hsh ⊢
  have hte := fun w => text_v (showB x) w
  have ht' := (ht.alloc (.cells #[.int .i64 k, .int .i64 n, .string t] 28)).alloc (.cells #[.int .i64 0, .int .i64 0, .string ⟨#[]⟩] 28)
  have HSH := Lib.hid hsh
  have HT := Lib.hid ht'
  obtain ⟨k', n', t', hr⟩ : ∃ k' n' t', (textOf (showB x)).val = .agg #[.int .i64 k', .int .i64 n', .string t'] := ⟨_, _, _, rfl⟩
  unfold RetRV
  unfold RetRV at hte
  rw [hr] at hte ⊢
  have HTE := Lib.hid hte
  clear hsh hte hv ht ht' h hr
  go_enter Tryd.func20, Tryd.ntmps20
  go_wp2_with fail
  refine (HSH.out _ HT.out).mono ?_
  rintro e w1 ⟨rfl, hE1⟩
  go_wp2_with fail
  refine (HTE.out _).mono ?_
  rintro e w2 ⟨rfl, hE2⟩
  have hE3 := Ext.trans hE1 hE2
  obtain ⟨gc3, gf3⟩ := ecell hE3; have gh3 := bheap hE3; have hz3 := Below.size hE3; simp only [World.size_alloc] at hz3; have hX3 := (ext_dig (ext_dig hE3)); have hl3_0 : w.heap.size < w2.heap.size := (by omega); have hm3_0 : w.heap.size < w2.heap.size + 1 := (by omega); have hn3_0 : w.heap.size < w2.heap.size + 1 + 1 := (by omega); have hl3_1 : w.heap.size + 1 < w2.heap.size := (by omega); have hm3_1 : w.heap.size + 1 < w2.heap.size + 1 := (by omega); have hn3_1 : w.heap.size + 1 < w2.heap.size + 1 + 1 := (by omega)
  go_wp2_with fail
  refine bodyPost_ret (v := (.agg #[.int .i64 k', .int .i64 n', .string t'])) (by simp [results, Tryd.results20, go_sem, *]) rfl ⟨rfl, ?_⟩; repeat (first | with_reducible assumption | (with_reducible refine below_set ?_ (by first | omega | (simp only [World.size_alloc]; omega))) | (with_reducible refine below_row ?_ (by first | omega | (simp only [World.size_alloc]; omega))) | (with_reducible refine below_drewN ?_ _) | (with_reducible refine below_drew1 ?_) | (with_reducible refine ext_alloc ?_ _))
theorem totext_v (x : RV) (w : World) (h : x.ok) (ht : Tab w) : Calls Tryd.prog 20 #[x.val] w (RetRV (toText x) w) := by
  cases x with
  | blank => exact totext_core _ 0 0 ⟨#[]⟩ w rfl rfl h ht
  | num n => exact totext_core _ 1 n ⟨#[]⟩ w rfl rfl h ht
  | text s => exact totext_core _ 2 0 s w rfl rfl h ht
  | bool b => exact totext_core _ 3 (if b then 1 else 0) ⟨#[]⟩ w rfl rfl h ht
  | err c =>
    have hE := Ext.refl w
    change Calls _ _ #[.agg #[.int .i64 4, .int .i64 c, .string ⟨#[]⟩]] w _
    go_enter Tryd.func20, Tryd.ntmps20
    go_wp2_with fail
    refine bodyPost_ret (v := (.agg #[.int .i64 4, .int .i64 c, .string ⟨#[]⟩])) (by simp [results, Tryd.results20, go_sem, *]) rfl ⟨rfl, ?_⟩; repeat (first | with_reducible assumption | (with_reducible refine below_set ?_ (by first | omega | (simp only [World.size_alloc]; omega))) | (with_reducible refine below_row ?_ (by first | omega | (simp only [World.size_alloc]; omega))) | (with_reducible refine below_drewN ?_ _) | (with_reducible refine below_drew1 ?_) | (with_reducible refine ext_alloc ?_ _))
theorem tobool_v (x : RV) (w : World) (h : x.ok) : Calls Tryd.prog 21 #[x.val] w (RetRV (toBool x) w) := by
  have hE := Ext.refl w
  cases x with
  | blank =>
    change Calls _ _ #[.agg #[.int .i64 0, .int .i64 0, .string ⟨#[]⟩]] w _
    go_enter Tryd.func21, Tryd.ntmps21
    go_wp2_with fail
    refine (bool_v _ _).mono ?_
    rintro e w1 ⟨rfl, hE1⟩
    obtain ⟨gc1, gf1⟩ := ecell hE1; have gh1 := bheap hE1; have hz1 := Below.size hE1; simp only [World.size_alloc] at hz1; have hX1 := (ext_dig (ext_dig hE1)); have hl1_0 : w.heap.size < w1.heap.size := (by omega); have hm1_0 : w.heap.size < w1.heap.size + 1 := (by omega); have hn1_0 : w.heap.size < w1.heap.size + 1 + 1 := (by omega); have hl1_1 : w.heap.size + 1 < w1.heap.size := (by omega); have hm1_1 : w.heap.size + 1 < w1.heap.size + 1 := (by omega); have hn1_1 : w.heap.size + 1 < w1.heap.size + 1 + 1 := (by omega)
    unfold RV.val RV.k RV.n RV.s
    go_wp2_with fail
    refine bodyPost_ret (v := (.agg #[.int .i64 3, .int .i64 0, .string ⟨#[]⟩])) (by simp [results, Tryd.results21, go_sem, *]) rfl ⟨rfl, ?_⟩; repeat (first | with_reducible assumption | (with_reducible refine below_set ?_ (by first | omega | (simp only [World.size_alloc]; omega))) | (with_reducible refine below_row ?_ (by first | omega | (simp only [World.size_alloc]; omega))) | (with_reducible refine below_drewN ?_ _) | (with_reducible refine below_drew1 ?_) | (with_reducible refine ext_alloc ?_ _))
  | num n =>
    have hn : n = 0 ∨ n ≠ 0 := by omega
    rcases hn with rfl | hn
    · change Calls _ _ #[.agg #[.int .i64 1, .int .i64 0, .string ⟨#[]⟩]] w _
      go_enter Tryd.func21, Tryd.ntmps21
      go_wp2_with fail
      refine (bool_v _ _).mono ?_
      rintro e w1 ⟨rfl, hE1⟩
      obtain ⟨gc1, gf1⟩ := ecell hE1; have gh1 := bheap hE1; have hz1 := Below.size hE1; simp only [World.size_alloc] at hz1; have hX1 := (ext_dig (ext_dig hE1)); have hl1_0 : w.heap.size < w1.heap.size := (by omega); have hm1_0 : w.heap.size < w1.heap.size + 1 := (by omega); have hn1_0 : w.heap.size < w1.heap.size + 1 + 1 := (by omega); have hl1_1 : w.heap.size + 1 < w1.heap.size := (by omega); have hm1_1 : w.heap.size + 1 < w1.heap.size + 1 := (by omega); have hn1_1 : w.heap.size + 1 < w1.heap.size + 1 + 1 := (by omega)
      unfold RV.val RV.k RV.n RV.s
      go_wp2_with fail
      refine bodyPost_ret (v := (.agg #[.int .i64 3, .int .i64 0, .string ⟨#[]⟩])) (by simp [results, Tryd.results21, go_sem, *]) rfl ⟨rfl, ?_⟩; repeat (first | with_reducible assumption | (with_reducible refine below_set ?_ (by first | omega | (simp only [World.size_alloc]; omega))) | (with_reducible refine below_row ?_ (by first | omega | (simp only [World.size_alloc]; omega))) | (with_reducible refine below_drewN ?_ _) | (with_reducible refine below_drew1 ?_) | (with_reducible refine ext_alloc ?_ _))
    · have hb : (n != 0) = true := by simpa using hn
      have hv : toBool (.num n) = .bool true := by show RV.bool (n != 0) = _; rw [hb]
      rw [hv]
      clear hv hn
      change Calls _ _ #[.agg #[.int .i64 1, .int .i64 n, .string ⟨#[]⟩]] w _
      go_enter Tryd.func21, Tryd.ntmps21
      go_wp2_with fail
      refine (bool_v _ _).mono ?_
      rintro e w1 ⟨rfl, hE1⟩
      obtain ⟨gc1, gf1⟩ := ecell hE1; have gh1 := bheap hE1; have hz1 := Below.size hE1; simp only [World.size_alloc] at hz1; have hX1 := (ext_dig (ext_dig hE1)); have hl1_0 : w.heap.size < w1.heap.size := (by omega); have hm1_0 : w.heap.size < w1.heap.size + 1 := (by omega); have hn1_0 : w.heap.size < w1.heap.size + 1 + 1 := (by omega); have hl1_1 : w.heap.size + 1 < w1.heap.size := (by omega); have hm1_1 : w.heap.size + 1 < w1.heap.size + 1 := (by omega); have hn1_1 : w.heap.size + 1 < w1.heap.size + 1 + 1 := (by omega)
      unfold RV.val RV.k RV.n RV.s
      go_wp2_with fail
      refine bodyPost_ret (v := (.agg #[.int .i64 3, .int .i64 1, .string ⟨#[]⟩])) (by simp [results, Tryd.results21, go_sem, *]) rfl ⟨rfl, ?_⟩; repeat (first | with_reducible assumption | (with_reducible refine below_set ?_ (by first | omega | (simp only [World.size_alloc]; omega))) | (with_reducible refine below_row ?_ (by first | omega | (simp only [World.size_alloc]; omega))) | (with_reducible refine below_drewN ?_ _) | (with_reducible refine below_drew1 ?_) | (with_reducible refine ext_alloc ?_ _))
  | bool b =>
    change Calls _ _ #[.agg #[.int .i64 3, .int .i64 (if b then 1 else 0), .string ⟨#[]⟩]] w _
    obtain ⟨z, hz⟩ : ∃ z : Int, (if b then 1 else 0) = z := ⟨_, rfl⟩
    have hv : (RV.bool b).val = .agg #[.int .i64 3, .int .i64 z, .string ⟨#[]⟩] := by rw [← hz]; rfl
    unfold RetRV toBool
    rw [hz, hv]
    clear hz hv
    go_enter Tryd.func21, Tryd.ntmps21
    go_wp2_with fail
    refine bodyPost_ret (v := (.agg #[.int .i64 3, .int .i64 z, .string ⟨#[]⟩])) (by simp [results, Tryd.results21, go_sem, *]) rfl ⟨rfl, ?_⟩; repeat (first | with_reducible assumption | (with_reducible refine below_set ?_ (by first | omega | (simp only [World.size_alloc]; omega))) | (with_reducible refine below_row ?_ (by first | omega | (simp only [World.size_alloc]; omega))) | (with_reducible refine below_drewN ?_ _) | (with_reducible refine below_drew1 ?_) | (with_reducible refine ext_alloc ?_ _))
  | err c =>
    change Calls _ _ #[.agg #[.int .i64 4, .int .i64 c, .string ⟨#[]⟩]] w _
    go_enter Tryd.func21, Tryd.ntmps21
    go_wp2_with fail
    refine bodyPost_ret (v := (.agg #[.int .i64 4, .int .i64 c, .string ⟨#[]⟩])) (by simp [results, Tryd.results21, go_sem, *]) rfl ⟨rfl, ?_⟩; repeat (first | with_reducible assumption | (with_reducible refine below_set ?_ (by first | omega | (simp only [World.size_alloc]; omega))) | (with_reducible refine below_row ?_ (by first | omega | (simp only [World.size_alloc]; omega))) | (with_reducible refine below_drewN ?_ _) | (with_reducible refine below_drew1 ?_) | (with_reducible refine ext_alloc ?_ _))
  | text s =>
    by_cases h1 : s = tTRUE
    · subst h1
      change Calls _ _ #[.agg #[.int .i64 2, .int .i64 0, .string ⟨#[84, 82, 85, 69]⟩]] w _
      go_enter Tryd.func21, Tryd.ntmps21
      go_wp2_with fail
      refine (bool_v _ _).mono ?_
      rintro e w1 ⟨rfl, hE1⟩
      obtain ⟨gc1, gf1⟩ := ecell hE1; have gh1 := bheap hE1; have hz1 := Below.size hE1; simp only [World.size_alloc] at hz1; have hX1 := (ext_dig (ext_dig hE1)); have hl1_0 : w.heap.size < w1.heap.size := (by omega); have hm1_0 : w.heap.size < w1.heap.size + 1 := (by omega); have hn1_0 : w.heap.size < w1.heap.size + 1 + 1 := (by omega); have hl1_1 : w.heap.size + 1 < w1.heap.size := (by omega); have hm1_1 : w.heap.size + 1 < w1.heap.size + 1 := (by omega); have hn1_1 : w.heap.size + 1 < w1.heap.size + 1 + 1 := (by omega)
      unfold RV.val RV.k RV.n RV.s
      go_wp2_with fail
      refine bodyPost_ret (v := (.agg #[.int .i64 3, .int .i64 1, .string ⟨#[]⟩])) (by simp [results, Tryd.results21, go_sem, *]) rfl ⟨rfl, ?_⟩; repeat (first | with_reducible assumption | (with_reducible refine below_set ?_ (by first | omega | (simp only [World.size_alloc]; omega))) | (with_reducible refine below_row ?_ (by first | omega | (simp only [World.size_alloc]; omega))) | (with_reducible refine below_drewN ?_ _) | (with_reducible refine below_drew1 ?_) | (with_reducible refine ext_alloc ?_ _))
    by_cases h2 : s = tFALSE
    · subst h2
      change Calls _ _ #[.agg #[.int .i64 2, .int .i64 0, .string ⟨#[70, 65, 76, 83, 69]⟩]] w _
      go_enter Tryd.func21, Tryd.ntmps21
      go_wp2_with fail
      refine (bool_v _ _).mono ?_
      rintro e w1 ⟨rfl, hE1⟩
      obtain ⟨gc1, gf1⟩ := ecell hE1; have gh1 := bheap hE1; have hz1 := Below.size hE1; simp only [World.size_alloc] at hz1; have hX1 := (ext_dig (ext_dig hE1)); have hl1_0 : w.heap.size < w1.heap.size := (by omega); have hm1_0 : w.heap.size < w1.heap.size + 1 := (by omega); have hn1_0 : w.heap.size < w1.heap.size + 1 + 1 := (by omega); have hl1_1 : w.heap.size + 1 < w1.heap.size := (by omega); have hm1_1 : w.heap.size + 1 < w1.heap.size + 1 := (by omega); have hn1_1 : w.heap.size + 1 < w1.heap.size + 1 + 1 := (by omega)
      unfold RV.val RV.k RV.n RV.s
      go_wp2_with fail
      refine bodyPost_ret (v := (.agg #[.int .i64 3, .int .i64 0, .string ⟨#[]⟩])) (by simp [results, Tryd.results21, go_sem, *]) rfl ⟨rfl, ?_⟩; repeat (first | with_reducible assumption | (with_reducible refine below_set ?_ (by first | omega | (simp only [World.size_alloc]; omega))) | (with_reducible refine below_row ?_ (by first | omega | (simp only [World.size_alloc]; omega))) | (with_reducible refine below_drewN ?_ _) | (with_reducible refine below_drew1 ?_) | (with_reducible refine ext_alloc ?_ _))
    · have hv : toBool (.text s) = .err 2 := by show (if s = tTRUE then _ else if s = tFALSE then _ else _) = _; rw [if_neg h1, if_neg h2]
      rw [hv]
      have e1 : (s.toList == [84, 82, 85, 69]) = false := by rw [beq_eq_false_iff_ne]; exact bytes_ne h1
      have e2 : (s.toList == [70, 65, 76, 83, 69]) = false := by rw [beq_eq_false_iff_ne]; exact bytes_ne h2
      have e3 : ¬ s.toList = [84, 82, 85, 69] := bytes_ne h1
      have e4 : ¬ s.toList = [70, 65, 76, 83, 69] := bytes_ne h2
      clear hv h1 h2 h
      change Calls _ _ #[.agg #[.int .i64 2, .int .i64 0, .string s]] w _
      go_enter Tryd.func21, Tryd.ntmps21
      go_wp2_with fail
      refine (fail_v 2 _).mono ?_
      rintro e w1 ⟨rfl, hE1⟩
      obtain ⟨gc1, gf1⟩ := ecell hE1; have gh1 := bheap hE1; have hz1 := Below.size hE1; simp only [World.size_alloc] at hz1; have hX1 := (ext_dig (ext_dig hE1)); have hl1_0 : w.heap.size < w1.heap.size := (by omega); have hm1_0 : w.heap.size < w1.heap.size + 1 := (by omega); have hn1_0 : w.heap.size < w1.heap.size + 1 + 1 := (by omega); have hl1_1 : w.heap.size + 1 < w1.heap.size := (by omega); have hm1_1 : w.heap.size + 1 < w1.heap.size + 1 := (by omega); have hn1_1 : w.heap.size + 1 < w1.heap.size + 1 + 1 := (by omega)
      unfold RV.val RV.k RV.n RV.s
      go_wp2_with fail
      refine bodyPost_ret (v := (.agg #[.int .i64 4, .int .i64 2, .string ⟨#[]⟩])) (by simp [results, Tryd.results21, go_sem, *]) rfl ⟨rfl, ?_⟩; repeat (first | with_reducible assumption | (with_reducible refine below_set ?_ (by first | omega | (simp only [World.size_alloc]; omega))) | (with_reducible refine below_row ?_ (by first | omega | (simp only [World.size_alloc]; omega))) | (with_reducible refine below_drewN ?_ _) | (with_reducible refine below_drew1 ?_) | (with_reducible refine ext_alloc ?_ _))
end Go.Proofs.YtkkfgobdkbcdhaaDoor
