/-
  texts: count, Part; the law's count: walks. Conditions: each theorem's own.
-/
import Derived.Test.YtmdlahkmnjmanaaDoorValueX
import Derived.Test.YtmdlahkmnjmanaaDoorMask
import Derived.Test.YtmdlahkmnjmanaaDoorPut
import Derived.Deep.CutBlock
import Derived.Deep.DeepCutAuto
namespace Go.Proofs.YtmdlahkmnjmanaaDoor
open Go.RowKit Num
set_option linter.unusedVariables false
set_option linter.unusedSimpArgs false

/-- What the law asks for. -/
theorem lcount_any (n : Int) (w : World) (h : -1 ≤ n ∧ n ≤ 1000) : Calls Tryd.prog 10 #[.int .i64 n] w fun e w' => e = .returned (.int .i64 (n * 1000000)) ∧ Ext w w' := by
  have hE := Ext.refl w
  go_enter Tryd.func10, Tryd.ntmps10
  go_wp2_with fail
  go_ret
  exact ⟨rfl, hE⟩
theorem tdiv_mul (n : Int) : (n * 1000000).tdiv 1000000 = n := Int.mul_tdiv_cancel n (by decide)
set_option maxRecDepth 100000 in
theorem tcount_any (n : Int) (s : ByteArray) (w : World) (h : -1 ≤ n ∧ n ≤ 1000) (hs : s.size ≤ 64) : Calls Tryd.prog 18 #[.int .i64 (n * 1000000), .string s] w fun e w' => e = .returned (.tuple #[.int .i64 (min (max n 0) (s.size : Int)), .bool (decide (0 ≤ n))]) ∧ Ext w w' := by
  have hE := Ext.refl w
  have hd := tdiv_mul n
  have hl : (s.size : Int) ≤ 64 := by omega
  go_enter Tryd.func18, Tryd.ntmps18
  go_wp2_with fail
  all_goals go_ret2
  all_goals exact ⟨rfl, hE⟩
theorem ext_le (s : ByteArray) (i j : Nat) (hs : s.size ≤ 64) : (s.extract i j).size ≤ 64 := by
  rw [ByteArray.size_extract]; omega
set_option maxRecDepth 100000 in
set_option maxHeartbeats 2000000 in
theorem part_left (n : Int) (k : Nat) (s : ByteArray) (g : Nat) (w : World) (h : 0 ≤ n ∧ n ≤ 1000) (hk : min n.toNat s.size = k) (hg : w.cell? ⟨g, 0, none⟩ = some (.int .i64 (n * 1000000))) (hlt : g < w.heap.size) (hs : s.size ≤ 64) :
    Calls Tryd.prog 9 #[.string ⟨#[76, 69, 70, 84]⟩, .string s, .slice (some ⟨g, 0, none⟩) 1 1] w fun e w' => e = .returned (.agg #[.int .i64 2, .int .i64 0, .string (s.extract 0 k)]) ∧ Ext w w' := by
  have hE := Ext.refl w
  have hkm : min (max n 0) (s.size : Int) = (k : Int) := by omega
  have hks : k ≤ s.size := by omega
  have c1 := fun w => tcount_any n s w (by omega) hs
  rw [hkm, decide_eq_true h.1] at c1
  have C1 := Lib.hid c1
  have hd := tdiv_mul n
  have C2 : Hid (∀ w, Calls Tryd.prog 11 #[.string (s.extract 0 k)] w fun e w' => e = .returned (.agg #[.int .i64 2, .int .i64 0, .string (s.extract 0 k)]) ∧ Ext w w') := Lib.hid (fun w => (vtext_yes (s.extract 0 k) w (ext_le _ _ _ hs)).mono fun _ _ h => h)
  clear c1 hkm hk h
  go_enter Tryd.func9, Tryd.ntmps9
  go_wp2_with fail
  refine (C1.out _).mono ?_
  rintro e w1 ⟨rfl, hE1⟩
  obtain ⟨gc1, gf1⟩ := ecell hE1; have gh1 := bheap hE1; have hz1 := Below.size hE1; simp only [World.size_alloc] at hz1; have hX1 := (ext_dig hE1); have hl1_0 : w.heap.size < w1.heap.size := (by omega); have hm1_0 : w.heap.size < w1.heap.size + 1 := (by omega); have hn1_0 : w.heap.size < w1.heap.size + 1 + 1 := (by omega)
  go_wp2_with fail
  refine (C2.out _).mono ?_
  rintro e w2 ⟨rfl, hE2⟩
  have hE3 := hE1.trans hE2
  clear hE1 hE2 gc1 gf1 gh1 hz1 hX1 hl1_0 hm1_0 hn1_0
  obtain ⟨gc3, gf3⟩ := ecell hE3; have gh3 := bheap hE3; have hz3 := Below.size hE3; simp only [World.size_alloc] at hz3; have hX3 := (ext_dig hE3); have hl3_0 : w.heap.size < w2.heap.size := (by omega); have hm3_0 : w.heap.size < w2.heap.size + 1 := (by omega); have hn3_0 : w.heap.size < w2.heap.size + 1 + 1 := (by omega)
  go_wp2_with fail
  refine bodyPost_ret (v := (.agg #[.int .i64 2, .int .i64 0, .string (s.extract 0 k)])) (by simp [results, Tryd.results9, go_sem, *]) rfl ⟨rfl, ?_⟩; repeat (first | with_reducible assumption | (with_reducible refine below_set ?_ (by first | omega | (simp only [World.size_alloc]; omega))) | (with_reducible refine below_row ?_ (by first | omega | (simp only [World.size_alloc]; omega))) | (with_reducible refine below_drewN ?_ _) | (with_reducible refine below_drew1 ?_) | (with_reducible refine ext_alloc ?_ _))
set_option maxRecDepth 100000 in
set_option maxHeartbeats 2000000 in
theorem part_right (n : Int) (k : Nat) (s : ByteArray) (g : Nat) (w : World) (h : 0 ≤ n ∧ n ≤ 1000) (hk : min n.toNat s.size = k) (hg : w.cell? ⟨g, 0, none⟩ = some (.int .i64 (n * 1000000))) (hlt : g < w.heap.size) (hs : s.size ≤ 64) :
    Calls Tryd.prog 9 #[.string ⟨#[82, 73, 71, 72, 84]⟩, .string s, .slice (some ⟨g, 0, none⟩) 1 1] w fun e w' => e = .returned (.agg #[.int .i64 2, .int .i64 0, .string (s.extract (s.size - k) s.size)]) ∧ Ext w w' := by
  have hE := Ext.refl w
  have hkm : min (max n 0) (s.size : Int) = (k : Int) := by omega
  have hks : k ≤ s.size := by omega
  have c1 := fun w => tcount_any n s w (by omega) hs
  rw [hkm, decide_eq_true h.1] at c1
  have C1 := Lib.hid c1
  have hd := tdiv_mul n
  have C2 : Hid (∀ w, Calls Tryd.prog 11 #[.string (s.extract (s.size - k) s.size)] w fun e w' => e = .returned (.agg #[.int .i64 2, .int .i64 0, .string (s.extract (s.size - k) s.size)]) ∧ Ext w w') := Lib.hid (fun w => (vtext_yes (s.extract (s.size - k) s.size) w (ext_le _ _ _ hs)).mono fun _ _ h => h)
  clear c1 hkm hk h
  go_enter Tryd.func9, Tryd.ntmps9
  go_wp2_with fail
  refine (C1.out _).mono ?_
  rintro e w1 ⟨rfl, hE1⟩
  obtain ⟨gc1, gf1⟩ := ecell hE1; have gh1 := bheap hE1; have hz1 := Below.size hE1; simp only [World.size_alloc] at hz1; have hX1 := (ext_dig hE1); have hl1_0 : w.heap.size < w1.heap.size := (by omega); have hm1_0 : w.heap.size < w1.heap.size + 1 := (by omega); have hn1_0 : w.heap.size < w1.heap.size + 1 + 1 := (by omega)
  go_wp2_with fail
  refine (C2.out _).mono ?_
  rintro e w2 ⟨rfl, hE2⟩
  have hE3 := hE1.trans hE2
  clear hE1 hE2 gc1 gf1 gh1 hz1 hX1 hl1_0 hm1_0 hn1_0
  obtain ⟨gc3, gf3⟩ := ecell hE3; have gh3 := bheap hE3; have hz3 := Below.size hE3; simp only [World.size_alloc] at hz3; have hX3 := (ext_dig hE3); have hl3_0 : w.heap.size < w2.heap.size := (by omega); have hm3_0 : w.heap.size < w2.heap.size + 1 := (by omega); have hn3_0 : w.heap.size < w2.heap.size + 1 + 1 := (by omega)
  go_wp2_with fail
  refine bodyPost_ret (v := (.agg #[.int .i64 2, .int .i64 0, .string (s.extract (s.size - k) s.size)])) (by simp [results, Tryd.results9, go_sem, *]) rfl ⟨rfl, ?_⟩; repeat (first | with_reducible assumption | (with_reducible refine below_set ?_ (by first | omega | (simp only [World.size_alloc]; omega))) | (with_reducible refine below_row ?_ (by first | omega | (simp only [World.size_alloc]; omega))) | (with_reducible refine below_drewN ?_ _) | (with_reducible refine below_drew1 ?_) | (with_reducible refine ext_alloc ?_ _))
set_option maxRecDepth 100000 in
set_option maxHeartbeats 2000000 in
theorem part_mid (m n : Int) (k f t : Nat) (s : ByteArray) (g : Nat) (w : World) (h : 0 ≤ n ∧ n ≤ 1000) (hm : 1 ≤ m ∧ m ≤ 1000) (hk : min n.toNat s.size = k) (hf : min (m - 1).toNat s.size = f) (ht : min (f + k) s.size = t) (hg : w.cell? ⟨g, 0, none⟩ = some (.int .i64 (m * 1000000))) (hg1 : w.cell? ⟨g, 1, none⟩ = some (.int .i64 (n * 1000000))) (hlt : g < w.heap.size) (hs : s.size ≤ 64) :
    Calls Tryd.prog 9 #[.string ⟨#[77, 73, 68]⟩, .string s, .slice (some ⟨g, 0, none⟩) 2 2] w fun e w' => e = .returned (.agg #[.int .i64 2, .int .i64 0, .string (s.extract f t)]) ∧ Ext w w' := by
  have hE := Ext.refl w
  have hkm : min (max n 0) (s.size : Int) = (k : Int) := by omega
  have hks : k ≤ s.size := by omega
  have c1 := fun w => tcount_any n s w (by omega) hs
  rw [hkm, decide_eq_true h.1] at c1
  have C1 := Lib.hid c1
  have hd := tdiv_mul n
  have hfm : min (m - 1) (s.size : Int) = (f : Int) := by omega
  have hfs : f ≤ s.size := by omega
  have hdm := tdiv_mul m
  have htm : min ((f : Int) + (k : Int)) (s.size : Int) = (t : Int) := by omega
  have hts : t ≤ s.size := by omega
  have hft : f ≤ t := by omega
  have C2 : Hid (∀ w, Calls Tryd.prog 11 #[.string (s.extract f t)] w fun e w' => e = .returned (.agg #[.int .i64 2, .int .i64 0, .string (s.extract f t)]) ∧ Ext w w') := Lib.hid (fun w => (vtext_yes (s.extract f t) w (ext_le _ _ _ hs)).mono fun _ _ h => h)
  clear c1 hkm hk h hf ht
  go_enter Tryd.func9, Tryd.ntmps9
  go_wp2_with fail
  refine (C1.out _).mono ?_
  rintro e w1 ⟨rfl, hE1⟩
  obtain ⟨gc1, gf1⟩ := ecell hE1; have gh1 := bheap hE1; have hz1 := Below.size hE1; simp only [World.size_alloc] at hz1; have hX1 := (ext_dig hE1); have hl1_0 : w.heap.size < w1.heap.size := (by omega); have hm1_0 : w.heap.size < w1.heap.size + 1 := (by omega); have hn1_0 : w.heap.size < w1.heap.size + 1 + 1 := (by omega)
  go_wp2_with fail
  refine (C2.out _).mono ?_
  rintro e w2 ⟨rfl, hE2⟩
  have hE3 := hE1.trans hE2
  clear hE1 hE2 gc1 gf1 gh1 hz1 hX1 hl1_0 hm1_0 hn1_0
  obtain ⟨gc3, gf3⟩ := ecell hE3; have gh3 := bheap hE3; have hz3 := Below.size hE3; simp only [World.size_alloc] at hz3; have hX3 := (ext_dig hE3); have hl3_0 : w.heap.size < w2.heap.size := (by omega); have hm3_0 : w.heap.size < w2.heap.size + 1 := (by omega); have hn3_0 : w.heap.size < w2.heap.size + 1 + 1 := (by omega)
  go_wp2_with fail
  refine bodyPost_ret (v := (.agg #[.int .i64 2, .int .i64 0, .string (s.extract f t)])) (by simp [results, Tryd.results9, go_sem, *]) rfl ⟨rfl, ?_⟩; repeat (first | with_reducible assumption | (with_reducible refine below_set ?_ (by first | omega | (simp only [World.size_alloc]; omega))) | (with_reducible refine below_row ?_ (by first | omega | (simp only [World.size_alloc]; omega))) | (with_reducible refine below_drewN ?_ _) | (with_reducible refine below_drew1 ?_) | (with_reducible refine ext_alloc ?_ _))
set_option maxRecDepth 100000 in
set_option maxHeartbeats 2000000 in
theorem part_neg_LEFT (s : ByteArray) (g : Nat) (w : World) (hg : w.cell? ⟨g, 0, none⟩ = some (.int .i64 (-1000000))) (hlt : g < w.heap.size) (hs : s.size ≤ 64) :
    Calls Tryd.prog 9 #[.string ⟨#[76, 69, 70, 84]⟩, .string s, .slice (some ⟨g, 0, none⟩) 1 1] w fun e w' => e = .returned (.agg #[.int .i64 4, .int .i64 2, .string ⟨#[]⟩]) ∧ Ext w w' := by
  have hE := Ext.refl w
  have c1 := fun w => tcount_any (-1) s w (by omega) hs
  rw [decide_eq_false (show ¬ (0 : Int) ≤ -1 by decide)] at c1
  have C1 := Lib.hid c1
  clear c1
  go_enter Tryd.func9, Tryd.ntmps9
  go_wp2_with fail
  refine (C1.out _).mono ?_
  rintro e w1 ⟨rfl, hE1⟩
  obtain ⟨gc1, gf1⟩ := ecell hE1; have gh1 := bheap hE1; have hz1 := Below.size hE1; simp only [World.size_alloc] at hz1; have hX1 := (ext_dig hE1); have hl1_0 : w.heap.size < w1.heap.size := (by omega); have hm1_0 : w.heap.size < w1.heap.size + 1 := (by omega); have hn1_0 : w.heap.size < w1.heap.size + 1 + 1 := (by omega)
  go_wp2_with fail
  refine (fail_v 2 _).mono ?_
  rintro e w2 ⟨rfl, hE2⟩
  have hE3 := hE1.trans hE2
  clear hE1 hE2 gc1 gf1 gh1 hz1 hX1 hl1_0 hm1_0 hn1_0
  obtain ⟨gc3, gf3⟩ := ecell hE3; have gh3 := bheap hE3; have hz3 := Below.size hE3; simp only [World.size_alloc] at hz3; have hX3 := (ext_dig hE3); have hl3_0 : w.heap.size < w2.heap.size := (by omega); have hm3_0 : w.heap.size < w2.heap.size + 1 := (by omega); have hn3_0 : w.heap.size < w2.heap.size + 1 + 1 := (by omega)
  unfold RV.val RV.k RV.n RV.s
  go_wp2_with fail
  refine bodyPost_ret (v := (.agg #[.int .i64 4, .int .i64 2, .string ⟨#[]⟩])) (by simp [results, Tryd.results9, go_sem, *]) rfl ⟨rfl, ?_⟩; repeat (first | with_reducible assumption | (with_reducible refine below_set ?_ (by first | omega | (simp only [World.size_alloc]; omega))) | (with_reducible refine below_row ?_ (by first | omega | (simp only [World.size_alloc]; omega))) | (with_reducible refine below_drewN ?_ _) | (with_reducible refine below_drew1 ?_) | (with_reducible refine ext_alloc ?_ _))
set_option maxRecDepth 100000 in
set_option maxHeartbeats 2000000 in
theorem part_neg_REPT (s : ByteArray) (g : Nat) (w : World) (hg : w.cell? ⟨g, 0, none⟩ = some (.int .i64 (-1000000))) (hlt : g < w.heap.size) (hs : s.size ≤ 64) :
    Calls Tryd.prog 9 #[.string ⟨#[82, 69, 80, 84]⟩, .string s, .slice (some ⟨g, 0, none⟩) 1 1] w fun e w' => e = .returned (.agg #[.int .i64 4, .int .i64 2, .string ⟨#[]⟩]) ∧ Ext w w' := by
  have hE := Ext.refl w
  have c1 := fun w => tcount_any (-1) s w (by omega) hs
  rw [decide_eq_false (show ¬ (0 : Int) ≤ -1 by decide)] at c1
  have C1 := Lib.hid c1
  clear c1
  go_enter Tryd.func9, Tryd.ntmps9
  go_wp2_with fail
  refine (C1.out _).mono ?_
  rintro e w1 ⟨rfl, hE1⟩
  obtain ⟨gc1, gf1⟩ := ecell hE1; have gh1 := bheap hE1; have hz1 := Below.size hE1; simp only [World.size_alloc] at hz1; have hX1 := (ext_dig hE1); have hl1_0 : w.heap.size < w1.heap.size := (by omega); have hm1_0 : w.heap.size < w1.heap.size + 1 := (by omega); have hn1_0 : w.heap.size < w1.heap.size + 1 + 1 := (by omega)
  go_wp2_with fail
  refine (fail_v 2 _).mono ?_
  rintro e w2 ⟨rfl, hE2⟩
  have hE3 := hE1.trans hE2
  clear hE1 hE2 gc1 gf1 gh1 hz1 hX1 hl1_0 hm1_0 hn1_0
  obtain ⟨gc3, gf3⟩ := ecell hE3; have gh3 := bheap hE3; have hz3 := Below.size hE3; simp only [World.size_alloc] at hz3; have hX3 := (ext_dig hE3); have hl3_0 : w.heap.size < w2.heap.size := (by omega); have hm3_0 : w.heap.size < w2.heap.size + 1 := (by omega); have hn3_0 : w.heap.size < w2.heap.size + 1 + 1 := (by omega)
  unfold RV.val RV.k RV.n RV.s
  go_wp2_with fail
  refine bodyPost_ret (v := (.agg #[.int .i64 4, .int .i64 2, .string ⟨#[]⟩])) (by simp [results, Tryd.results9, go_sem, *]) rfl ⟨rfl, ?_⟩; repeat (first | with_reducible assumption | (with_reducible refine below_set ?_ (by first | omega | (simp only [World.size_alloc]; omega))) | (with_reducible refine below_row ?_ (by first | omega | (simp only [World.size_alloc]; omega))) | (with_reducible refine below_drewN ?_ _) | (with_reducible refine below_drew1 ?_) | (with_reducible refine ext_alloc ?_ _))
set_option maxRecDepth 100000 in
set_option maxHeartbeats 2000000 in
theorem part_mid0 (n : Int) (k : Nat) (s : ByteArray) (g : Nat) (w : World) (h : 0 ≤ n ∧ n ≤ 1000) (hk : min n.toNat s.size = k) (hg : w.cell? ⟨g, 0, none⟩ = some (.int .i64 0)) (hg1 : w.cell? ⟨g, 1, none⟩ = some (.int .i64 (n * 1000000))) (hlt : g < w.heap.size) (hs : s.size ≤ 64) :
    Calls Tryd.prog 9 #[.string ⟨#[77, 73, 68]⟩, .string s, .slice (some ⟨g, 0, none⟩) 2 2] w fun e w' => e = .returned (.agg #[.int .i64 4, .int .i64 2, .string ⟨#[]⟩]) ∧ Ext w w' := by
  have hE := Ext.refl w
  have hkm : min (max n 0) (s.size : Int) = (k : Int) := by omega
  have hks : k ≤ s.size := by omega
  have c1 := fun w => tcount_any n s w (by omega) hs
  rw [hkm, decide_eq_true h.1] at c1
  have C1 := Lib.hid c1
  have hd := tdiv_mul n
  clear c1 hkm hk h
  go_enter Tryd.func9, Tryd.ntmps9
  go_wp2_with fail
  refine (C1.out _).mono ?_
  rintro e w1 ⟨rfl, hE1⟩
  obtain ⟨gc1, gf1⟩ := ecell hE1; have gh1 := bheap hE1; have hz1 := Below.size hE1; simp only [World.size_alloc] at hz1; have hX1 := (ext_dig hE1); have hl1_0 : w.heap.size < w1.heap.size := (by omega); have hm1_0 : w.heap.size < w1.heap.size + 1 := (by omega); have hn1_0 : w.heap.size < w1.heap.size + 1 + 1 := (by omega)
  go_wp2_with fail
  refine (fail_v 2 _).mono ?_
  rintro e w2 ⟨rfl, hE2⟩
  have hE3 := hE1.trans hE2
  clear hE1 hE2 gc1 gf1 gh1 hz1 hX1 hl1_0 hm1_0 hn1_0
  obtain ⟨gc3, gf3⟩ := ecell hE3; have gh3 := bheap hE3; have hz3 := Below.size hE3; simp only [World.size_alloc] at hz3; have hX3 := (ext_dig hE3); have hl3_0 : w.heap.size < w2.heap.size := (by omega); have hm3_0 : w.heap.size < w2.heap.size + 1 := (by omega); have hn3_0 : w.heap.size < w2.heap.size + 1 + 1 := (by omega)
  unfold RV.val RV.k RV.n RV.s
  go_wp2_with fail
  refine bodyPost_ret (v := (.agg #[.int .i64 4, .int .i64 2, .string ⟨#[]⟩])) (by simp [results, Tryd.results9, go_sem, *]) rfl ⟨rfl, ?_⟩; repeat (first | with_reducible assumption | (with_reducible refine below_set ?_ (by first | omega | (simp only [World.size_alloc]; omega))) | (with_reducible refine below_row ?_ (by first | omega | (simp only [World.size_alloc]; omega))) | (with_reducible refine below_drewN ?_ _) | (with_reducible refine below_drew1 ?_) | (with_reducible refine ext_alloc ?_ _))
set_option maxRecDepth 100000 in
set_option maxHeartbeats 2000000 in
theorem part_other (s : ByteArray) (g : Nat) (w : World) (hg : w.cell? ⟨g, 0, none⟩ = some (.int .i64 0)) (hlt : g < w.heap.size) (hs : s.size ≤ 64) :
    Calls Tryd.prog 9 #[.string ⟨#[77, 73, 68, 68, 76, 69]⟩, .string s, .slice (some ⟨g, 0, none⟩) 1 1] w fun e w' => e = .returned (.agg #[.int .i64 4, .int .i64 2, .string ⟨#[]⟩]) ∧ Ext w w' := by
  have hE := Ext.refl w
  have c1 := fun w => tcount_any 0 s w (by omega) hs
  rw [decide_eq_true (show (0 : Int) ≤ 0 by decide)] at c1
  have C1 := Lib.hid c1
  clear c1
  go_enter Tryd.func9, Tryd.ntmps9
  go_wp2_with fail
  refine (C1.out _).mono ?_
  rintro e w1 ⟨rfl, hE1⟩
  obtain ⟨gc1, gf1⟩ := ecell hE1; have gh1 := bheap hE1; have hz1 := Below.size hE1; simp only [World.size_alloc] at hz1; have hX1 := (ext_dig hE1); have hl1_0 : w.heap.size < w1.heap.size := (by omega); have hm1_0 : w.heap.size < w1.heap.size + 1 := (by omega); have hn1_0 : w.heap.size < w1.heap.size + 1 + 1 := (by omega)
  go_wp2_with fail
  refine (fail_v 2 _).mono ?_
  rintro e w2 ⟨rfl, hE2⟩
  have hE3 := hE1.trans hE2
  clear hE1 hE2 gc1 gf1 gh1 hz1 hX1 hl1_0 hm1_0 hn1_0
  obtain ⟨gc3, gf3⟩ := ecell hE3; have gh3 := bheap hE3; have hz3 := Below.size hE3; simp only [World.size_alloc] at hz3; have hX3 := (ext_dig hE3); have hl3_0 : w.heap.size < w2.heap.size := (by omega); have hm3_0 : w.heap.size < w2.heap.size + 1 := (by omega); have hn3_0 : w.heap.size < w2.heap.size + 1 + 1 := (by omega)
  unfold RV.val RV.k RV.n RV.s
  go_wp2_with fail
  refine bodyPost_ret (v := (.agg #[.int .i64 4, .int .i64 2, .string ⟨#[]⟩])) (by simp [results, Tryd.results9, go_sem, *]) rfl ⟨rfl, ?_⟩; repeat (first | with_reducible assumption | (with_reducible refine below_set ?_ (by first | omega | (simp only [World.size_alloc]; omega))) | (with_reducible refine below_row ?_ (by first | omega | (simp only [World.size_alloc]; omega))) | (with_reducible refine below_drewN ?_ _) | (with_reducible refine below_drew1 ?_) | (with_reducible refine ext_alloc ?_ _))
theorem part_none (s : ByteArray) (w : World) :
    Calls Tryd.prog 9 #[.string ⟨#[76, 69, 70, 84]⟩, .string s, .slice none 0 0] w fun e w' => e = .returned (.agg #[.int .i64 4, .int .i64 2, .string ⟨#[]⟩]) ∧ Ext w w' := by
  have hE := Ext.refl w
  go_enter Tryd.func9, Tryd.ntmps9
  go_wp2_with fail
  refine (fail_v 2 _).mono ?_
  rintro e w1 ⟨rfl, hE1⟩
  obtain ⟨gc1, gf1⟩ := ecell hE1; have gh1 := bheap hE1; have hz1 := Below.size hE1; simp only [World.size_alloc] at hz1; have hX1 := (ext_dig hE1); have hl1_0 : w.heap.size < w1.heap.size := (by omega); have hm1_0 : w.heap.size < w1.heap.size + 1 := (by omega); have hn1_0 : w.heap.size < w1.heap.size + 1 + 1 := (by omega)
  unfold RV.val RV.k RV.n RV.s
  go_wp2_with fail
  refine bodyPost_ret (v := (.agg #[.int .i64 4, .int .i64 2, .string ⟨#[]⟩])) (by simp [results, Tryd.results9, go_sem, *]) rfl ⟨rfl, ?_⟩; repeat (first | with_reducible assumption | (with_reducible refine below_set ?_ (by first | omega | (simp only [World.size_alloc]; omega))) | (with_reducible refine below_row ?_ (by first | omega | (simp only [World.size_alloc]; omega))) | (with_reducible refine below_drewN ?_ _) | (with_reducible refine below_drew1 ?_) | (with_reducible refine ext_alloc ?_ _))
end Go.Proofs.YtmdlahkmnjmanaaDoor
