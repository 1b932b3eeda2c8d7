/-
  texts: One: walks. Conditions: each theorem's own.
-/
import Derived.Test.YtmdlahkmnjmanaaDoorTextsG
namespace Go.Proofs.YtmdlahkmnjmanaaDoor
open Go.RowKit Num
set_option linter.unusedVariables false
set_option linter.unusedSimpArgs false

set_option maxRecDepth 100000 in
set_option maxHeartbeats 2000000 in
theorem one_up (s : ByteArray) (w : World) (hs : s.size ≤ 64) :
    Calls Tryd.prog 13 #[.string ⟨#[85, 80, 80, 69, 82]⟩, .string s] w fun e w' => e = .returned (.agg #[.int .i64 2, .int .i64 0, .string (mapB upc s)]) ∧ Ext w w' := by
  have hE := Ext.refl w
  have c1 := Lib.hid (fun w => turned_up s w hs)
  have hz : (mapB upc s).size ≤ 64 := by rw [mapB_size]; exact hs
  have c2 : Hid (∀ w, Calls Tryd.prog 11 #[.string (mapB upc s)] w fun e w' => e = .returned (.agg #[.int .i64 2, .int .i64 0, .string (mapB upc s)]) ∧ Ext w w') := Lib.hid (fun w => (vtext_yes _ w hz).mono fun _ _ h => h)
  clear hz
  go_enter Tryd.func13, Tryd.ntmps13
  go_wp2_with fail
  refine (c1.out _).mono ?_
  rintro e w1 ⟨rfl, hE1⟩
  go_wp2_with fail
  refine (c2.out _).mono ?_
  rintro e wz ⟨rfl, hE2⟩
  have hX := hE1.trans hE2
  clear hE1 hE2
  obtain ⟨gchX, gfhX⟩ := ecell hX; have ghhX := bheap hX; have hzhX := Below.size hX; simp only [World.size_alloc] at hzhX; have hXhX := (ext_dig hX); have hlhX_0 : w.heap.size < wz.heap.size := (by omega); have hmhX_0 : w.heap.size < wz.heap.size + 1 := (by omega); have hnhX_0 : w.heap.size < wz.heap.size + 1 + 1 := (by omega)
  go_wp2_with fail
  refine bodyPost_ret (v := (.agg #[.int .i64 2, .int .i64 0, .string (mapB upc s)])) (by simp [results, Tryd.results13, go_sem, *]) rfl ⟨rfl, ?_⟩; repeat (first | with_reducible assumption | (with_reducible refine below_set ?_ (by first | omega | (simp only [World.size_alloc]; omega))) | (with_reducible refine below_row ?_ (by first | omega | (simp only [World.size_alloc]; omega))) | (with_reducible refine below_drewN ?_ _) | (with_reducible refine below_drew1 ?_) | (with_reducible refine ext_alloc ?_ _))
set_option maxRecDepth 100000 in
set_option maxHeartbeats 2000000 in
theorem one_low (s : ByteArray) (w : World) (hs : s.size ≤ 64) :
    Calls Tryd.prog 13 #[.string ⟨#[76, 79, 87, 69, 82]⟩, .string s] w fun e w' => e = .returned (.agg #[.int .i64 2, .int .i64 0, .string (mapB loc s)]) ∧ Ext w w' := by
  have hE := Ext.refl w
  have c1 := Lib.hid (fun w => turned_low s w hs)
  have hz : (mapB loc s).size ≤ 64 := by rw [mapB_size]; exact hs
  have c2 : Hid (∀ w, Calls Tryd.prog 11 #[.string (mapB loc s)] w fun e w' => e = .returned (.agg #[.int .i64 2, .int .i64 0, .string (mapB loc s)]) ∧ Ext w w') := Lib.hid (fun w => (vtext_yes _ w hz).mono fun _ _ h => h)
  clear hz
  go_enter Tryd.func13, Tryd.ntmps13
  go_wp2_with fail
  refine (c1.out _).mono ?_
  rintro e w1 ⟨rfl, hE1⟩
  go_wp2_with fail
  refine (c2.out _).mono ?_
  rintro e wz ⟨rfl, hE2⟩
  have hX := hE1.trans hE2
  clear hE1 hE2
  obtain ⟨gchX, gfhX⟩ := ecell hX; have ghhX := bheap hX; have hzhX := Below.size hX; simp only [World.size_alloc] at hzhX; have hXhX := (ext_dig hX); have hlhX_0 : w.heap.size < wz.heap.size := (by omega); have hmhX_0 : w.heap.size < wz.heap.size + 1 := (by omega); have hnhX_0 : w.heap.size < wz.heap.size + 1 + 1 := (by omega)
  go_wp2_with fail
  refine bodyPost_ret (v := (.agg #[.int .i64 2, .int .i64 0, .string (mapB loc s)])) (by simp [results, Tryd.results13, go_sem, *]) rfl ⟨rfl, ?_⟩; repeat (first | with_reducible assumption | (with_reducible refine below_set ?_ (by first | omega | (simp only [World.size_alloc]; omega))) | (with_reducible refine below_row ?_ (by first | omega | (simp only [World.size_alloc]; omega))) | (with_reducible refine below_drewN ?_ _) | (with_reducible refine below_drew1 ?_) | (with_reducible refine ext_alloc ?_ _))
set_option maxRecDepth 100000 in
set_option maxHeartbeats 2000000 in
theorem one_trim (s : ByteArray) (w : World) (hs : s.size ≤ 64) :
    Calls Tryd.prog 13 #[.string ⟨#[84, 82, 73, 77]⟩, .string s] w fun e w' => e = .returned (.agg #[.int .i64 2, .int .i64 0, .string (trimB s)]) ∧ Ext w w' := by
  have hE := Ext.refl w
  have c1 := Lib.hid (fun w => trimmed_any s w hs)
  have hz : (trimB s).size ≤ 64 := Nat.le_trans (trimB_size s) hs
  have c2 : Hid (∀ w, Calls Tryd.prog 11 #[.string (trimB s)] w fun e w' => e = .returned (.agg #[.int .i64 2, .int .i64 0, .string (trimB s)]) ∧ Ext w w') := Lib.hid (fun w => (vtext_yes _ w hz).mono fun _ _ h => h)
  clear hz
  go_enter Tryd.func13, Tryd.ntmps13
  go_wp2_with fail
  refine (c1.out _).mono ?_
  rintro e w1 ⟨rfl, hE1⟩
  go_wp2_with fail
  refine (c2.out _).mono ?_
  rintro e wz ⟨rfl, hE2⟩
  have hX := hE1.trans hE2
  clear hE1 hE2
  obtain ⟨gchX, gfhX⟩ := ecell hX; have ghhX := bheap hX; have hzhX := Below.size hX; simp only [World.size_alloc] at hzhX; have hXhX := (ext_dig hX); have hlhX_0 : w.heap.size < wz.heap.size := (by omega); have hmhX_0 : w.heap.size < wz.heap.size + 1 := (by omega); have hnhX_0 : w.heap.size < wz.heap.size + 1 + 1 := (by omega)
  go_wp2_with fail
  refine bodyPost_ret (v := (.agg #[.int .i64 2, .int .i64 0, .string (trimB s)])) (by simp [results, Tryd.results13, go_sem, *]) rfl ⟨rfl, ?_⟩; repeat (first | with_reducible assumption | (with_reducible refine below_set ?_ (by first | omega | (simp only [World.size_alloc]; omega))) | (with_reducible refine below_row ?_ (by first | omega | (simp only [World.size_alloc]; omega))) | (with_reducible refine below_drewN ?_ _) | (with_reducible refine below_drew1 ?_) | (with_reducible refine ext_alloc ?_ _))
set_option maxRecDepth 100000 in
set_option maxHeartbeats 2000000 in
theorem one_len (s : ByteArray) (w : World) (hs : s.size ≤ 64) :
    Calls Tryd.prog 13 #[.string ⟨#[76, 69, 78]⟩, .string s] w fun e w' => e = .returned ((.agg #[.int .i64 1, .int .i64 ((Lib.runeCount s : Int) * 1000000), .string ⟨#[]⟩])) ∧ Ext w w' := by
  have hE := Ext.refl w
  have hr := Lib.runeCount_le s
  have c1 := Lib.hid (fun w => runes_any s w hs)
  have c2 := Lib.hid (fun w => of_yes (Lib.runeCount s) w (by omega))
  have c3 := Lib.hid (fun w => made_yes_v ((Lib.runeCount s : Int) * 1000000) w)
  clear hr
  go_enter Tryd.func13, Tryd.ntmps13
  go_wp2_with fail
  refine (c1.out _).mono ?_
  rintro e w1 ⟨rfl, hE1⟩
  go_wp2_with fail
  refine (c2.out _).mono ?_
  rintro e w2 ⟨rfl, rfl⟩
  go_wp2_with fail
  refine (c3.out _).mono ?_
  rintro e wz ⟨rfl, hE3⟩
  have hX := hE1.trans hE3
  clear hE1 hE3
  unfold RV.val RV.k RV.n RV.s
  obtain ⟨gchX, gfhX⟩ := ecell hX; have ghhX := bheap hX; have hzhX := Below.size hX; simp only [World.size_alloc] at hzhX; have hXhX := (ext_dig hX); have hlhX_0 : w.heap.size < wz.heap.size := (by omega); have hmhX_0 : w.heap.size < wz.heap.size + 1 := (by omega); have hnhX_0 : w.heap.size < wz.heap.size + 1 + 1 := (by omega)
  go_wp2_with fail
  refine bodyPost_ret (v := ((.agg #[.int .i64 1, .int .i64 ((Lib.runeCount s : Int) * 1000000), .string ⟨#[]⟩]))) (by simp [results, Tryd.results13, go_sem, *]) rfl ⟨rfl, ?_⟩; repeat (first | with_reducible assumption | (with_reducible refine below_set ?_ (by first | omega | (simp only [World.size_alloc]; omega))) | (with_reducible refine below_row ?_ (by first | omega | (simp only [World.size_alloc]; omega))) | (with_reducible refine below_drewN ?_ _) | (with_reducible refine below_drew1 ?_) | (with_reducible refine ext_alloc ?_ _))
set_option maxRecDepth 100000 in
set_option maxHeartbeats 2000000 in
theorem one_value (s : ByteArray) (w : World) (hs : s.size ≤ 64) {x : RV} (k n : Int) (t : ByteArray) (hk : toNum (.text s) = x) (hx : x.k = k ∧ x.n = n ∧ x.s = t) :
    Calls Tryd.prog 13 #[.string ⟨#[86, 65, 76, 85, 69]⟩, .string s] w fun e w' => e = .returned (.agg #[.int .i64 k, .int .i64 n, .string t]) ∧ Ext w w' := by
  have hE := Ext.refl w
  have c1 := fun w => tonum_v (.text s) w hs
  rw [hk] at c1
  obtain ⟨rfl, rfl, rfl⟩ := hx
  unfold RetRV RV.val at c1
  generalize x.k = k at *
  generalize x.n = n at *
  generalize x.s = t at *
  have C1 : Hid (∀ w, Calls Tryd.prog 15 #[.agg #[.int .i64 2, .int .i64 0, .string s]] w fun e w' => e = .returned (.agg #[.int .i64 k, .int .i64 n, .string t]) ∧ Ext w w') := Lib.hid c1
  clear c1 hk
  go_enter Tryd.func13, Tryd.ntmps13
  go_wp2_with fail
  refine (C1.out _).mono ?_
  rintro e wz ⟨rfl, hX⟩
  obtain ⟨gchX, gfhX⟩ := ecell hX; have ghhX := bheap hX; have hzhX := Below.size hX; simp only [World.size_alloc] at hzhX; have hXhX := (ext_dig hX); have hlhX_0 : w.heap.size < wz.heap.size := (by omega); have hmhX_0 : w.heap.size < wz.heap.size + 1 := (by omega); have hnhX_0 : w.heap.size < wz.heap.size + 1 + 1 := (by omega)
  go_wp2_with fail
  refine bodyPost_ret (v := (.agg #[.int .i64 k, .int .i64 n, .string t])) (by simp [results, Tryd.results13, go_sem, *]) rfl ⟨rfl, ?_⟩; repeat (first | with_reducible assumption | (with_reducible refine below_set ?_ (by first | omega | (simp only [World.size_alloc]; omega))) | (with_reducible refine below_row ?_ (by first | omega | (simp only [World.size_alloc]; omega))) | (with_reducible refine below_drewN ?_ _) | (with_reducible refine below_drew1 ?_) | (with_reducible refine ext_alloc ?_ _))
set_option maxRecDepth 100000 in
set_option maxHeartbeats 2000000 in
theorem one_x (s : ByteArray) (w : World) (hs : s.size ≤ 64) :
    Calls Tryd.prog 13 #[.string ⟨#[88]⟩, .string s] w fun e w' => e = .returned (.agg #[.int .i64 4, .int .i64 2, .string ⟨#[]⟩]) ∧ Ext w w' := by
  have hE := Ext.refl w
  go_enter Tryd.func13, Tryd.ntmps13
  go_wp2_with fail
  refine (fail_v 2 _).mono ?_
  rintro e wz ⟨rfl, hX⟩
  unfold RV.val RV.k RV.n RV.s
  obtain ⟨gchX, gfhX⟩ := ecell hX; have ghhX := bheap hX; have hzhX := Below.size hX; simp only [World.size_alloc] at hzhX; have hXhX := (ext_dig hX); have hlhX_0 : w.heap.size < wz.heap.size := (by omega); have hmhX_0 : w.heap.size < wz.heap.size + 1 := (by omega); have hnhX_0 : w.heap.size < wz.heap.size + 1 + 1 := (by omega)
  go_wp2_with fail
  refine bodyPost_ret (v := (.agg #[.int .i64 4, .int .i64 2, .string ⟨#[]⟩])) (by simp [results, Tryd.results13, go_sem, *]) rfl ⟨rfl, ?_⟩; repeat (first | with_reducible assumption | (with_reducible refine below_set ?_ (by first | omega | (simp only [World.size_alloc]; omega))) | (with_reducible refine below_row ?_ (by first | omega | (simp only [World.size_alloc]; omega))) | (with_reducible refine below_drewN ?_ _) | (with_reducible refine below_drew1 ?_) | (with_reducible refine ext_alloc ?_ _))
end Go.Proofs.YtmdlahkmnjmanaaDoor
