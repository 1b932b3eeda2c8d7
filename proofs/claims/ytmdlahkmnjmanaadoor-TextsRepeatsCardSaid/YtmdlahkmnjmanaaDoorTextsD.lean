/-
  texts: Part of REPT: walk; what copies are. Conditions: each theorem's own.
-/
import Derived.Test.YtmdlahkmnjmanaaDoorTextsB
import Derived.Test.YtmdlahkmnjmanaaDoorShelf
namespace Go.Proofs.YtmdlahkmnjmanaaDoor
open Go.RowKit Num
set_option linter.unusedVariables false
set_option linter.unusedSimpArgs false

def reptV (N : Nat) (L : List UInt8) : RV := if N ≤ 64 ∨ L.length = 0 then textOf ⟨(Lib.repeatL L (min N 64)).toArray⟩ else .err 2
theorem empty_t (s : ByteArray) : s.toList.isEmpty = decide (s.size = 0) := by
  rw [Lib.toList_data, Bool.eq_iff_iff]
  simp only [List.isEmpty_iff, decide_eq_true_eq]
  exact ⟨fun h => by have := congrArg List.length h; simpa using this, fun h => List.length_eq_zero_iff.1 h⟩
theorem textOf_big {s : ByteArray} (h : 64 < s.size) : textOf s = .err 2 := by unfold textOf; rw [if_neg (by omega)]
theorem size_list (l : List UInt8) : ByteArray.size ⟨l.toArray⟩ = l.length := by show l.toArray.size = _; simp
theorem rept_fact (L : List UInt8) (N j : Nat) (hj : j ≤ N) (h : j = N ∨ 64 < j * L.length) : textOf ⟨(Lib.repeatL L j).toArray⟩ = reptV N L := by
  have hsz : ∀ c, ByteArray.size ⟨(Lib.repeatL L c).toArray⟩ = c * L.length := fun c => by rw [size_list, Lib.repeatL_length]
  unfold reptV
  by_cases h0 : L.length = 0
  · rw [if_pos (.inr h0)]
    have hn : L = [] := List.eq_nil_of_length_eq_zero h0
    subst hn
    rw [Lib.repeatL_nil, Lib.repeatL_nil]
  · by_cases hN : N ≤ 64
    · rw [if_pos (.inl hN), show min N 64 = N by omega]
      rcases h with rfl | h
      · rfl
      · have h2 : j * L.length ≤ N * L.length := Nat.mul_le_mul_right _ hj
        rw [textOf_big (by rw [hsz]; exact h), textOf_big (by rw [hsz]; omega)]
    · rw [if_neg (by omega)]
      refine textOf_big ?_
      rw [hsz]
      rcases h with rfl | h
      · have : j * 1 ≤ j * L.length := Nat.mul_le_mul_left _ (by omega)
        omega
      · exact h
set_option maxRecDepth 100000 in
set_option maxHeartbeats 2000000 in
theorem part_rept (N : Nat) (s : ByteArray) (g : Nat) (w : World) (h : N ≤ 1000) (hs : s.size ≤ 64) (hg : w.cell? ⟨g, 0, none⟩ = some (.int .i64 ((N : Int) * 1000000))) (hlt : g < w.heap.size) :
    Calls Tryd.prog 9 #[.string ⟨#[82, 69, 80, 84]⟩, .string s, .slice (some ⟨g, 0, none⟩) 1 1] w (RetRV (reptV N s.data.toList) w) := by
  have hE := Ext.refl w
  obtain ⟨k, hk⟩ : ∃ k : Int, min (max (N : Int) 0) (s.size : Int) = k := ⟨_, rfl⟩
  have c1 := fun w => tcount_any N s w (by omega) hs
  rw [hk, decide_eq_true (show (0 : Int) ≤ (N : Int) by omega)] at c1
  have C1 := Lib.hid c1
  have hd := tdiv_mul N
  have hsl : s.data.toList.length = s.size := by simp
  have HSL := Lib.hid (empty_t s)
  clear c1 hk
  by_cases hbig : N ≤ 64 ∨ s.data.toList.length = 0
  · have hv : reptV N s.data.toList = textOf ⟨(Lib.repeatL s.data.toList (min N 64)).toArray⟩ := if_pos hbig
    rw [hv]
    obtain ⟨c, hc⟩ : ∃ c, min N 64 = c := ⟨_, rfl⟩
    rw [hc]
    have c2 := fun w => Tryd.strings_Repeat s c w (by omega) (by have : s.size * c ≤ 64 * 64 := Nat.mul_le_mul hs (by omega); omega)
    have c3 := fun w => text_v ⟨(Lib.repeatL s.data.toList c).toArray⟩ w
    have hcm : min (N : Int) 64 = (c : Int) := by omega
    unfold RetRV RV.val at *
    generalize (⟨(Lib.repeatL s.data.toList c).toArray⟩ : ByteArray) = R at *
    generalize (textOf R).k = k1 at *
    generalize (textOf R).n = n1 at *
    generalize (textOf R).s = s1 at *
    have C2 := Lib.hid c2
    have C3 := Lib.hid c3
    have hgt : ((N : Int) ≤ 64) ∨ (64 < (N : Int) ∧ s = ⟨#[]⟩) := by
      by_cases h : N ≤ 64
      · exact .inl (by omega)
      · refine .inr ⟨by omega, size_zero ?_⟩
        rcases hbig with hb | hb
        · omega
        · omega
    clear c2 c3 hc hv hbig hsl
    rcases hgt with hgt | ⟨hgt, rfl⟩
    all_goals
      go_enter Tryd.func9, Tryd.ntmps9
      go_wp2_with fail
      refine (C1.out _).mono ?_
      rintro e w1 ⟨rfl, hE1⟩
      obtain ⟨gc1, gf1⟩ := ecell hE1; have gh1 := bheap hE1; have hz1 := Below.size hE1; simp only [World.size_alloc] at hz1; have hX1 := (ext_dig hE1); have hl1_0 : w.heap.size < w1.heap.size := (by omega); have hm1_0 : w.heap.size < w1.heap.size + 1 := (by omega); have hn1_0 : w.heap.size < w1.heap.size + 1 + 1 := (by omega)
      go_wp2_with fail
      refine (C2.out _).mono ?_
      rintro e w2 ⟨rfl, hE2⟩
      have hE3 := hE1.trans hE2
      clear hE1 hE2 gc1 gf1 gh1 hz1 hX1 hl1_0 hm1_0 hn1_0
      go_wp2_with fail
      refine (C3.out _).mono ?_
      rintro e w3 ⟨rfl, hE4⟩
      have hE5 := hE3.trans hE4
      clear hE3 hE4
      obtain ⟨gc5, gf5⟩ := ecell hE5; have gh5 := bheap hE5; have hz5 := Below.size hE5; simp only [World.size_alloc] at hz5; have hX5 := (ext_dig hE5); have hl5_0 : w.heap.size < w3.heap.size := (by omega); have hm5_0 : w.heap.size < w3.heap.size + 1 := (by omega); have hn5_0 : w.heap.size < w3.heap.size + 1 + 1 := (by omega)
      go_wp2_with fail
      refine bodyPost_ret (v := (.agg #[.int .i64 k1, .int .i64 n1, .string s1])) (by simp [results, Tryd.results9, go_sem, *]) rfl ⟨rfl, ?_⟩; repeat (first | with_reducible assumption | (with_reducible refine below_set ?_ (by first | omega | (simp only [World.size_alloc]; omega))) | (with_reducible refine below_row ?_ (by first | omega | (simp only [World.size_alloc]; omega))) | (with_reducible refine below_drewN ?_ _) | (with_reducible refine below_drew1 ?_) | (with_reducible refine ext_alloc ?_ _))
  · have hv : reptV N s.data.toList = .err 2 := if_neg hbig
    rw [hv]
    have hgt : 64 < (N : Int) := by omega
    have hne : s.toList.isEmpty = false := by
      rw [empty_t]
      simp
      intro hh
      rw [hh] at hbig
      simp at hbig
    clear hv hbig hsl
    go_enter Tryd.func9, Tryd.ntmps9
    go_wp2_with fail
    refine (C1.out _).mono ?_
    rintro e w1 ⟨rfl, hE1⟩
    obtain ⟨gc1, gf1⟩ := ecell hE1; have gh1 := bheap hE1; have hz1 := Below.size hE1; simp only [World.size_alloc] at hz1; have hX1 := (ext_dig hE1); have hl1_0 : w.heap.size < w1.heap.size := (by omega); have hm1_0 : w.heap.size < w1.heap.size + 1 := (by omega); have hn1_0 : w.heap.size < w1.heap.size + 1 + 1 := (by omega)
    go_wp2_with fail
    refine (fail_v 2 _).mono ?_
    rintro e w2 ⟨rfl, hE2⟩
    have hE3 := hE1.trans hE2
    clear hE1 hE2 gc1 gf1 gh1 hz1 hX1 hl1_0 hm1_0 hn1_0
    obtain ⟨gc3, gf3⟩ := ecell hE3; have gh3 := bheap hE3; have hz3 := Below.size hE3; simp only [World.size_alloc] at hz3; have hX3 := (ext_dig hE3); have hl3_0 : w.heap.size < w2.heap.size := (by omega); have hm3_0 : w.heap.size < w2.heap.size + 1 := (by omega); have hn3_0 : w.heap.size < w2.heap.size + 1 + 1 := (by omega)
    unfold RV.val RV.k RV.n RV.s
    go_wp2_with fail
    refine bodyPost_ret (v := (.agg #[.int .i64 4, .int .i64 2, .string ⟨#[]⟩])) (by simp [results, Tryd.results9, go_sem, *]) rfl ⟨rfl, ?_⟩; repeat (first | with_reducible assumption | (with_reducible refine below_set ?_ (by first | omega | (simp only [World.size_alloc]; omega))) | (with_reducible refine below_row ?_ (by first | omega | (simp only [World.size_alloc]; omega))) | (with_reducible refine below_drewN ?_ _) | (with_reducible refine below_drew1 ?_) | (with_reducible refine ext_alloc ?_ _))
end Go.Proofs.YtmdlahkmnjmanaaDoor
