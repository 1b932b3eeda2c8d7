/-
  value: ToNum, ToText, ToBool; the law's fit, light: walks. Conditions: each theorem's own.
-/
import Derived.Test.YtmdlahkmnjmanaaDoorValueW
import Derived.Laws.StructEq
namespace Go.Proofs.YtmdlahkmnjmanaaDoor
open Go.RowKit Num
set_option linter.unusedVariables false
set_option linter.unusedSimpArgs false

theorem parse_yes (p : ByteArray) (w : World) (v : Nat) (hs : p.size ≤ 1000000000000000000) (h : parse p.data.toList = some v) :
    Calls Tryd.prog 26 #[.string p] w fun e w' => e = .returned (.tuple #[.int .i64 (v : Int), .bool true]) ∧ Ext w w' :=
  (parse_any p w hs).mono fun _ _ ⟨h1, _, h3⟩ => ⟨h1 v h, h3⟩
theorem parse_no (p : ByteArray) (w : World) (hs : p.size ≤ 1000000000000000000) (h : parse p.data.toList = none) :
    Calls Tryd.prog 26 #[.string p] w fun e w' => e = .returned (.tuple #[.int .i64 0, .bool false]) ∧ Ext w w' :=
  (parse_any p w hs).mono fun _ _ ⟨_, h2, h3⟩ => ⟨h2 h, h3⟩
theorem trim_len (s p : List UInt8) : (Lib.trimPrefix s p).length ≤ s.length := by
  unfold Lib.trimPrefix; split
  · simp
  · exact Nat.le_refl _
set_option maxHeartbeats 1000000 in
theorem tonum_v (x : RV) (w : World) (h : x.ok) : Calls Tryd.prog 15 #[x.val] w (RetRV (toNum x) w) := by
  have hE := Ext.refl w
  cases x with
  | blank =>
    change Calls _ _ #[.agg #[.int .i64 0, .int .i64 0, .string ⟨#[]⟩]] w _
    go_enter Tryd.func15, Tryd.ntmps15
    go_wp2_with fail
    refine (num_v 0 _).mono ?_
    rintro e w1 ⟨rfl, hE1⟩
    obtain ⟨gc1, gf1⟩ := ecell hE1; have gh1 := bheap hE1; have hz1 := Below.size hE1; simp only [World.size_alloc] at hz1; have hX1 := (ext_dig (ext_dig hE1)); have hl1_0 : w.heap.size < w1.heap.size := (by omega); have hm1_0 : w.heap.size < w1.heap.size + 1 := (by omega); have hn1_0 : w.heap.size < w1.heap.size + 1 + 1 := (by omega); have hl1_1 : w.heap.size + 1 < w1.heap.size := (by omega); have hm1_1 : w.heap.size + 1 < w1.heap.size + 1 := (by omega); have hn1_1 : w.heap.size + 1 < w1.heap.size + 1 + 1 := (by omega)
    unfold RV.val RV.k RV.n RV.s
    go_wp2_with fail
    refine bodyPost_ret (v := (.agg #[.int .i64 1, .int .i64 0, .string ⟨#[]⟩])) (by simp [results, Tryd.results15, go_sem, *]) rfl ⟨rfl, ?_⟩; repeat (first | with_reducible assumption | (with_reducible refine below_set ?_ (by first | omega | (simp only [World.size_alloc]; omega))) | (with_reducible refine below_row ?_ (by first | omega | (simp only [World.size_alloc]; omega))) | (with_reducible refine below_drewN ?_ _) | (with_reducible refine below_drew1 ?_) | (with_reducible refine ext_alloc ?_ _))
  | num n =>
    change Calls _ _ #[.agg #[.int .i64 1, .int .i64 n, .string ⟨#[]⟩]] w _
    go_enter Tryd.func15, Tryd.ntmps15
    go_wp2_with fail
    refine bodyPost_ret (v := (.agg #[.int .i64 1, .int .i64 n, .string ⟨#[]⟩])) (by simp [results, Tryd.results15, go_sem, *]) rfl ⟨rfl, ?_⟩; repeat (first | with_reducible assumption | (with_reducible refine below_set ?_ (by first | omega | (simp only [World.size_alloc]; omega))) | (with_reducible refine below_row ?_ (by first | omega | (simp only [World.size_alloc]; omega))) | (with_reducible refine below_drewN ?_ _) | (with_reducible refine below_drew1 ?_) | (with_reducible refine ext_alloc ?_ _))
  | bool b =>
    cases b
    · change Calls _ _ #[.agg #[.int .i64 3, .int .i64 0, .string ⟨#[]⟩]] w _
      go_enter Tryd.func15, Tryd.ntmps15
      go_wp2_with fail
      refine (num_v _ _).mono ?_
      rintro e w1 ⟨rfl, hE1⟩
      obtain ⟨gc1, gf1⟩ := ecell hE1; have gh1 := bheap hE1; have hz1 := Below.size hE1; simp only [World.size_alloc] at hz1; have hX1 := (ext_dig (ext_dig hE1)); have hl1_0 : w.heap.size < w1.heap.size := (by omega); have hm1_0 : w.heap.size < w1.heap.size + 1 := (by omega); have hn1_0 : w.heap.size < w1.heap.size + 1 + 1 := (by omega); have hl1_1 : w.heap.size + 1 < w1.heap.size := (by omega); have hm1_1 : w.heap.size + 1 < w1.heap.size + 1 := (by omega); have hn1_1 : w.heap.size + 1 < w1.heap.size + 1 + 1 := (by omega)
      unfold RV.val RV.k RV.n RV.s
      go_wp2_with fail
      refine bodyPost_ret (v := (.agg #[.int .i64 1, .int .i64 0, .string ⟨#[]⟩])) (by simp [results, Tryd.results15, go_sem, *]) rfl ⟨rfl, ?_⟩; repeat (first | with_reducible assumption | (with_reducible refine below_set ?_ (by first | omega | (simp only [World.size_alloc]; omega))) | (with_reducible refine below_row ?_ (by first | omega | (simp only [World.size_alloc]; omega))) | (with_reducible refine below_drewN ?_ _) | (with_reducible refine below_drew1 ?_) | (with_reducible refine ext_alloc ?_ _))
    · change Calls _ _ #[.agg #[.int .i64 3, .int .i64 1, .string ⟨#[]⟩]] w _
      go_enter Tryd.func15, Tryd.ntmps15
      go_wp2_with fail
      refine (num_v _ _).mono ?_
      rintro e w1 ⟨rfl, hE1⟩
      obtain ⟨gc1, gf1⟩ := ecell hE1; have gh1 := bheap hE1; have hz1 := Below.size hE1; simp only [World.size_alloc] at hz1; have hX1 := (ext_dig (ext_dig hE1)); have hl1_0 : w.heap.size < w1.heap.size := (by omega); have hm1_0 : w.heap.size < w1.heap.size + 1 := (by omega); have hn1_0 : w.heap.size < w1.heap.size + 1 + 1 := (by omega); have hl1_1 : w.heap.size + 1 < w1.heap.size := (by omega); have hm1_1 : w.heap.size + 1 < w1.heap.size + 1 := (by omega); have hn1_1 : w.heap.size + 1 < w1.heap.size + 1 + 1 := (by omega)
      unfold RV.val RV.k RV.n RV.s
      go_wp2_with fail
      refine bodyPost_ret (v := (.agg #[.int .i64 1, .int .i64 1000000, .string ⟨#[]⟩])) (by simp [results, Tryd.results15, go_sem, *]) rfl ⟨rfl, ?_⟩; repeat (first | with_reducible assumption | (with_reducible refine below_set ?_ (by first | omega | (simp only [World.size_alloc]; omega))) | (with_reducible refine below_row ?_ (by first | omega | (simp only [World.size_alloc]; omega))) | (with_reducible refine below_drewN ?_ _) | (with_reducible refine below_drew1 ?_) | (with_reducible refine ext_alloc ?_ _))
  | err c =>
    change Calls _ _ #[.agg #[.int .i64 4, .int .i64 c, .string ⟨#[]⟩]] w _
    go_enter Tryd.func15, Tryd.ntmps15
    go_wp2_with fail
    refine bodyPost_ret (v := (.agg #[.int .i64 4, .int .i64 c, .string ⟨#[]⟩])) (by simp [results, Tryd.results15, go_sem, *]) rfl ⟨rfl, ?_⟩; repeat (first | with_reducible assumption | (with_reducible refine below_set ?_ (by first | omega | (simp only [World.size_alloc]; omega))) | (with_reducible refine below_row ?_ (by first | omega | (simp only [World.size_alloc]; omega))) | (with_reducible refine below_drewN ?_ _) | (with_reducible refine below_drew1 ?_) | (with_reducible refine ext_alloc ?_ _))
  | text s =>
    have hs : s.size ≤ 64 := h
    have hcut := fun w => Tryd.strings_CutPrefix s ⟨#[45]⟩ w
    obtain ⟨p, hp⟩ : ∃ p : ByteArray, p = ⟨(Lib.trimPrefix s.data.toList [45]).toArray⟩ := ⟨_, rfl⟩
    obtain ⟨m, hm⟩ : ∃ m, Lib.hasPrefix s.data.toList [45] = m := ⟨_, rfl⟩
    have hcut' : ∀ w, Calls Tryd.prog 25 #[.string s, .string ⟨#[45]⟩] w fun e w' => e = .returned (.tuple #[.string p, .bool m]) ∧ w' = w := by
      intro w; rw [hp, ← hm]; exact hcut w
    have hpl : p.data.toList = Lib.trimPrefix s.data.toList [45] := by rw [hp]
    have hps : p.size ≤ 1000000000000000000 := by
      have := trim_len s.data.toList [45]
      rw [← hpl] at this
      simp only [Array.length_toList, ByteArray.size_data] at this
      omega
    have hto : toNum (.text s) = match parse p.data.toList with | none => .err 2 | some v => .num (if m then -(v : Int) else (v : Int)) := by
      rw [hpl, ← hm]; rfl
    rw [hto]
    have HCUT := Lib.hid hcut'
    have HPS := Lib.hid hps
    clear hcut hcut' hp hm hpl hps hto hs h
    cases hq : parse p.data.toList with
    | none =>
      have HP := Lib.hid (fun w => parse_no p w HPS.out hq)
      simp only
      clear hq
      change Calls _ _ #[.agg #[.int .i64 2, .int .i64 0, .string s]] w _
      go_enter Tryd.func15, Tryd.ntmps15
      go_wp2_with fail
      refine (HCUT.out _).mono ?_
      rintro e w0 ⟨rfl, rfl⟩
      go_wp2_with fail
      refine (HP.out _).mono ?_
      rintro e w1 ⟨rfl, hE1⟩
      go_wp2_with fail
      refine (fail_v 2 _).mono ?_
      rintro e w2 ⟨rfl, hE2⟩
      have hE3 := Ext.trans hE1 hE2
      obtain ⟨gc3, gf3⟩ := ecell hE3; have gh3 := bheap hE3; have hz3 := Below.size hE3; simp only [World.size_alloc] at hz3; have hX3 := (ext_dig (ext_dig hE3)); have hl3_0 : w.heap.size < w2.heap.size := (by omega); have hm3_0 : w.heap.size < w2.heap.size + 1 := (by omega); have hn3_0 : w.heap.size < w2.heap.size + 1 + 1 := (by omega); have hl3_1 : w.heap.size + 1 < w2.heap.size := (by omega); have hm3_1 : w.heap.size + 1 < w2.heap.size + 1 := (by omega); have hn3_1 : w.heap.size + 1 < w2.heap.size + 1 + 1 := (by omega)
      unfold RV.val RV.k RV.n RV.s
      go_wp2_with fail
      refine bodyPost_ret (v := (.agg #[.int .i64 4, .int .i64 2, .string ⟨#[]⟩])) (by simp [results, Tryd.results15, go_sem, *]) rfl ⟨rfl, ?_⟩; repeat (first | with_reducible assumption | (with_reducible refine below_set ?_ (by first | omega | (simp only [World.size_alloc]; omega))) | (with_reducible refine below_row ?_ (by first | omega | (simp only [World.size_alloc]; omega))) | (with_reducible refine below_drewN ?_ _) | (with_reducible refine below_drew1 ?_) | (with_reducible refine ext_alloc ?_ _))
    | some v =>
      have HP := Lib.hid (fun w => parse_yes p w v HPS.out hq)
      have hv := parse_le hq
      have hv2 : (v : Int) ≤ 9223372036854775807 := by omega
      simp only
      clear hq hv
      cases m
      · simp only [Bool.false_eq_true, if_false]
        change Calls _ _ #[.agg #[.int .i64 2, .int .i64 0, .string s]] w _
        go_enter Tryd.func15, Tryd.ntmps15
        go_wp2_with fail
        refine (HCUT.out _).mono ?_
        rintro e w0 ⟨rfl, rfl⟩
        go_wp2_with fail
        refine (HP.out _).mono ?_
        rintro e w1 ⟨rfl, hE1⟩
        go_wp2_with fail
        refine (num_v _ _).mono ?_
        rintro e w2 ⟨rfl, hE2⟩
        have hE3 := Ext.trans hE1 hE2
        obtain ⟨gc3, gf3⟩ := ecell hE3; have gh3 := bheap hE3; have hz3 := Below.size hE3; simp only [World.size_alloc] at hz3; have hX3 := (ext_dig (ext_dig hE3)); have hl3_0 : w.heap.size < w2.heap.size := (by omega); have hm3_0 : w.heap.size < w2.heap.size + 1 := (by omega); have hn3_0 : w.heap.size < w2.heap.size + 1 + 1 := (by omega); have hl3_1 : w.heap.size + 1 < w2.heap.size := (by omega); have hm3_1 : w.heap.size + 1 < w2.heap.size + 1 := (by omega); have hn3_1 : w.heap.size + 1 < w2.heap.size + 1 + 1 := (by omega)
        unfold RV.val RV.k RV.n RV.s
        go_wp2_with fail
        refine bodyPost_ret (v := (.agg #[.int .i64 1, .int .i64 (v : Int), .string ⟨#[]⟩])) (by simp [results, Tryd.results15, go_sem, *]) rfl ⟨rfl, ?_⟩; repeat (first | with_reducible assumption | (with_reducible refine below_set ?_ (by first | omega | (simp only [World.size_alloc]; omega))) | (with_reducible refine below_row ?_ (by first | omega | (simp only [World.size_alloc]; omega))) | (with_reducible refine below_drewN ?_ _) | (with_reducible refine below_drew1 ?_) | (with_reducible refine ext_alloc ?_ _))
      · simp only [if_true]
        change Calls _ _ #[.agg #[.int .i64 2, .int .i64 0, .string s]] w _
        go_enter Tryd.func15, Tryd.ntmps15
        go_wp2_with fail
        refine (HCUT.out _).mono ?_
        rintro e w0 ⟨rfl, rfl⟩
        go_wp2_with fail
        refine (HP.out _).mono ?_
        rintro e w1 ⟨rfl, hE1⟩
        go_wp2_with fail
        refine (num_v _ _).mono ?_
        rintro e w2 ⟨rfl, hE2⟩
        have hE3 := Ext.trans hE1 hE2
        obtain ⟨gc3, gf3⟩ := ecell hE3; have gh3 := bheap hE3; have hz3 := Below.size hE3; simp only [World.size_alloc] at hz3; have hX3 := (ext_dig (ext_dig hE3)); have hl3_0 : w.heap.size < w2.heap.size := (by omega); have hm3_0 : w.heap.size < w2.heap.size + 1 := (by omega); have hn3_0 : w.heap.size < w2.heap.size + 1 + 1 := (by omega); have hl3_1 : w.heap.size + 1 < w2.heap.size := (by omega); have hm3_1 : w.heap.size + 1 < w2.heap.size + 1 := (by omega); have hn3_1 : w.heap.size + 1 < w2.heap.size + 1 + 1 := (by omega)
        unfold RV.val RV.k RV.n RV.s
        go_wp2_with fail
        refine bodyPost_ret (v := (.agg #[.int .i64 1, .int .i64 (-(v : Int)), .string ⟨#[]⟩])) (by simp [results, Tryd.results15, go_sem, *]) rfl ⟨rfl, ?_⟩; repeat (first | with_reducible assumption | (with_reducible refine below_set ?_ (by first | omega | (simp only [World.size_alloc]; omega))) | (with_reducible refine below_row ?_ (by first | omega | (simp only [World.size_alloc]; omega))) | (with_reducible refine below_drewN ?_ _) | (with_reducible refine below_drew1 ?_) | (with_reducible refine ext_alloc ?_ _))
end Go.Proofs.YtmdlahkmnjmanaaDoor
