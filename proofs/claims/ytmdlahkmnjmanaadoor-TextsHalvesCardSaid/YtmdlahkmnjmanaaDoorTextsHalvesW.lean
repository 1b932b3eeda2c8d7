/-
  TextsHalves: walk. Conditions: the arguments' own.
-/
import Derived.Test.YtmdlahkmnjmanaaDoorTextsE
import Derived.Deep.DeepCutAuto
import Derived.OpenShut
namespace Go.Proofs.YtmdlahkmnjmanaaDoor.textsHalves
open Go.RowKit Num
set_option linter.unusedVariables false
set_option linter.unusedSimpArgs false

set_option maxHeartbeats 8000000 in
set_option maxRecDepth 100000 in
theorem walk0 (s : ByteArray) (n : Int) (w : World) (ht : Tab w) (hs : s.size ≤ 9223372036854775807) (hn : -9223372036854775808 ≤ n ∧ n ≤ 9223372036854775807) :
    Calls Tryd.prog 7 #[.string s, .int .i64 n] w fun e w' => e = .returned (.bool true) ∧ Ext w w' := by
  have HT := Lib.hid ht
  obtain ⟨t, htt⟩ : ∃ t : Nat, min s.size 64 = t := ⟨_, rfl⟩
  have h17 : min (s.size : Int) 64 = (t : Int) := by omega
  have hts : t ≤ s.size := by omega
  have HSS : Hid ((s.extract 0 t).size ≤ 64) := Lib.hid (by rw [ByteArray.size_extract]; omega)
  obtain ⟨z, hz⟩ : ∃ z : Int, n.tmod 65 = z := ⟨_, rfl⟩
  have hzb : -65 < z ∧ z < 65 := by
    have h1 := Int.tmod_lt_of_pos n (show (0 : Int) < 65 by decide)
    have h2 := Int.lt_tmod_of_pos n (show (0 : Int) < 65 by decide)
    omega
  have hzw : IntKind.i64.wrap (z + 65) = z + 65 := IntWalk.i64_in _ ⟨by omega, by omega⟩
  obtain ⟨y, hy⟩ : ∃ y : Int, (z + 65).tmod 65 = y := ⟨_, rfl⟩
  have hyb : 0 ≤ y ∧ y < 65 := by
    have h1 := Int.tmod_lt_of_pos (z + 65) (show (0 : Int) < 65 by decide)
    have h2 := Int.tmod_nonneg 65 (show (0 : Int) ≤ z + 65 by omega)
    omega
  clear ht htt
  go_enter Tryd.func7, Tryd.ntmps7
  go_wp2_with fail
  refine (fit_t _ HT.out).mono ?_
  rintro e w1 ⟨rfl, hE1⟩
  go_upto_region 5 with (fail)
  generalize s.extract 0 t = S at *
  have hS := HSS.out
  obtain ⟨K, hK⟩ : ∃ K : Nat, min y.toNat S.size = K := ⟨_, rfl⟩
  have hKm : min y (S.size : Int) = (K : Int) := by omega
  have hKS : K ≤ S.size := by omega
  obtain ⟨R, hR⟩ : ∃ R : Nat, S.size - K = R := ⟨_, rfl⟩
  have hRw : IntKind.i64.wrap ((S.size : Int) - (K : Int)) = (R : Int) := by rw [IntWalk.i64_in _ ⟨by omega, by omega⟩]; omega
  have hKw : IntKind.i64.wrap ((K : Int) + 1) = (K : Int) + 1 := IntWalk.i64_in _ ⟨by omega, by omega⟩
  have HKS := Lib.hid hKS
  have HR := Lib.hid hR
  have x1 : -1 ≤ (K : Int) ∧ (K : Int) ≤ 1000 := by omega
  have x2 : -1 ≤ (R : Int) ∧ (R : Int) ≤ 1000 := by omega
  have x3 : -1 ≤ (K : Int) + 1 ∧ (K : Int) + 1 ≤ 1000 := by omega
  have x4 : -1 ≤ (S.size : Int) ∧ (S.size : Int) ≤ 1000 := by omega
  have c1 := fun w => lcount_any K w x1
  have c2 := fun w => lcount_any R w x2
  have c3 := fun w => lcount_any ((K : Int) + 1) w x3
  have c4 := fun w => lcount_any S.size w x4
  have p1 := fun g w hg hl => part_left K K S g w (by omega) (by omega) hg hl hS
  have p2 := fun g w hg hl => part_right R R S g w (by omega) (by omega) hg hl hS
  have p3 := fun g w hg hg1 hl => part_mid ((K : Int) + 1) S.size S.size K S.size S g w (by omega) (by omega) (by omega) (by omega) (by omega) hg hg1 hl hS
  rw [show S.size - R = K by omega] at p2
  have c5 := fun g w ha hb hl => more_concat (S.extract 0 K) (S.extract K S.size) S g w (halves_list S K hKS) hS ha hb hl
  have c6 := fun w => vtext_yes S w hS
  have hcat := halves S K hKS
  have q1 := fun w => eql_value_self 2 0 (S.extract K S.size) w
  have q2 := fun w => eql_value_self 2 0 S w
  have hA64 : (S.extract 0 K).size ≤ 64 := ext_le _ _ _ hS
  have hB64 : (S.extract K S.size).size ≤ 64 := ext_le _ _ _ hS
  generalize S.extract 0 K = A at *
  generalize S.extract K S.size = B at *
  have C1 := Lib.hid c1
  have C2 := Lib.hid c2
  have C3 := Lib.hid c3
  have C4 := Lib.hid c4
  have P1 := Lib.hid p1
  have P2 := Lib.hid p2
  have P3 := Lib.hid p3
  have C5 := Lib.hid c5
  have C6 : Hid (∀ w, Calls Tryd.prog 11 #[.string S] w fun e w' => e = .returned (.agg #[.int .i64 2, .int .i64 0, .string S]) ∧ Ext w w') := Lib.hid fun w => (c6 w).mono fun _ _ h => h
  clear c1 c2 c3 c4 p1 p2 p3 c5 c6 x1 x2 x3 x4 hK hR h17 hts hz hzb hzw hy hn hs
  go_wp2_with fail
  refine (C1.out _).mono ?_
  rintro e w2 ⟨rfl, hE2⟩
  go_wp2_with fail
  refine (P1.out _ _ (new_cell _ _ _ 0) (new_lt _ _)).mono ?_
  rintro e w3 ⟨rfl, hE3⟩
  go_wp2_with fail
  refine (C2.out _).mono ?_
  rintro e w4 ⟨rfl, hE4⟩
  go_wp2_with fail
  refine (P2.out _ _ (new_cell _ _ _ 0) (new_lt _ _)).mono ?_
  rintro e w5 ⟨rfl, hE5⟩
  have hE15 := hE1.trans (hE2.trans ((ext_dig hE3).trans (hE4.trans (ext_dig hE5))))
  clear hE1 hE2 hE3 hE4 hE5
  obtain ⟨W6, hW6, hE6, hG6, hL6, hS6⟩ := new_blk w5 #[.int .i64 2, .int .i64 0, .string A] 24
  obtain ⟨W7, hW7, hE7, hG7, hL7, hS7⟩ := new_blk W6 #[.int .i64 2, .int .i64 0, .string B] 24
  rw [hS6] at hG7
  have HW6 := Lib.hid hW6
  have HW7 := Lib.hid hW7
  have HE7 := Lib.hid (hE15.trans (hE6.trans hE7))
  have HG6 := Lib.hid (hE7.blk hG6)
  have HG7 := Lib.hid hG7
  clear hW6 hW7 hE6 hE7 hG6 hG7 hL6 hL7 hS6 hS7 hE15
  go_upto_region 7 with (fail)
  rw [HW6.out, HW7.out]
  clear HW6 HW7
  generalize w5.heap.size = g6 at *
  go_wp2_with fail
  refine (C3.out _).mono ?_
  rintro e w8 ⟨rfl, hE8⟩
  go_wp2_with fail
  refine (C4.out _).mono ?_
  rintro e w9 ⟨rfl, hE9⟩
  go_wp2_with fail
  refine (P3.out _ _ (new_cell _ _ _ 0) (new_cell _ _ _ 1) (new_lt _ _)).mono ?_
  rintro e w10 ⟨rfl, hE10⟩
  obtain ⟨W11, hW11, hE11, hG11, hL11, -⟩ := new_blk w10 #[.int .i64 2, .int .i64 0, .string B] 24
  have HW11 := Lib.hid hW11
  have E711 := hE8.trans (hE9.trans ((ext_dig hE10).trans hE11))
  have HE11 := Lib.hid (HE7.out.trans E711)
  have b6 := ext_blk (E711.blk HG6.out)
  have l6 := ext_lt (blk_lt (E711.blk HG6.out))
  have b7 := ext_blk (E711.blk HG7.out)
  have l7 := ext_lt (blk_lt (E711.blk HG7.out))
  have b11 := ext_blk hG11
  have l11 := ext_lt (blk_lt hG11)
  have hr := Ext.refl W11
  clear hW11 hE8 hE9 hE10 hE11 hG11 hL11 E711 HG6 HG7 HE7
  have qs : (A ++ B).toList == S.toList := by rw [hcat]; simp
  go_upto_region 8 with (fail)
  rw [HW11.out]
  clear HW11
  go_wp2_with fail
  refine (C5.out _ _ (new_cell _ _ _ 0) (new_cell _ _ _ 1) (new_lt _ _)).mono ?_
  rintro e w12 ⟨rfl, hE12⟩
  go_wp2_with fail
  refine (C6.out _).mono ?_
  rintro e w13 ⟨rfl, hE13⟩
  go_wp2_with fail
  go_ret
  exact ⟨rfl, HE11.out.trans ((ext_dig hE12).trans hE13)⟩
theorem walk (s : ByteArray) (n : Int) (w : World) (ws : s.size ≤ 9223372036854775807) (wn : (Lit.int .i64 n).wf = true) (ht : Tab w) :
    Calls Tryd.prog 7 #[.string s, .int .i64 n] w fun e w' => e = .returned (.bool true) ∧ Below w.heap.size w w' := walk0 s n w ht ws (bounds_i64 wn)
end Go.Proofs.YtmdlahkmnjmanaaDoor.textsHalves
