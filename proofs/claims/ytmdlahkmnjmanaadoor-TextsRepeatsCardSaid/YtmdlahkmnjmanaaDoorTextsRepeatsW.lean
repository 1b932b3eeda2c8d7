/-
  TextsRepeats: walk. Conditions: the arguments' own.
-/
import Derived.Test.YtmdlahkmnjmanaaDoorTextsD
import Derived.Deep.DeepCutAuto
namespace Go.Proofs.YtmdlahkmnjmanaaDoor.textsRepeats
open Go.RowKit Num
set_option linter.unusedVariables false
set_option linter.unusedSimpArgs false

theorem rep_snoc (L : List UInt8) (j : Nat) (s o : ByteArray) (hs : s.data.toList = L) (ho : o = ⟨(Lib.repeatL L j).toArray⟩) : o ++ s = ⟨(Lib.repeatL L (j + 1)).toArray⟩ := by
  subst ho hs
  rw [Lib.repeatL_add, Lib.repeatL_one]
  refine ByteArray.ext ?_
  rw [ByteArray.data_append]
  simp
set_option maxHeartbeats 8000000 in
set_option maxRecDepth 100000 in
theorem walk0 (s : ByteArray) (n : Int) (w : World) (ht : Tab w) (hs : s.size ≤ 9223372036854775807) :
    Calls Tryd.prog 4 #[.string s, .int .i64 n] w fun e w' => e = .returned (.bool true) ∧ Ext w w' := by
  have HT := Lib.hid ht
  obtain ⟨t, htt⟩ : ∃ t : Nat, min s.size 64 = t := ⟨_, rfl⟩
  have h17 : min (s.size : Int) 64 = (t : Int) := by omega
  have hts : t ≤ s.size := by omega
  have HSS : Hid ((s.extract 0 t).size ≤ 64) := Lib.hid (by rw [ByteArray.size_extract]; omega)
  have hN : 0 ≤ bits .and .i64 n 127 ∧ bits .and .i64 n 127 ≤ 127 := by rw [and_i64_7]; omega
  clear ht htt
  go_enter Tryd.func4, Tryd.ntmps4
  go_wp2_with fail
  refine (fit_t _ HT.out).mono ?_
  rintro e w1 ⟨rfl, hE1⟩
  go_upto_region 5 with (fail)
  generalize s.extract 0 t = S at *
  generalize bits .and .i64 n 127 = Z at *
  obtain ⟨N, rfl⟩ := Int.eq_ofNat_of_zero_le hN.1
  have hS := HSS.out
  have hN2 : N ≤ 127 := by omega
  obtain ⟨L, hL⟩ : ∃ L, S.data.toList = L := ⟨_, rfl⟩
  have hLl : L.length = S.size := by rw [← hL]; simp
  have HL := Lib.hid hL
  clear h17 hts hs hN hL
  go_wp2_with fail
  go_loop [5, 16] (fun so si => ∃ (i j : Nat) (o : ByteArray), i ≤ N ∧ si = .int .i64 (i : Int) ∧ so = .string o ∧ Hid (o = ⟨(Lib.repeatL L j).toArray⟩) ∧ o.size = j * L.length ∧ o.size ≤ 128 ∧ j ≤ i ∧ (j = i ∨ 64 < o.size)) (fun _ si => N - (intOf si).toNat)
  case atStart => exact ⟨0, 0, ⟨#[]⟩, by omega, rfl, rfl, Lib.hid rfl, by rw [Nat.zero_mul]; rfl, by decide, by omega, .inl rfl⟩
  case round =>
    obtain ⟨i, j, o, hi, rfl, rfl, HO, hos, ho2, hji, hor⟩ := hrel
    by_cases hlt : i < N
    · by_cases h64 : o.size ≤ 64
      · have hj : j = i := by omega
        have h64b : ((o.size : Nat) : Int) ≤ 64 := by omega
        have hsn := Lib.hid (rep_snoc L j S o HL.out HO.out)
        have hsz : (o ++ S).size = (j + 1) * L.length := by rw [ByteArray.size_append, hos, hLl, Nat.succ_mul]
        have hsz2 : (o ++ S).size ≤ 128 := by rw [ByteArray.size_append]; omega
        have HSZ := Lib.hid hsz
        have HSZ2 := Lib.hid hsz2
        clear hsz hsz2 hos
        go_wp2_with fail
        go_round
        case rel => exact ⟨i + 1, j + 1, o ++ S, by omega, by go_num, rfl, hsn, HSZ.out, HSZ2.out, by omega, .inl (by omega)⟩
        case measure => simp [intOf]; omega
      · have h64b : ¬ ((o.size : Nat) : Int) ≤ 64 := by omega
        have HOS := Lib.hid hos
        clear hos
        go_wp2_with fail
        go_round
        case rel => exact ⟨i + 1, j, o, by omega, by go_num, rfl, HO, HOS.out, ho2, by omega, .inr (by omega)⟩
        case measure => simp [intOf]; omega
    · have hiN : i = N := by omega
      have hf := rept_fact L N j (by omega) (by rw [← hos]; rcases hor with h | h; exact .inl (by omega); exact .inr h)
      rw [← HO.out] at hf
      have c1 := fun w => text_v o w
      rw [hf] at c1
      obtain ⟨x, hx⟩ : ∃ x, reptV N L = x := ⟨_, rfl⟩
      have c2 := fun (g : Nat) w => part_rept N S g w (by omega) hS
      rw [HL.out, hx] at c2
      rw [hx] at c1
      clear hf hx
      unfold RetRV RV.val at *
      generalize x.k = k1 at *
      generalize x.n = n1 at *
      generalize x.s = s1 at *
      have C1 := Lib.hid c1
      have C2 := Lib.hid c2
      have q1 := fun w => eql_value_self k1 n1 s1 w
      have q2 := fun w => eql_value_self 4 2 ⟨#[]⟩ w
      clear c1 c2 hos ho2 hor hji
      go_wp2_with fail
      refine (lcount_any N _ (by omega)).mono ?_
      rintro e w2 ⟨rfl, hE2⟩
      go_wp2_with fail
      refine (C2.out _ _ (new_cell _ _ _ 0) (new_lt _ _)).mono ?_
      rintro e w3 ⟨rfl, hE3⟩
      go_wp2_with fail
      refine (C1.out _).mono ?_
      rintro e w4 ⟨rfl, hE4⟩
      go_wp2_with fail
      refine (lcount_any 1 _ (by omega)).mono ?_
      rintro e w5 ⟨rfl, hE5⟩
      go_wp2_with fail
      refine (part_neg_REPT S _ _ (new_cell _ _ _ 0) (new_lt _ _) HSS.out).mono ?_
      rintro e w6 ⟨rfl, hE6⟩
      go_wp2_with fail
      refine (fail_v 2 _).mono ?_
      rintro e w7 ⟨rfl, hE7⟩
      have HF := Lib.hid (hE1.trans (hE2.trans ((ext_dig hE3).trans (hE4.trans (hE5.trans ((ext_dig hE6).trans hE7))))))
      clear hE1 hE2 hE3 hE4 hE5 hE6 hE7
      unfold RV.val RV.k RV.n RV.s
      go_wp2_with fail
      go_ret
      exact ⟨rfl, HF.out⟩
theorem walk (s : ByteArray) (n : Int) (w : World) (ws : s.size ≤ 9223372036854775807) (wn : (Lit.int .i64 n).wf = true) (ht : Tab w) :
    Calls Tryd.prog 4 #[.string s, .int .i64 n] w fun e w' => e = .returned (.bool true) ∧ Below w.heap.size w w' := walk0 s n w ht ws
end Go.Proofs.YtmdlahkmnjmanaaDoor.textsRepeats
