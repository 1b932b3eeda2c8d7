/-
  ValueRight: walk. Conditions: the arguments' own.
-/
import Derived.Test.YtkkfgobdkbcdhaaDoorErrsB
import Derived.Test.YtkkfgobdkbcdhaaDoorArgU
import Derived.Deep.CutBlock
import Derived.Deep.DeepCutAuto
namespace Go.Proofs.YtkkfgobdkbcdhaaDoor.valueRight
open Go.RowKit Num
set_option linter.unusedVariables false
set_option linter.unusedSimpArgs false

theorem vr0 (n : Int) (v : ByteArray) : vr 0 n v = (n == 0 && v.toList.isEmpty) := by rw [empty_size, Bool.eq_iff_iff]; simp [vr]
theorem vr1 (n : Int) (v : ByteArray) : vr 1 n v = (n != -9223372036854775808 && v.toList.isEmpty) := by rw [empty_size, Bool.eq_iff_iff]; simp [vr]
theorem vr2 (n : Int) (v : ByteArray) : vr 2 n v = (n == 0 && decide ((v.size : Int) ≤ 64)) := by rw [Bool.eq_iff_iff]; simp [vr]; omega
theorem vr3 (n : Int) (v : ByteArray) : vr 3 n v = ((n == 0 || n == 1) && v.toList.isEmpty) := by rw [empty_size, Bool.eq_iff_iff]; simp [vr]
theorem vr4 (n : Int) (v : ByteArray) : vr 4 n v = ((decide (1 ≤ n) && decide (n ≤ 7)) && v.toList.isEmpty) := by rw [empty_size, Bool.eq_iff_iff]; simp [vr, and_assoc]
theorem bool_is {p q : Bool} (h : p = q) : Value.bool p = Value.bool q := by rw [h]
set_option maxHeartbeats 4000000 in
set_option maxRecDepth 100000 in
theorem walk0 (k n m : Int) (v s : ByteArray) (w : World) (ht : Tab w) (hn : -9223372036854775808 ≤ n ∧ n ≤ 9223372036854775807) (hv : (v.size : Int) ≤ 300) (hs : (s.size : Int) ≤ 300) (hmm : -9223372036854775807 ≤ m ∧ m ≤ 9223372036854775807)
    (hvm : v.size ≤ 9223372036854775807) : Calls Tryd.prog 4 #[.agg #[.int .i64 k, .int .i64 n, .string v], .string s, .int .i64 m] w fun e w' => e = .returned (.bool true) ∧ Ext w w' := by
  have hm : (m == -9223372036854775808) = false := by simp; omega
  have hsb : decide (300 < (s.size : Int)) = false := by simp; omega
  have hvb : decide ((v.size : Int) ≤ 300) = true := by simp; omega
  have HMM := Lib.hid hmm
  have HN := Lib.hid hn
  have HT := Lib.hid ht
  obtain ⟨u, hu⟩ : ∃ u, vr k n v = u := ⟨_, rfl⟩
  have c1 := fun w => vright_any k n v w hn
  rw [hu] at c1
  have C1 := Lib.hid c1
  have HU := Lib.hid hu
  have HE := Lib.hid (empty_size v)
  clear hu c1 hmm ht
  go_enter Tryd.func4, Tryd.ntmps4
  go_wp2_with fail
  refine (fit_v _ (HT.out.alloc _)).mono ?_
  rintro e w1 ⟨rfl, hE1⟩
  obtain ⟨gc1, gf1⟩ := ecell hE1; have gh1 := bheap hE1; have hz1 := Below.size hE1; simp only [World.size_alloc] at hz1; have hX1 := (ext_dig hE1); have hl1_0 : w.heap.size < w1.heap.size := (by omega); have hm1_0 : w.heap.size < w1.heap.size + 1 := (by omega); have hn1_0 : w.heap.size < w1.heap.size + 1 + 1 := (by omega)
  go_wp2_with fail
  refine (light_any k n v _ hvm).mono ?_
  rintro e w2 ⟨rfl, hE2⟩
  have hE3 := Ext.trans hE1 hE2
  clear hE1 hE2 gc1 gf1 gh1 hz1 hX1 hl1_0 hm1_0 hn1_0
  obtain ⟨gc3, gf3⟩ := ecell hE3; have gh3 := bheap hE3; have hz3 := Below.size hE3; simp only [World.size_alloc] at hz3; have hX3 := (ext_dig hE3); have hl3_0 : w.heap.size < w2.heap.size := (by omega); have hm3_0 : w.heap.size < w2.heap.size + 1 := (by omega); have hn3_0 : w.heap.size < w2.heap.size + 1 + 1 := (by omega)
  have HX := Lib.hid hX3
  go_upto_block 0 with (fail)
  go_cut [7] (fun c wx => c = .bool u ∧ w2 = wx)
  case first =>
    have hem : v.toList.isEmpty = true ∨ v.toList.isEmpty = false := by cases v.toList.isEmpty <;> simp
    have h64 : decide ((v.size : Int) ≤ 64) = true ∨ decide ((v.size : Int) ≤ 64) = false := by cases decide ((v.size : Int) ≤ 64) <;> simp
    by_cases h0 : k = 0
    · subst h0
      by_cases hz : n = 0
      · subst hz
        rcases hem with hem | hem
        · go_wp2_with fail
          go_meet
          case rel => exact ⟨bool_is (by rw [← HU.out, vr0]; simp [*]), rfl⟩
        · go_wp2_with fail
          go_meet
          case rel => exact ⟨bool_is (by rw [← HU.out, vr0]; simp [*]), rfl⟩
      · have hz' : (n == 0) = false := by simpa using hz
        clear hz
        rcases hem with hem | hem
        · go_wp2_with fail
          go_meet
          case rel => exact ⟨bool_is (by rw [← HU.out, vr0]; simp [*]), rfl⟩
        · go_wp2_with fail
          go_meet
          case rel => exact ⟨bool_is (by rw [← HU.out, vr0]; simp [*]), rfl⟩
    by_cases h1 : k = 1
    · subst h1
      by_cases hz : n = -9223372036854775808
      · subst hz
        rcases hem with hem | hem
        · go_wp2_with fail
          go_meet
          case rel => exact ⟨bool_is (by rw [← HU.out, vr1]; simp [*]), rfl⟩
        · go_wp2_with fail
          go_meet
          case rel => exact ⟨bool_is (by rw [← HU.out, vr1]; simp [*]), rfl⟩
      · have hz' : (n != -9223372036854775808) = true := by simpa using hz
        have hlt : -9223372036854775808 < n := by have := HN.out; omega
        clear hz
        rcases hem with hem | hem
        · go_wp2_with fail
          go_meet
          case rel => exact ⟨bool_is (by rw [← HU.out, vr1]; simp [*]), rfl⟩
        · go_wp2_with fail
          go_meet
          case rel => exact ⟨bool_is (by rw [← HU.out, vr1]; simp [*]), rfl⟩
    by_cases h2 : k = 2
    · subst h2
      by_cases hz : n = 0
      · subst hz
        rcases h64 with h64 | h64
        · go_wp2_with fail
          go_meet
          case rel => exact ⟨bool_is (by rw [← HU.out, vr2]; simp [*]), rfl⟩
        · go_wp2_with fail
          go_meet
          case rel => exact ⟨bool_is (by rw [← HU.out, vr2]; simp [*]), rfl⟩
      · have hz' : (n == 0) = false := by simpa using hz
        clear hz
        rcases h64 with h64 | h64
        · go_wp2_with fail
          go_meet
          case rel => exact ⟨bool_is (by rw [← HU.out, vr2]; simp [*]), rfl⟩
        · go_wp2_with fail
          go_meet
          case rel => exact ⟨bool_is (by rw [← HU.out, vr2]; simp [*]), rfl⟩
    by_cases h3 : k = 3
    · subst h3
      by_cases hz : n = 0
      · subst hz
        rcases hem with hem | hem
        · go_wp2_with fail
          go_meet
          case rel => exact ⟨bool_is (by rw [← HU.out, vr3]; simp [*]), rfl⟩
        · go_wp2_with fail
          go_meet
          case rel => exact ⟨bool_is (by rw [← HU.out, vr3]; simp [*]), rfl⟩
      by_cases hy : n = 1
      · subst hy
        rcases hem with hem | hem
        · go_wp2_with fail
          go_meet
          case rel => exact ⟨bool_is (by rw [← HU.out, vr3]; simp [*]), rfl⟩
        · go_wp2_with fail
          go_meet
          case rel => exact ⟨bool_is (by rw [← HU.out, vr3]; simp [*]), rfl⟩
      · have hz' : (n == 0) = false := by simpa using hz
        have hy' : (n == 1) = false := by simpa using hy
        clear hz hy
        rcases hem with hem | hem
        · go_wp2_with fail
          go_meet
          case rel => exact ⟨bool_is (by rw [← HU.out, vr3]; simp [*]), rfl⟩
        · go_wp2_with fail
          go_meet
          case rel => exact ⟨bool_is (by rw [← HU.out, vr3]; simp [*]), rfl⟩
    by_cases h4 : k = 4
    · subst h4
      by_cases hz : 1 ≤ n
      · by_cases hy : n ≤ 7
        · skip
          rcases hem with hem | hem
          · go_wp2_with fail
            go_meet
            case rel => exact ⟨bool_is (by rw [← HU.out, vr4]; simp [*]), rfl⟩
          · go_wp2_with fail
            go_meet
            case rel => exact ⟨bool_is (by rw [← HU.out, vr4]; simp [*]), rfl⟩
        · have hy' : decide (n ≤ 7) = false := by simpa using hy
          rcases hem with hem | hem
          · go_wp2_with fail
            go_meet
            case rel => exact ⟨bool_is (by rw [← HU.out, vr4]; simp [*]), rfl⟩
          · go_wp2_with fail
            go_meet
            case rel => exact ⟨bool_is (by rw [← HU.out, vr4]; simp [*]), rfl⟩
      · have hz' : decide (1 ≤ n) = false := by simpa using hz
        rcases hem with hem | hem
        · go_wp2_with fail
          go_meet
          case rel => exact ⟨bool_is (by rw [← HU.out, vr4]; simp [*]), rfl⟩
        · go_wp2_with fail
          go_meet
          case rel => exact ⟨bool_is (by rw [← HU.out, vr4]; simp [*]), rfl⟩
    · have t0 : (k == 0) = false := by simp; omega
      have t1 : (k == 1) = false := by simp; omega
      have t2 : (k == 2) = false := by simp; omega
      have t3 : (k == 3) = false := by simp; omega
      have t4 : (k == 4) = false := by simp; omega
      have hvv : Hid (vr k n v = false) := by show _ = _; simp [vr, h0, h1, h2, h3, h4]
      clear h0 h1 h2 h3 h4
      go_wp2_with fail
      go_meet
      case rel => exact ⟨bool_is (by rw [← HU.out, hvv.out]), rfl⟩
  case rest =>
  obtain ⟨rfl, rfl⟩ := hcut
  have k1 : w2.heap[w.heap.size]? = some (.cells #[.int .i64 k, .int .i64 n, .string v] 28) := by rw [gh3 _ (by simp)]; exact hq_at _ _ rfl
  clear gc3 gf3 gh3 hz3 hX3 hl3_0 hm3_0 hn3_0 HE HU
  have ct := fun w => text_v s w
  unfold textOf at ct
  by_cases h64 : s.size ≤ 64
  · have h64' : (s.size : Int) ≤ 64 := by omega
    have h64b : decide ((s.size : Int) ≤ 64) = true := by simpa using h64'
    simp only [if_pos h64] at ct
    have HOKT : Hid ((RV.text s).ok) := Lib.hid h64
    have CT : Hid (∀ w, Calls Tryd.prog 13 #[.string s] w fun e w' => e = .returned (.agg #[.int .i64 2, .int .i64 0, .string s]) ∧ Ext w w') := Lib.hid ct
    clear ct h64
    go_wp2_with fail
    refine (CT.out _).mono ?_
    rintro e w4 ⟨rfl, hE4⟩
    obtain ⟨W5, hW5, hE5, hG5, hL5, -⟩ := new_blk w4 #[.int .i64 2, .int .i64 0, .string s] 28
    have HW5 := Lib.hid hW5
    have E25 := Ext.trans hE4 hE5
    have b1 := ext_blk (E25.blk k1)
    have b2 := ext_blk hG5
    have l1 := ext_lt (blk_lt (E25.blk k1))
    have l2 := ext_lt hL5
    have e1 : CallE Tryd.prog W5 14 #[.agg #[.int .i64 k, .int .i64 n, .string v]] (.bool u) := fun w' _ => C1.out w'
    have e2 : CallE Tryd.prog W5 14 #[.agg #[.int .i64 2, .int .i64 0, .string s]] (.bool true) := fun w' _ => right_v (.text s) w' HOKT.out
    have e3 : CallE Tryd.prog W5 15 #[.int .i64 m] (.agg #[.int .i64 1, .int .i64 m, .string ⟨#[]⟩]) := fun w' _ => num_v m w'
    have e4 : CallE Tryd.prog W5 14 #[.agg #[.int .i64 1, .int .i64 m, .string ⟨#[]⟩]] (.bool true) := fun w' _ => right_v (.num m) w' HMM.out
    have e5 : CallE Tryd.prog W5 16 #[.int .i64 m, .bool false] (.agg #[.int .i64 4, .int .i64 5, .string ⟨#[]⟩]) := fun w' _ => made_no_v m w'
    have e6 : CallE Tryd.prog W5 17 #[.int .i64 5] (.agg #[.int .i64 4, .int .i64 5, .string ⟨#[]⟩]) := fun w' _ => fail_v 5 w'
    have e7 : CallE Tryd.prog W5 16 #[.int .i64 m, .bool true] (.agg #[.int .i64 1, .int .i64 m, .string ⟨#[]⟩]) := fun w' _ => made_yes_v m w'
    have e8 : CallE Tryd.prog W5 18 #[.bool true] (.agg #[.int .i64 3, .int .i64 1, .string ⟨#[]⟩]) := fun w' _ => bool_v true w'
    have e9 : CallE Tryd.prog W5 18 #[.bool false] (.agg #[.int .i64 3, .int .i64 0, .string ⟨#[]⟩]) := fun w' _ => bool_v false w'
    have e10 : CallE Tryd.prog W5 14 #[.agg #[.int .i64 3, .int .i64 0, .string ⟨#[]⟩]] (.bool true) := fun w' _ => right_v (.bool false) w' trivial
    have huu : (u == u) = true := by simp
    have hEx := Ext.refl W5
    have fd1 := vfield1
    have HF := Lib.hid (HX.out.trans E25)
    clear hW5 E25 hE4 hE5 hG5 hL5 k1
    go_upto_region 18 with (fail)
    rw [HW5.out]
    clear HW5
    go_wp2_with (first | ((with_reducible refine (CallE.at_ (by assumption) (by assumption)).mono ?_); rintro e w' ⟨rfl, hEx⟩))
    go_ret
    exact ⟨rfl, HF.out.trans (by assumption)⟩
  · have h64' : ¬ (s.size : Int) ≤ 64 := by omega
    have h64b : decide ((s.size : Int) ≤ 64) = false := by simpa using h64'
    simp only [if_neg h64] at ct
    have HOKT : Hid ((RV.err 2).ok) := Lib.hid ⟨by omega, by omega⟩
    have CT : Hid (∀ w, Calls Tryd.prog 13 #[.string s] w fun e w' => e = .returned (.agg #[.int .i64 4, .int .i64 2, .string ⟨#[]⟩]) ∧ Ext w w') := Lib.hid ct
    clear ct h64
    go_wp2_with fail
    refine (CT.out _).mono ?_
    rintro e w4 ⟨rfl, hE4⟩
    obtain ⟨W5, hW5, hE5, hG5, hL5, -⟩ := new_blk w4 #[.int .i64 4, .int .i64 2, .string ⟨#[]⟩] 28
    have HW5 := Lib.hid hW5
    have E25 := Ext.trans hE4 hE5
    have b1 := ext_blk (E25.blk k1)
    have b2 := ext_blk hG5
    have l1 := ext_lt (blk_lt (E25.blk k1))
    have l2 := ext_lt hL5
    have e1 : CallE Tryd.prog W5 14 #[.agg #[.int .i64 k, .int .i64 n, .string v]] (.bool u) := fun w' _ => C1.out w'
    have e2 : CallE Tryd.prog W5 14 #[.agg #[.int .i64 4, .int .i64 2, .string ⟨#[]⟩]] (.bool true) := fun w' _ => right_v (.err 2) w' HOKT.out
    have e3 : CallE Tryd.prog W5 15 #[.int .i64 m] (.agg #[.int .i64 1, .int .i64 m, .string ⟨#[]⟩]) := fun w' _ => num_v m w'
    have e4 : CallE Tryd.prog W5 14 #[.agg #[.int .i64 1, .int .i64 m, .string ⟨#[]⟩]] (.bool true) := fun w' _ => right_v (.num m) w' HMM.out
    have e5 : CallE Tryd.prog W5 16 #[.int .i64 m, .bool false] (.agg #[.int .i64 4, .int .i64 5, .string ⟨#[]⟩]) := fun w' _ => made_no_v m w'
    have e6 : CallE Tryd.prog W5 17 #[.int .i64 5] (.agg #[.int .i64 4, .int .i64 5, .string ⟨#[]⟩]) := fun w' _ => fail_v 5 w'
    have e7 : CallE Tryd.prog W5 16 #[.int .i64 m, .bool true] (.agg #[.int .i64 1, .int .i64 m, .string ⟨#[]⟩]) := fun w' _ => made_yes_v m w'
    have e8 : CallE Tryd.prog W5 18 #[.bool true] (.agg #[.int .i64 3, .int .i64 1, .string ⟨#[]⟩]) := fun w' _ => bool_v true w'
    have e9 : CallE Tryd.prog W5 18 #[.bool false] (.agg #[.int .i64 3, .int .i64 0, .string ⟨#[]⟩]) := fun w' _ => bool_v false w'
    have e10 : CallE Tryd.prog W5 14 #[.agg #[.int .i64 3, .int .i64 0, .string ⟨#[]⟩]] (.bool true) := fun w' _ => right_v (.bool false) w' trivial
    have huu : (u == u) = true := by simp
    have hEx := Ext.refl W5
    have fd1 := vfield1
    have HF := Lib.hid (HX.out.trans E25)
    clear hW5 E25 hE4 hE5 hG5 hL5 k1
    go_upto_region 18 with (fail)
    rw [HW5.out]
    clear HW5
    go_wp2_with (first | ((with_reducible refine (CallE.at_ (by assumption) (by assumption)).mono ?_); rintro e w' ⟨rfl, hEx⟩))
    go_ret
    exact ⟨rfl, HF.out.trans (by assumption)⟩
set_option maxHeartbeats 1000000 in
/-- What is too long, or no number, is passed over. -/
theorem over1 (k n m : Int) (v s : ByteArray) (w : World) (ht : Tab w) (hvm : v.size ≤ 9223372036854775807) (hsm : s.size ≤ 9223372036854775807) (hc : 300 < (v.size : Int) ∨ 300 < (s.size : Int) ∨ m = -9223372036854775808) :
    Calls Tryd.prog 4 #[.agg #[.int .i64 k, .int .i64 n, .string v], .string s, .int .i64 m] w fun e w' => e = .returned (.bool true) ∧ Ext w w' := by
  have HT := Lib.hid ht
  have hv : decide ((v.size : Int) ≤ 300) = true ∨ decide ((v.size : Int) ≤ 300) = false := by cases decide ((v.size : Int) ≤ 300) <;> simp
  have hs : decide (300 < (s.size : Int)) = true ∨ decide (300 < (s.size : Int)) = false := by cases decide (300 < (s.size : Int)) <;> simp
  have HL := Lib.hid (fun w => light_any k n v w hvm)
  have key : decide ((v.size : Int) ≤ 300) = false ∨ (decide ((v.size : Int) ≤ 300) = true ∧ decide (300 < (s.size : Int)) = true) ∨ (decide ((v.size : Int) ≤ 300) = true ∧ decide (300 < (s.size : Int)) = false ∧ m = -9223372036854775808) := by
    rcases hv with hv | hv
    · rcases hs with hs | hs
      · exact .inr (.inl ⟨hv, hs⟩)
      · refine .inr (.inr ⟨hv, hs, ?_⟩)
        simp only [decide_eq_true_eq, decide_eq_false_iff_not] at hv hs
        rcases hc with h | h | h
        · omega
        · omega
        · exact h
    · exact .inl hv
  clear hc hv hs ht
  rcases key with h1 | ⟨h1, h2⟩ | ⟨h1, h2, rfl⟩
  all_goals
    go_enter Tryd.func4, Tryd.ntmps4
    go_wp2_with fail
    refine (fit_v _ (HT.out.alloc _)).mono ?_
    rintro e w1 ⟨rfl, hE1⟩
    obtain ⟨gc1, gf1⟩ := ecell hE1; have gh1 := bheap hE1; have hz1 := Below.size hE1; simp only [World.size_alloc] at hz1; have hX1 := (ext_dig hE1); have hl1_0 : w.heap.size < w1.heap.size := (by omega); have hm1_0 : w.heap.size < w1.heap.size + 1 := (by omega); have hn1_0 : w.heap.size < w1.heap.size + 1 + 1 := (by omega)
    go_wp2_with fail
    refine (HL.out _).mono ?_
    rintro e w2 ⟨rfl, hE2⟩
    go_wp2_with fail
    go_ret
    exact ⟨rfl, hX1.trans hE2⟩
theorem walk (x : Vl) (s : ByteArray) (m : Int) (w : World) (wx : VW x) (ws : s.size ≤ 9223372036854775807) (wm : (Lit.int .i64 m).wf = true) (ht : Tab w) :
    Calls Tryd.prog 4 #[.agg #[.int .i64 x.k, .int .i64 x.n, .string x.s], .string s, .int .i64 m] w fun e w' => e = .returned (.bool true) ∧ Below w.heap.size w w' := by
  have hm := bounds_i64 wm
  by_cases hc : 300 < (x.s.size : Int) ∨ 300 < (s.size : Int) ∨ m = -9223372036854775808
  · exact over1 x.k x.n m x.s s w ht wx.2.2 ws hc
  · exact walk0 x.k x.n m x.s s w ht wx.2.1 (by omega) (by omega) (by omega) wx.2.2
end Go.Proofs.YtkkfgobdkbcdhaaDoor.valueRight
