/-
  The law NumDigits: its walk. Conditions: the arguments are of their kind.
-/
import Derived.Test.YtcalgokkibhpeaaNumFit
import Derived.Test.YtcalgokkibhpeaaParseW
import Derived.Test.YtcalgokkibhpeaaMask
import Derived.Deep.RegionWith
import Derived.WalkLawsBesides
namespace Go.Proofs.Ytcalgokkibhpeaa
open Go.RowKit Num
set_option linter.unusedVariables false
namespace numDigits

theorem parse_ok (s : ByteArray) (w : World) (m : Nat) (hs : s.size ≤ 1000000000000000000) (h : parse s.data.toList = some m) :
    Calls Try.prog 21 #[.string s] w fun e w' => e = .returned (.tuple #[.int .i64 (m : Int), .bool true]) ∧ Below w.heap.size w w' :=
  (parse_any s w hs).mono fun _ _ ⟨h1, _, h3⟩ => ⟨h1 m h, h3⟩
theorem parse_not (s : ByteArray) (w : World) (hs : s.size ≤ 1000000000000000000) (h : parse s.data.toList = none) :
    Calls Try.prog 21 #[.string s] w fun e w' => e = .returned (.tuple #[.int .i64 0, .bool false]) ∧ Below w.heap.size w w' :=
  (parse_any s w hs).mono fun _ _ ⟨_, h2, h3⟩ => ⟨h2 h, h3⟩
/-- The text with noughts. -/
def padded (k : Nat) (s : ByteArray) : ByteArray := (⟨#[48, 48, 48]⟩ : ByteArray).extract 0 k ++ s ++ ⟨#[46]⟩ ++ (⟨#[48, 48, 48, 48, 48, 48]⟩ : ByteArray).extract 0 (k + 1)
theorem padded_list (k : Nat) (s : ByteArray) (hk : k < 4) : (padded k s).data.toList = List.replicate k 48 ++ s.data.toList ++ [46] ++ List.replicate (k + 1) 48 := by
  unfold padded
  rw [ByteArray.data_append, ByteArray.data_append, ByteArray.data_append]
  have h : k = 0 ∨ k = 1 ∨ k = 2 ∨ k = 3 := by omega
  rcases h with rfl | rfl | rfl | rfl <;> simp [ByteArray.data_extract]
theorem padded_size (k : Nat) (s : ByteArray) (hk : k < 4) (hs : s.size ≤ 20) : (padded k s).size ≤ 1000 := by
  have e : (padded k s).size = (padded k s).data.toList.length := rfl
  have e2 : s.data.toList.length = s.size := rfl
  rw [e, padded_list k s hk]
  simp only [List.length_append, List.length_replicate, List.length_cons, List.length_nil, e2]
  omega

set_option maxHeartbeats 800000 in
theorem walk0 (n k : Int) (w : World) (wn : (Lit.int .i64 n).wf = true) (hK : bits .and .i64 k 3 = 0) :
    Calls Try.prog 7 #[.int .i64 n, .int .i64 k] w fun e w' => e = .returned (.bool true) ∧ Below w.heap.size w w' := by
  obtain ⟨N, hN, hN2⟩ : ∃ N : Nat, bits .and .i64 n 1099511627775 = (N : Int) ∧ N < 1099511627776 := ⟨(n % 1099511627776).toNat, by rw [and_i64_40]; omega, by omega⟩
  go_enter Try.func7, Try.ntmps7
  go_wp2_with fail
  refine (fit_any _).mono ?_
  rintro e w1 ⟨rfl, hb1⟩
  go_wp2_with fail
  refine (of_yes N _ (by omega)).mono ?_
  rintro e w' ⟨rfl, rfl⟩
  go_wp2_with fail
  refine (print_any ((N : Int) * 1000000) _ (by omega)).mono ?_
  rintro e w2 ⟨rfl, hb2⟩
  obtain ⟨s, hs⟩ : ∃ s : ByteArray, (⟨(txt ((N : Int) * 1000000)).toArray⟩ : ByteArray) = s := ⟨_, rfl⟩
  rw [hs]
  have hls : s.data.toList = txtAbs (N * 1000000) := by
    rw [← hs]
    have : ((N : Int) * 1000000).natAbs = N * 1000000 := by omega
    show txt ((N : Int) * 1000000) = _
    unfold txt; rw [if_neg (by omega), this]
  have hsz : s.size ≤ 20 := by
    have e : s.size = (txtAbs (N * 1000000)).length := by rw [← hls]; rfl
    rw [e]; exact (len_txtAbs _ (by omega)).2
  have hpn := parse_noughts (N * 1000000) 0 0 (by omega) (by omega) (by omega)
  rw [← hls] at hpn
  have hp0 : Hid (parse s.data.toList = some (N * 1000000)) := by show _ = _; rw [hls]; exact parse_txtAbs _ (by omega)
  have hp1 : Hid (parse (padded 0 s).data.toList = some (N * 1000000)) := by show _ = _; rw [padded_list _ _ (by omega)]; exact hpn.1
  have hp2 : Hid (parse (s ++ (⟨#[46]⟩ : ByteArray)).data.toList = none) := by show _ = _; rw [ByteArray.data_append]; simpa using hpn.2
  have hs1 := padded_size 0 s (by omega) hsz
  have hs2 : (s ++ (⟨#[46]⟩ : ByteArray)).size ≤ 1000 := by rw [ByteArray.size_append]; have e : (⟨#[46]⟩ : ByteArray).size = 1 := rfl; omega
  clear hs hls hpn
  go_wp2_with fail
  go_region_with (go_at_call 21; refine (parse_ok (padded 0 s) _ (N * 1000000) (by omega) hp1.out).mono ?_; rintro e w3 ⟨rfl, hb3⟩)
  all_goals
    go_wp2_with fail
    refine (parse_ok s _ (N * 1000000) (by omega) hp0.out).mono ?_
    rintro e w4 ⟨rfl, hb4⟩
    go_wp2_with fail
    refine (parse_not _ _ (by omega) hp2.out).mono ?_
    rintro e w5 ⟨rfl, hb5⟩
    have e1 : (((N * 1000000 : Nat) : Int) == (N : Int) * 1000000) = true := by simp
    go_wp2
    go_ret
    exact ⟨rfl, ((((hb1.trans (hb2.mono hb1.size)).drew).trans (hb3.mono (Nat.le_trans hb1.size hb2.size))).trans (hb4.mono (Nat.le_trans (Nat.le_trans hb1.size hb2.size) hb3.size))).trans (hb5.mono (Nat.le_trans (Nat.le_trans (Nat.le_trans hb1.size hb2.size) hb3.size) hb4.size))⟩
set_option maxHeartbeats 800000 in
theorem walk1 (n k : Int) (w : World) (wn : (Lit.int .i64 n).wf = true) (hK : bits .and .i64 k 3 = 1) :
    Calls Try.prog 7 #[.int .i64 n, .int .i64 k] w fun e w' => e = .returned (.bool true) ∧ Below w.heap.size w w' := by
  obtain ⟨N, hN, hN2⟩ : ∃ N : Nat, bits .and .i64 n 1099511627775 = (N : Int) ∧ N < 1099511627776 := ⟨(n % 1099511627776).toNat, by rw [and_i64_40]; omega, by omega⟩
  go_enter Try.func7, Try.ntmps7
  go_wp2_with fail
  refine (fit_any _).mono ?_
  rintro e w1 ⟨rfl, hb1⟩
  go_wp2_with fail
  refine (of_yes N _ (by omega)).mono ?_
  rintro e w' ⟨rfl, rfl⟩
  go_wp2_with fail
  refine (print_any ((N : Int) * 1000000) _ (by omega)).mono ?_
  rintro e w2 ⟨rfl, hb2⟩
  obtain ⟨s, hs⟩ : ∃ s : ByteArray, (⟨(txt ((N : Int) * 1000000)).toArray⟩ : ByteArray) = s := ⟨_, rfl⟩
  rw [hs]
  have hls : s.data.toList = txtAbs (N * 1000000) := by
    rw [← hs]
    have : ((N : Int) * 1000000).natAbs = N * 1000000 := by omega
    show txt ((N : Int) * 1000000) = _
    unfold txt; rw [if_neg (by omega), this]
  have hsz : s.size ≤ 20 := by
    have e : s.size = (txtAbs (N * 1000000)).length := by rw [← hls]; rfl
    rw [e]; exact (len_txtAbs _ (by omega)).2
  have hpn := parse_noughts (N * 1000000) 1 1 (by omega) (by omega) (by omega)
  rw [← hls] at hpn
  have hp0 : Hid (parse s.data.toList = some (N * 1000000)) := by show _ = _; rw [hls]; exact parse_txtAbs _ (by omega)
  have hp1 : Hid (parse (padded 1 s).data.toList = some (N * 1000000)) := by show _ = _; rw [padded_list _ _ (by omega)]; exact hpn.1
  have hp2 : Hid (parse (s ++ (⟨#[46]⟩ : ByteArray)).data.toList = none) := by show _ = _; rw [ByteArray.data_append]; simpa using hpn.2
  have hs1 := padded_size 1 s (by omega) hsz
  have hs2 : (s ++ (⟨#[46]⟩ : ByteArray)).size ≤ 1000 := by rw [ByteArray.size_append]; have e : (⟨#[46]⟩ : ByteArray).size = 1 := rfl; omega
  clear hs hls hpn
  go_wp2_with fail
  go_region_with (go_at_call 21; refine (parse_ok (padded 1 s) _ (N * 1000000) (by omega) hp1.out).mono ?_; rintro e w3 ⟨rfl, hb3⟩)
  all_goals
    go_wp2_with fail
    refine (parse_ok s _ (N * 1000000) (by omega) hp0.out).mono ?_
    rintro e w4 ⟨rfl, hb4⟩
    go_wp2_with fail
    refine (parse_not _ _ (by omega) hp2.out).mono ?_
    rintro e w5 ⟨rfl, hb5⟩
    have e1 : (((N * 1000000 : Nat) : Int) == (N : Int) * 1000000) = true := by simp
    go_wp2
    go_ret
    exact ⟨rfl, ((((hb1.trans (hb2.mono hb1.size)).drew).trans (hb3.mono (Nat.le_trans hb1.size hb2.size))).trans (hb4.mono (Nat.le_trans (Nat.le_trans hb1.size hb2.size) hb3.size))).trans (hb5.mono (Nat.le_trans (Nat.le_trans (Nat.le_trans hb1.size hb2.size) hb3.size) hb4.size))⟩
set_option maxHeartbeats 800000 in
theorem walk2 (n k : Int) (w : World) (wn : (Lit.int .i64 n).wf = true) (hK : bits .and .i64 k 3 = 2) :
    Calls Try.prog 7 #[.int .i64 n, .int .i64 k] w fun e w' => e = .returned (.bool true) ∧ Below w.heap.size w w' := by
  obtain ⟨N, hN, hN2⟩ : ∃ N : Nat, bits .and .i64 n 1099511627775 = (N : Int) ∧ N < 1099511627776 := ⟨(n % 1099511627776).toNat, by rw [and_i64_40]; omega, by omega⟩
  go_enter Try.func7, Try.ntmps7
  go_wp2_with fail
  refine (fit_any _).mono ?_
  rintro e w1 ⟨rfl, hb1⟩
  go_wp2_with fail
  refine (of_yes N _ (by omega)).mono ?_
  rintro e w' ⟨rfl, rfl⟩
  go_wp2_with fail
  refine (print_any ((N : Int) * 1000000) _ (by omega)).mono ?_
  rintro e w2 ⟨rfl, hb2⟩
  obtain ⟨s, hs⟩ : ∃ s : ByteArray, (⟨(txt ((N : Int) * 1000000)).toArray⟩ : ByteArray) = s := ⟨_, rfl⟩
  rw [hs]
  have hls : s.data.toList = txtAbs (N * 1000000) := by
    rw [← hs]
    have : ((N : Int) * 1000000).natAbs = N * 1000000 := by omega
    show txt ((N : Int) * 1000000) = _
    unfold txt; rw [if_neg (by omega), this]
  have hsz : s.size ≤ 20 := by
    have e : s.size = (txtAbs (N * 1000000)).length := by rw [← hls]; rfl
    rw [e]; exact (len_txtAbs _ (by omega)).2
  have hpn := parse_noughts (N * 1000000) 2 2 (by omega) (by omega) (by omega)
  rw [← hls] at hpn
  have hp0 : Hid (parse s.data.toList = some (N * 1000000)) := by show _ = _; rw [hls]; exact parse_txtAbs _ (by omega)
  have hp1 : Hid (parse (padded 2 s).data.toList = some (N * 1000000)) := by show _ = _; rw [padded_list _ _ (by omega)]; exact hpn.1
  have hp2 : Hid (parse (s ++ (⟨#[46]⟩ : ByteArray)).data.toList = none) := by show _ = _; rw [ByteArray.data_append]; simpa using hpn.2
  have hs1 := padded_size 2 s (by omega) hsz
  have hs2 : (s ++ (⟨#[46]⟩ : ByteArray)).size ≤ 1000 := by rw [ByteArray.size_append]; have e : (⟨#[46]⟩ : ByteArray).size = 1 := rfl; omega
  clear hs hls hpn
  go_wp2_with fail
  go_region_with (go_at_call 21; refine (parse_ok (padded 2 s) _ (N * 1000000) (by omega) hp1.out).mono ?_; rintro e w3 ⟨rfl, hb3⟩)
  all_goals
    go_wp2_with fail
    refine (parse_ok s _ (N * 1000000) (by omega) hp0.out).mono ?_
    rintro e w4 ⟨rfl, hb4⟩
    go_wp2_with fail
    refine (parse_not _ _ (by omega) hp2.out).mono ?_
    rintro e w5 ⟨rfl, hb5⟩
    have e1 : (((N * 1000000 : Nat) : Int) == (N : Int) * 1000000) = true := by simp
    go_wp2
    go_ret
    exact ⟨rfl, ((((hb1.trans (hb2.mono hb1.size)).drew).trans (hb3.mono (Nat.le_trans hb1.size hb2.size))).trans (hb4.mono (Nat.le_trans (Nat.le_trans hb1.size hb2.size) hb3.size))).trans (hb5.mono (Nat.le_trans (Nat.le_trans (Nat.le_trans hb1.size hb2.size) hb3.size) hb4.size))⟩
set_option maxHeartbeats 800000 in
theorem walk3 (n k : Int) (w : World) (wn : (Lit.int .i64 n).wf = true) (hK : bits .and .i64 k 3 = 3) :
    Calls Try.prog 7 #[.int .i64 n, .int .i64 k] w fun e w' => e = .returned (.bool true) ∧ Below w.heap.size w w' := by
  obtain ⟨N, hN, hN2⟩ : ∃ N : Nat, bits .and .i64 n 1099511627775 = (N : Int) ∧ N < 1099511627776 := ⟨(n % 1099511627776).toNat, by rw [and_i64_40]; omega, by omega⟩
  go_enter Try.func7, Try.ntmps7
  go_wp2_with fail
  refine (fit_any _).mono ?_
  rintro e w1 ⟨rfl, hb1⟩
  go_wp2_with fail
  refine (of_yes N _ (by omega)).mono ?_
  rintro e w' ⟨rfl, rfl⟩
  go_wp2_with fail
  refine (print_any ((N : Int) * 1000000) _ (by omega)).mono ?_
  rintro e w2 ⟨rfl, hb2⟩
  obtain ⟨s, hs⟩ : ∃ s : ByteArray, (⟨(txt ((N : Int) * 1000000)).toArray⟩ : ByteArray) = s := ⟨_, rfl⟩
  rw [hs]
  have hls : s.data.toList = txtAbs (N * 1000000) := by
    rw [← hs]
    have : ((N : Int) * 1000000).natAbs = N * 1000000 := by omega
    show txt ((N : Int) * 1000000) = _
    unfold txt; rw [if_neg (by omega), this]
  have hsz : s.size ≤ 20 := by
    have e : s.size = (txtAbs (N * 1000000)).length := by rw [← hls]; rfl
    rw [e]; exact (len_txtAbs _ (by omega)).2
  have hpn := parse_noughts (N * 1000000) 3 3 (by omega) (by omega) (by omega)
  rw [← hls] at hpn
  have hp0 : Hid (parse s.data.toList = some (N * 1000000)) := by show _ = _; rw [hls]; exact parse_txtAbs _ (by omega)
  have hp1 : Hid (parse (padded 3 s).data.toList = some (N * 1000000)) := by show _ = _; rw [padded_list _ _ (by omega)]; exact hpn.1
  have hp2 : Hid (parse (s ++ (⟨#[46]⟩ : ByteArray)).data.toList = none) := by show _ = _; rw [ByteArray.data_append]; simpa using hpn.2
  have hs1 := padded_size 3 s (by omega) hsz
  have hs2 : (s ++ (⟨#[46]⟩ : ByteArray)).size ≤ 1000 := by rw [ByteArray.size_append]; have e : (⟨#[46]⟩ : ByteArray).size = 1 := rfl; omega
  clear hs hls hpn
  go_wp2_with fail
  go_region_with (go_at_call 21; refine (parse_ok (padded 3 s) _ (N * 1000000) (by omega) hp1.out).mono ?_; rintro e w3 ⟨rfl, hb3⟩)
  all_goals
    go_wp2_with fail
    refine (parse_ok s _ (N * 1000000) (by omega) hp0.out).mono ?_
    rintro e w4 ⟨rfl, hb4⟩
    go_wp2_with fail
    refine (parse_not _ _ (by omega) hp2.out).mono ?_
    rintro e w5 ⟨rfl, hb5⟩
    have e1 : (((N * 1000000 : Nat) : Int) == (N : Int) * 1000000) = true := by simp
    go_wp2
    go_ret
    exact ⟨rfl, ((((hb1.trans (hb2.mono hb1.size)).drew).trans (hb3.mono (Nat.le_trans hb1.size hb2.size))).trans (hb4.mono (Nat.le_trans (Nat.le_trans hb1.size hb2.size) hb3.size))).trans (hb5.mono (Nat.le_trans (Nat.le_trans (Nat.le_trans hb1.size hb2.size) hb3.size) hb4.size))⟩

theorem walk (n k : Int) (w : World) (wn : (Lit.int .i64 n).wf = true) (wk : (Lit.int .i64 k).wf = true) :
    Calls Try.prog 7 #[.int .i64 n, .int .i64 k] w fun e w' => e = .returned (.bool true) ∧ Below w.heap.size w w' := by
  have hK := and_i64_2 k
  have h : k % 4 = 0 ∨ k % 4 = 1 ∨ k % 4 = 2 ∨ k % 4 = 3 := by omega
  rcases h with h | h | h | h <;> rw [h] at hK
  · exact walk0 n k w wn hK
  · exact walk1 n k w wn hK
  · exact walk2 n k w wn hK
  · exact walk3 n k w wn hK
end numDigits
end Go.Proofs.Ytcalgokkibhpeaa
