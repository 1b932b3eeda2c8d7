/-
  tree: the functions' table; Number, Name, Fits: walks. Conditions: each theorem's own.
-/
import Derived.Test.YtffogjhjgmohiaaDoorDoor
import Derived.Test.YtffogjhjgmohiaaDoorBlocks
import Derived.Test.YtffogjhjgmohiaaDoorRegion
import Derived.Test.YtffogjhjgmohiaaDoorShelf
import Derived.Lib.Hide
namespace Go.Proofs.YtffogjhjgmohiaaDoor
open Go.RowKit
set_option linter.unusedVariables false
set_option linter.unusedSimpArgs false

def fnAll : ByteArray := { data := ((([73, 70, 50, 51, 32, 73, 70, 69, 82, 82, 79, 82, 50, 50, 32, 65, 78, 68, 49, 57, 32, 79, 82, 49, 57, 32, 67, 72, 79, 79, 83, 69, 50, 57, 32, 65, 66, 83, 49, 49, 32, 83, 73, 71, 78, 49, 49, 32, 73, 78, 84, 49, 49, 32].append [82, 79, 85, 78, 68, 50, 50, 32, 77, 79, 68, 50, 50, 32, 80, 79, 87, 69, 82, 50, 50, 32, 81, 85, 79, 84, 73, 69, 78, 84, 50, 50, 32, 71, 67, 68, 50, 50, 32, 76, 67, 77, 50, 50, 32, 70, 65, 67, 84, 49, 49, 32, 69, 86]).append ([69, 78, 49, 49, 32, 79, 68, 68, 49, 49, 32, 84, 82, 85, 78, 67, 49, 49, 32, 77, 73, 78, 49, 57, 32, 77, 65, 88, 49, 57, 32, 83, 85, 77, 49, 57, 32, 80, 82, 79, 68, 85, 67, 84, 49, 57, 32, 67, 79, 85, 78, 84, 49, 57].append [32, 67, 79, 85, 78, 84, 65, 49, 57, 32, 67, 79, 85, 78, 84, 66, 76, 65, 78, 75, 49, 49, 32, 65, 86, 69, 82, 65, 71, 69, 49, 57, 32, 83, 85, 77, 73, 70, 50, 50, 32, 67, 79, 85, 78, 84, 73, 70, 50, 50, 32, 83, 85, 77])).append (([80, 82, 79, 68, 85, 67, 84, 50, 50, 32, 76, 69, 78, 49, 49, 32, 76, 69, 70, 84, 50, 50, 32, 82, 73, 71, 72, 84, 50, 50, 32, 77, 73, 68, 51, 51, 32, 85, 80, 80, 69, 82, 49, 49, 32, 76, 79, 87, 69, 82, 49, 49, 32, 84].append [82, 73, 77, 49, 49, 32, 67, 79, 78, 67, 65, 84, 49, 57, 32, 82, 69, 80, 84, 50, 50, 32, 70, 73, 78, 68, 50, 50, 32, 83, 85, 66, 83, 84, 73, 84, 85, 84, 69, 51, 51, 32, 69, 88, 65, 67, 84, 50, 50, 32, 86, 65, 76, 85]).append ([69, 49, 49, 32, 78, 79, 84, 49, 49, 32, 73, 83, 78, 85, 77, 66, 69, 82, 49, 49, 32, 73, 83, 84, 69, 88, 84, 49, 49, 32, 73, 83, 66, 76, 65, 78, 75, 49, 49, 32, 73, 83, 69, 82, 82, 79, 82, 49, 49, 32, 73, 83, 76, 79].append [71, 73, 67, 65, 76, 49, 49, 32, 78, 65, 48, 48, 32, 73, 78, 68, 69, 88, 51, 51, 32, 77, 65, 84, 67, 72, 50, 50, 32, 86, 76, 79, 79, 75, 85, 80, 51, 51, 32, 82, 79, 87, 83, 49, 49, 32, 67, 79, 76, 85, 77, 78, 83, 49, 49]))).toArray }
def fnLit : List (List UInt8) := [[73, 70, 50, 51], [73, 70, 69, 82, 82, 79, 82, 50, 50], [65, 78, 68, 49, 57], [79, 82, 49, 57], [67, 72, 79, 79, 83, 69, 50, 57], [65, 66, 83, 49, 49], [83, 73, 71, 78, 49, 49], [73, 78, 84, 49, 49], [82, 79, 85, 78, 68, 50, 50], [77, 79, 68, 50, 50], [80, 79, 87, 69, 82, 50, 50], [81, 85, 79, 84, 73, 69, 78, 84, 50, 50], [71, 67, 68, 50, 50], [76, 67, 77, 50, 50], [70, 65, 67, 84, 49, 49], [69, 86, 69, 78, 49, 49], [79, 68, 68, 49, 49], [84, 82, 85, 78, 67, 49, 49], [77, 73, 78, 49, 57], [77, 65, 88, 49, 57], [83, 85, 77, 49, 57], [80, 82, 79, 68, 85, 67, 84, 49, 57], [67, 79, 85, 78, 84, 49, 57], [67, 79, 85, 78, 84, 65, 49, 57], [67, 79, 85, 78, 84, 66, 76, 65, 78, 75, 49, 49], [65, 86, 69, 82, 65, 71, 69, 49, 57], [83, 85, 77, 73, 70, 50, 50], [67, 79, 85, 78, 84, 73, 70, 50, 50], [83, 85, 77, 80, 82, 79, 68, 85, 67, 84, 50, 50], [76, 69, 78, 49, 49], [76, 69, 70, 84, 50, 50], [82, 73, 71, 72, 84, 50, 50], [77, 73, 68, 51, 51], [85, 80, 80, 69, 82, 49, 49], [76, 79, 87, 69, 82, 49, 49], [84, 82, 73, 77, 49, 49], [67, 79, 78, 67, 65, 84, 49, 57], [82, 69, 80, 84, 50, 50], [70, 73, 78, 68, 50, 50], [83, 85, 66, 83, 84, 73, 84, 85, 84, 69, 51, 51], [69, 88, 65, 67, 84, 50, 50], [86, 65, 76, 85, 69, 49, 49], [78, 79, 84, 49, 49], [73, 83, 78, 85, 77, 66, 69, 82, 49, 49], [73, 83, 84, 69, 88, 84, 49, 49], [73, 83, 66, 76, 65, 78, 75, 49, 49], [73, 83, 69, 82, 82, 79, 82, 49, 49], [73, 83, 76, 79, 71, 73, 67, 65, 76, 49, 49], [78, 65, 48, 48], [73, 78, 68, 69, 88, 51, 51], [77, 65, 84, 67, 72, 50, 50], [86, 76, 79, 79, 75, 85, 80, 51, 51], [82, 79, 87, 83, 49, 49], [67, 79, 76, 85, 77, 78, 83, 49, 49]]
set_option maxRecDepth 100000 in
theorem fn_fields : Lib.fields fnAll.data.toList = fnLit := by decide +kernel
set_option maxRecDepth 100000 in
theorem fn_len : fnLit.length = 54 := by decide +kernel
theorem fn_ascii : ∀ (j : Nat) b, fnAll.data.toList[j]? = some b → b.toNat < 128 := by
  intro j b h
  have hall : (fnAll.data.toList.all fun b => decide (b.toNat < 128)) = true := by decide +kernel
  exact of_decide_eq_true (List.all_eq_true.1 hall b (List.mem_of_getElem? h))
theorem fn_size : fnAll.size < 4294967281 := by decide +kernel
/-- The table's word k: a name, and two digits behind it. -/
def fnW (k : Nat) : List UInt8 := fnLit.getD k []
def fnN (k : Nat) : List UInt8 := (fnW k).take ((fnW k).length - 2)
def fnLo (k : Nat) : Nat := ((fnW k).getD ((fnW k).length - 2) 0).toNat - 48
def fnHi (k : Nat) : Nat := ((fnW k).getD ((fnW k).length - 1) 0).toNat - 48
def fnB : Array Value := (fnLit.map fun l => Value.string ⟨l.toArray⟩).toArray
theorem fnB_at {k : Nat} (h : k < 54) : fnB[k]? = some (.string ⟨(fnW k).toArray⟩) := by
  unfold fnB fnW
  have : k < fnLit.length := by rw [fn_len]; exact h
  rw [List.getElem?_toArray, List.getElem?_map, List.getElem?_eq_getElem this, List.getD_eq_getElem?_getD, List.getElem?_eq_getElem this]
  rfl
theorem fields_call (w : World) (ht : Tab w) : Calls Tryd.prog 21 #[.string fnAll] w fun e w' => e = .returned (.slice (some ⟨w.heap.size, 0, none⟩) 54 54) ∧ w' = w.alloc (.cells fnB 9) := by
  have h := Tryd.strings_Fields fnAll w fn_size fn_ascii ht
  rw [fn_fields, fn_len] at h
  exact h
theorem fn_facts : ∀ k, k < 54 → 3 ≤ (fnW k).length ∧ (fnW k).length ≤ 20 ∧ (48 ≤ ((fnW k).getD ((fnW k).length - 2) 0).toNat ∧ ((fnW k).getD ((fnW k).length - 2) 0).toNat ≤ 57) ∧ (48 ≤ ((fnW k).getD ((fnW k).length - 1) 0).toNat ∧ ((fnW k).getD ((fnW k).length - 1) 0).toNat ≤ 57) := by
  have h : ((List.range 54).all fun k => decide (3 ≤ (fnW k).length ∧ (fnW k).length ≤ 20 ∧ (48 ≤ ((fnW k).getD ((fnW k).length - 2) 0).toNat ∧ ((fnW k).getD ((fnW k).length - 2) 0).toNat ≤ 57) ∧ (48 ≤ ((fnW k).getD ((fnW k).length - 1) 0).toNat ∧ ((fnW k).getD ((fnW k).length - 1) 0).toNat ≤ 57))) = true := by decide +kernel
  intro k hk
  exact of_decide_eq_true (List.all_eq_true.1 h k (List.mem_range.2 hk))
/-- A function's number. -/
def numOf (s : List UInt8) : Nat := match (List.range 54).find? (fun k => fnN k == s) with | some k => k + 1 | none => 0
theorem numOf_hit {s : List UInt8} {k : Nat} (hk : k < 54) (hs : fnN k = s) (hno : ∀ j, j < k → fnN j ≠ s) : numOf s = k + 1 := by
  have : (List.range 54).find? (fun k => fnN k == s) = some k := by
    rw [List.find?_eq_some_iff_getElem]
    refine ⟨by simpa using hs, k, by simpa using hk, by simp, fun j hj => ?_⟩
    simp only [List.getElem_range, Bool.not_eq_true', beq_eq_false_iff_ne]
    exact hno j hj
  unfold numOf
  rw [this]
theorem numOf_no {s : List UInt8} (hno : ∀ j, j < 54 → fnN j ≠ s) : numOf s = 0 := by
  have : (List.range 54).find? (fun k => fnN k == s) = none := by
    rw [List.find?_eq_none]
    intro k hk
    simpa using hno k (List.mem_range.1 hk)
  unfold numOf
  rw [this]
theorem numOf_names : ∀ k, k < 54 → numOf (fnN k) = k + 1 := by
  have h : ((List.range 54).all fun k => decide (numOf (fnN k) = k + 1)) = true := by decide +kernel
  intro k hk
  exact of_decide_eq_true (List.all_eq_true.1 h k (List.mem_range.2 hk))
def nameOf (n : Int) : List UInt8 := if 1 ≤ n ∧ n ≤ 54 then fnN (n.toNat - 1) else []
def fitsOf (n args : Int) : Bool := decide (1 ≤ n ∧ n ≤ 54) && (decide ((fnLo (n.toNat - 1) : Int) ≤ args) && decide (args ≤ (fnHi (n.toNat - 1) : Int)))
theorem cut_word {l : List UInt8} (k : Nat) : (⟨l.toArray⟩ : ByteArray).extract 0 k = ⟨(l.take k).toArray⟩ := by
  refine ByteArray.ext (Array.ext' ?_)
  rw [ByteArray.data_extract]
  simp
theorem word_eq (l : List UInt8) (s : ByteArray) : ((⟨l.toArray⟩ : ByteArray).toList == s.toList) = (l == s.data.toList) := by
  rw [Lib.toList_data, Lib.toList_data]

set_option maxRecDepth 100000 in
set_option maxHeartbeats 2000000 in
theorem number_any (s : ByteArray) (w : World) (ht : Tab w) : Calls Tryd.prog 57 #[.string s] w fun e w' => e = .returned (.int .i64 (numOf s.data.toList)) ∧ Ext w w' := by
  have HC := Lib.hid (fields_call w ht)
  clear ht
  go_enter Tryd.func57, Tryd.ntmps57
  go_wp2_with fail
  refine HC.out.mono ?_
  rintro e w1 ⟨rfl, hw1⟩
  have hg1 : w1.heap[w.heap.size]? = some (.cells fnB 9 (0, 0)) := by rw [hw1]; exact hq_at _ _ rfl
  have HE1 : Hid (Ext w w1) := Lib.hid (by rw [hw1]; exact below_alloc1 _ _)
  have HG1 := Lib.hid hg1
  clear HC hw1 hg1
  go_wp2_with fail
  go_loop [3, 4, 7] (fun _ _ si => ∃ k : Nat, k ≤ 54 ∧ si = .int .i64 (k : Int) ∧ ∀ j, j < k → fnN j ≠ s.data.toList) (fun _ _ si => 54 - (intOf si).toNat)
  case atStart => exact ⟨0, by omega, rfl, fun j hj => by omega⟩
  case round =>
    obtain ⟨k, hk, rfl, hno⟩ := hrel
    have HNO := Lib.hid hno
    clear hno
    by_cases h7 : k = 54
    · subst h7
      have HE : Hid (numOf s.data.toList = 0) := Lib.hid (numOf_no HNO.out)
      go_wp2_with fail
      go_ret
      exact ⟨by rw [HE.out]; rfl, HE1.out⟩
    have hk54 : (k : Int) < 54 := by omega
    obtain ⟨f1, f2, -, -⟩ := fn_facts k (by omega)
    have ck := ext_blk HG1.out w1 (Ext.refl _) k
    rw [fnB_at (show k < 54 by omega)] at ck
    have hz : (⟨(fnW k).toArray⟩ : ByteArray).size = (fnW k).length := by show (fnW k).toArray.size = _; simp
    have hcw := cut_word (l := fnW k) ((fnW k).length - 2)
    obtain ⟨m, hm⟩ : ∃ m, (fnW k).length - 2 = m := ⟨_, rfl⟩
    have hN : (fnW k).take m = fnN k := by rw [← hm]; rfl
    rw [hm, hN] at hcw
    have hm1 : ((fnW k).length : Int) - 2 = (m : Int) := by omega
    have hm2 : ((fnW k).length : Int) = (m : Int) + 2 := by omega
    have hwe := word_eq (fnN k) s
    have HNM := Lib.hid (Eq.refl (fnN k))
    obtain ⟨l, hl⟩ : ∃ l, fnW k = l := ⟨_, rfl⟩
    obtain ⟨nm, hnm⟩ : ∃ nm, fnN k = nm := ⟨_, rfl⟩
    rw [hl] at f1 f2 ck hz hcw hm hm1 hm2
    rw [hnm] at hcw hwe
    have HNMk := Lib.hid hnm
    obtain ⟨B, hB⟩ : ∃ B : ByteArray, B = ⟨l.toArray⟩ := ⟨_, rfl⟩
    rw [← hB] at ck hz hcw
    have hzB : (B.size : Int) = (m : Int) + 2 := by rw [hz]; exact hm2
    have hzm : (m : Int) + 2 - 2 = (m : Int) := by omega
    have hm20 : (m : Int) ≤ 20 := by omega
    clear hm hm1 hm2 hl hnm hB hN HNM hz f1 f2 h7
    by_cases hs : nm = s.data.toList
    · have hq : ((⟨nm.toArray⟩ : ByteArray).toList == s.toList) = true := by rw [hwe, hs]; simp
      clear hwe
      have HV : Hid (((numOf s.data.toList : Nat) : Int) = (k : Int) + 1) := Lib.hid (by rw [numOf_hit (by omega) (HNMk.out.trans hs) HNO.out]; rfl)
      go_wp2_with fail
      go_ret
      exact ⟨by rw [HV.out]; rfl, HE1.out⟩
    · have hq : ((⟨nm.toArray⟩ : ByteArray).toList == s.toList) = false := by rw [hwe]; simpa using hs
      have hq3 : (nm == s.toList) = false := by rw [Lib.toList_data]; simpa using hs
      have hq2 : ¬ ((⟨nm.toArray⟩ : ByteArray).toList = s.toList) := by rwa [beq_eq_false_iff_ne] at hq
      have HNX : Hid (∀ j, j < k + 1 → fnN j ≠ s.data.toList) := Lib.hid fun j hj => by
        rcases Nat.lt_succ_iff_lt_or_eq.1 hj with h | rfl
        · exact HNO.out j h
        · rw [HNMk.out]; exact hs
      clear hwe
      go_wp2_with fail
      exact ⟨⟨k + 1, by omega, rfl, HNX.out⟩, by simp [intOf]; omega⟩
set_option maxRecDepth 100000 in
set_option maxHeartbeats 2000000 in
theorem name_any (n : Int) (w : World) (ht : Tab w) : Calls Tryd.prog 13 #[.int .i64 n] w fun e w' => e = .returned (.string ⟨(nameOf n).toArray⟩) ∧ Ext w w' := by
  have HC := Lib.hid (fields_call w ht)
  clear ht
  by_cases hin : 1 ≤ n ∧ n ≤ 54
  · obtain ⟨k, hk⟩ : ∃ k : Nat, n = (k : Int) + 1 := ⟨n.toNat - 1, by omega⟩
    have hk54 : k < 54 := by omega
    have HV : Hid (nameOf n = fnN k) := Lib.hid (by unfold nameOf; rw [if_pos hin, show n.toNat - 1 = k by omega])
    have hlo : (1 : Int) ≤ n := hin.1
    have hhi : n ≤ 54 := hin.2
    obtain ⟨f1, f2, -, -⟩ := fn_facts k (by omega)
    have hz : (⟨(fnW k).toArray⟩ : ByteArray).size = (fnW k).length := by show (fnW k).toArray.size = _; simp
    have hcw := cut_word (l := fnW k) ((fnW k).length - 2)
    obtain ⟨m, hm⟩ : ∃ m, (fnW k).length - 2 = m := ⟨_, rfl⟩
    have hN : (fnW k).take m = fnN k := by rw [← hm]; rfl
    rw [hm, hN] at hcw
    obtain ⟨B, hB⟩ : ∃ B : ByteArray, B = ⟨(fnW k).toArray⟩ := ⟨_, rfl⟩
    have HBk : Hid (fnB[k]? = some (.string B)) := Lib.hid (by rw [fnB_at hk54, hB])
    rw [← hB] at hz hcw
    have hzB : (B.size : Int) = (m : Int) + 2 := by rw [hz]; omega
    have hzm : (m : Int) + 2 - 2 = (m : Int) := by omega
    have hm20 : (m : Int) ≤ 20 := by omega
    have hnk : n - 1 = (k : Int) := by omega
    have hw1 : IntKind.i64.wrap (n - 1) = (k : Int) := by rw [IntWalk.i64_in _ ⟨by omega, by omega⟩]; exact hnk
    have hle2 : (m : Int) ≤ (m : Int) + 2 := by omega
    have hwk : IntKind.i64.wrap (k : Int) = (k : Int) := IntWalk.i64_in _ ⟨by omega, by omega⟩
    have hwm : IntKind.i64.wrap (m : Int) = (m : Int) := IntWalk.i64_in _ ⟨by omega, by omega⟩
    have hw2 : IntKind.i64.wrap ((m : Int) + 2 - 2) = (m : Int) := by rw [IntWalk.i64_in _ ⟨by omega, by omega⟩]; exact hzm
    have hk54' : (k : Int) < 54 := by omega
    clear hin hm hN f1 f2 hz hB hk
    go_enter Tryd.func13, Tryd.ntmps13
    go_wp2_with fail
    refine HC.out.mono ?_
    rintro e w1 ⟨rfl, hw1⟩
    have hg1 : w1.heap[w.heap.size]? = some (.cells fnB 9 (0, 0)) := by rw [hw1]; exact hq_at _ _ rfl
    have HE1 : Hid (Ext w w1) := Lib.hid (by rw [hw1]; exact below_alloc1 _ _)
    have ck := ext_blk hg1 w1 (Ext.refl _) k
    rw [HBk.out] at ck
    have ck' := ext_cell (World.block_lt_of_cell? _ _ ck) ck
    have hr := Ext.refl w1
    clear HC hw1 hg1
    go_wp2_with fail
    refine region_any (by kernel_rfl) (by kernel_rfl) rfl (fun K hK => ?_)
    repeat (first | (refine seqr_skip (by rfl) (fun ρ => by rfl) ?_; (try simp only [Act.put, List.setIfInBounds_toArray, List.set_cons_zero, List.set_cons_succ])) | (refine seqr_pure (v := ?_) (by rfl) (fun ρ => by rfl) (fun ρ w hE hF => ?_) ?_; rotate_left 1; (· ((try simp only [fill, Act.put, List.setIfInBounds_toArray, List.set_cons_zero, List.set_cons_succ]); go_simp; try with_reducible rfl)); (try simp only [Act.put, List.setIfInBounds_toArray, List.set_cons_zero, List.set_cons_succ])) | (refine seqr_call0 (v := ?_) (f := ?_) (args := ?_) (by rfl) (fun ρ => by rfl) (fun ρ w => ?_) (fun w hE => ?_) ?_; rotate_left 3; (· ((try simp only [fill, Act.put, List.setIfInBounds_toArray, List.set_cons_zero, List.set_cons_succ]); go_simp; constructor <;> with_reducible rfl)); (· (with_reducible exact CallE.call (by assumption) hE)); (try simp only [Act.put, List.setIfInBounds_toArray, List.set_cons_zero, List.set_cons_succ])))
    refine seqr_done (fun ρ wN hEN hFN => ?_); (try simp only [fill, Act.put, List.setIfInBounds_toArray, List.set_cons_zero, List.set_cons_succ]); refine (show K _ _ from hK.out _ _ ?_); clear hK K
    go_wp2_with fail
    go_ret
    exact ⟨by rw [HV.out]; rfl, HE1.out.trans hEN⟩
  · have HV : Hid (nameOf n = []) := Lib.hid (if_neg hin)
    by_cases h1 : n < 1
    · clear hin
      go_enter Tryd.func13, Tryd.ntmps13
      go_wp2_with fail
      refine HC.out.mono ?_
      rintro e w1 ⟨rfl, hw1⟩
      have HE1 : Hid (Ext w w1) := Lib.hid (by rw [hw1]; exact below_alloc1 _ _)
      clear HC hw1
      go_wp2_with fail
      go_ret
      exact ⟨by rw [HV.out]; rfl, HE1.out⟩
    · have h2 : 54 < n := by omega
      clear hin
      go_enter Tryd.func13, Tryd.ntmps13
      go_wp2_with fail
      refine HC.out.mono ?_
      rintro e w1 ⟨rfl, hw1⟩
      have HE1 : Hid (Ext w w1) := Lib.hid (by rw [hw1]; exact below_alloc1 _ _)
      clear HC hw1
      go_wp2_with fail
      go_ret
      exact ⟨by rw [HV.out]; rfl, HE1.out⟩
set_option maxRecDepth 100000 in
set_option maxHeartbeats 2000000 in
theorem fits_any (n args : Int) (w : World) (ht : Tab w) : Calls Tryd.prog 14 #[.int .i64 n, .int .i64 args] w fun e w' => e = .returned (.bool (fitsOf n args)) ∧ Ext w w' := by
  have HC := Lib.hid (fields_call w ht)
  clear ht
  by_cases hin : 1 ≤ n ∧ n ≤ 54
  · obtain ⟨k, hk⟩ : ∃ k : Nat, n = (k : Int) + 1 := ⟨n.toNat - 1, by omega⟩
    have hk54 : k < 54 := by omega
    have HV : Hid (fitsOf n args = (decide ((fnLo k : Int) ≤ args) && decide (args ≤ (fnHi k : Int)))) := Lib.hid (by unfold fitsOf; rw [decide_eq_true hin, show n.toNat - 1 = k by omega, Bool.true_and])
    have hlo : (1 : Int) ≤ n := hin.1
    have hhi : n ≤ 54 := hin.2
    obtain ⟨f1, f2, f3, f4⟩ := fn_facts k (by omega)
    have hz : (⟨(fnW k).toArray⟩ : ByteArray).size = (fnW k).length := by show (fnW k).toArray.size = _; simp
    obtain ⟨m, hm⟩ : ∃ m, (fnW k).length - 2 = m := ⟨_, rfl⟩
    have hm1 : (fnW k).length - 1 = m + 1 := by omega
    obtain ⟨B, hB⟩ : ∃ B : ByteArray, B = ⟨(fnW k).toArray⟩ := ⟨_, rfl⟩
    have HBk : Hid (fnB[k]? = some (.string B)) := Lib.hid (by rw [fnB_at hk54, hB])
    rw [← hB] at hz
    have hzB : B.size = m + 2 := by rw [hz]; omega
    have hm' : m < B.size := by omega
    have hm1' : m + 1 < B.size := by omega
    have hb0 : ((B[m]'hm').toNat : Int) = (fnLo k : Int) + 48 := by
      have e : B[m]'hm' = (fnW k).getD ((fnW k).length - 2) 0 := by
        subst hB
        rw [hm, List.getD_eq_getElem?_getD, List.getElem?_eq_getElem (by omega)]
        rfl
      rw [e]; unfold fnLo; omega
    have hb1 : ((B[m + 1]'hm1').toNat : Int) = (fnHi k : Int) + 48 := by
      have e : B[m + 1]'hm1' = (fnW k).getD ((fnW k).length - 1) 0 := by
        subst hB
        rw [hm1, List.getD_eq_getElem?_getD, List.getElem?_eq_getElem (by omega)]
        rfl
      rw [e]; unfold fnHi; omega
    have hlo9 : (fnLo k : Int) ≤ 9 := by unfold fnLo; omega
    have hhi9 : (fnHi k : Int) ≤ 9 := by unfold fnHi; omega
    have hzB' : (B.size : Int) = (m : Int) + 2 := by rw [hzB]; rfl
    have hzm : (m : Int) + 2 - 2 = (m : Int) := by omega
    have hzm1 : (m : Int) + 2 - 1 = (m : Int) + 1 := by omega
    have hm20 : (m : Int) ≤ 20 := by omega
    have hnk : n - 1 = (k : Int) := by omega
    have hw1 : IntKind.i64.wrap (n - 1) = (k : Int) := by rw [IntWalk.i64_in _ ⟨by omega, by omega⟩]; exact hnk
    have hle2 : (m : Int) ≤ (m : Int) + 2 := by omega
    have hwk : IntKind.i64.wrap (k : Int) = (k : Int) := IntWalk.i64_in _ ⟨by omega, by omega⟩
    have hwm : IntKind.i64.wrap (m : Int) = (m : Int) := IntWalk.i64_in _ ⟨by omega, by omega⟩
    have hw2 : IntKind.i64.wrap ((m : Int) + 2 - 2) = (m : Int) := by rw [IntWalk.i64_in _ ⟨by omega, by omega⟩]; exact hzm
    have hk54' : (k : Int) < 54 := by omega
    generalize fnLo k = lo at *
    generalize fnHi k = hi at *
    clear hin hm hm1 f1 f2 f3 f4 hz hB hk
    go_enter Tryd.func14, Tryd.ntmps14
    go_wp2_with fail
    refine HC.out.mono ?_
    rintro e w1 ⟨rfl, hw1⟩
    have hg1 : w1.heap[w.heap.size]? = some (.cells fnB 9 (0, 0)) := by rw [hw1]; exact hq_at _ _ rfl
    have HE1 : Hid (Ext w w1) := Lib.hid (by rw [hw1]; exact below_alloc1 _ _)
    have ck := ext_blk hg1 w1 (Ext.refl _) k
    rw [HBk.out] at ck
    clear HC hw1 hg1
    go_wp2_with fail
    all_goals go_ret
    all_goals exact ⟨by rw [HV.out]; simp [*] <;> omega, HE1.out⟩
  · have HV : Hid (fitsOf n args = false) := Lib.hid (by unfold fitsOf; rw [decide_eq_false hin, Bool.false_and])
    by_cases h1 : n < 1
    · clear hin
      go_enter Tryd.func14, Tryd.ntmps14
      go_wp2_with fail
      refine HC.out.mono ?_
      rintro e w1 ⟨rfl, hw1⟩
      have HE1 : Hid (Ext w w1) := Lib.hid (by rw [hw1]; exact below_alloc1 _ _)
      clear HC hw1
      go_wp2_with fail
      go_ret
      exact ⟨by rw [HV.out]; rfl, HE1.out⟩
    · have h2 : 54 < n := by omega
      clear hin
      go_enter Tryd.func14, Tryd.ntmps14
      go_wp2_with fail
      refine HC.out.mono ?_
      rintro e w1 ⟨rfl, hw1⟩
      have HE1 : Hid (Ext w w1) := Lib.hid (by rw [hw1]; exact below_alloc1 _ _)
      clear HC hw1
      go_wp2_with fail
      go_ret
      exact ⟨by rw [HV.out]; rfl, HE1.out⟩
end Go.Proofs.YtffogjhjgmohiaaDoor

