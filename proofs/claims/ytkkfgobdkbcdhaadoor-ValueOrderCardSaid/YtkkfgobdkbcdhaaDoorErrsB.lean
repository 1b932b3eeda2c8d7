/-
  value: ErrorOf; the law's fit, light: walks. Conditions: each theorem's own.
-/
import Derived.Test.YtkkfgobdkbcdhaaDoorValueY
import Derived.OpenShut
namespace Go.Proofs.YtkkfgobdkbcdhaaDoor
open Go.RowKit Num
set_option linter.unusedVariables false
set_option linter.unusedSimpArgs false

/-- Which error has this text; 0: none. -/
def errIx (s : ByteArray) : Int := if s = en1 then 1 else if s = en2 then 2 else if s = en3 then 3 else if s = en4 then 4 else if s = en5 then 5 else if s = en6 then 6 else if s = en7 then 7 else 0
def enAt (j : Nat) : ByteArray := [en1, en2, en3, en4, en5, en6, en7].getD j ⟨#[]⟩
theorem errIx_at : ∀ j, j < 7 → errIx (enAt j) = (j : Int) + 1 := by
  have h : ((List.range 7).all fun j => decide (errIx (enAt j) = (j : Int) + 1)) = true := by decide +kernel
  intro j hj
  exact of_decide_eq_true (List.all_eq_true.1 h j (List.mem_range.2 hj))
theorem errIx_no {s : ByteArray} (h : ∀ j, j < 7 → enAt j ≠ s) : errIx s = 0 := by
  have h0 := h 0 (by omega); have h1 := h 1 (by omega); have h2 := h 2 (by omega); have h3 := h 3 (by omega); have h4 := h 4 (by omega); have h5 := h 5 (by omega); have h6 := h 6 (by omega)
  unfold errIx
  rw [if_neg (fun e => h0 e.symm), if_neg (fun e => h1 e.symm), if_neg (fun e => h2 e.symm), if_neg (fun e => h3 e.symm), if_neg (fun e => h4 e.symm), if_neg (fun e => h5 e.symm), if_neg (fun e => h6 e.symm)]
theorem bytes_nb {s t : ByteArray} (h : t ≠ s) : (t.toList == s.toList) = false := by
  rw [beq_eq_false_iff_ne, Lib.toList_data s]; exact bytes_ne h
set_option maxHeartbeats 2000000 in
theorem eof_any (s : ByteArray) (w : World) (ht : Tab w) : Calls Tryd.prog 11 #[.string s] w fun e w' => e = .returned (.tuple #[.int .i64 (errIx s), .bool (errIx s != 0)]) ∧ Ext w w' := by
  have hc := en_call w ht
  have HC := Lib.hid hc
  clear hc ht
  go_enter Tryd.func11, Tryd.ntmps11
  go_wp2_with fail
  refine HC.out.mono ?_
  rintro e w1 ⟨rfl, rfl⟩
  go_wp2_with fail
  go_loop [4, 5, 8] (fun _ _ si => ∃ k : Nat, k ≤ 7 ∧ si = .int .i64 (k : Int) ∧ ∀ j, j < k → enAt j ≠ s) (fun _ _ si => 7 - (intOf si).toNat)
  case atStart => exact ⟨0, by omega, rfl, fun j hj => by omega⟩
  case round =>
    obtain ⟨k, hk, rfl, hno⟩ := hrel
    have HNO := Lib.hid hno
    clear hno
    by_cases h7 : k = 7
    · subst h7
      have HE : Hid (errIx s = 0) := Lib.hid (errIx_no HNO.out)
      go_wp2_with fail
      go_ret2
      exact ⟨by rw [HE.out]; rfl, below_alloc1 _ _⟩
    by_cases hs : enAt k = s
    · have he := errIx_at k (by omega)
      rw [hs] at he
      have HE := Lib.hid he
      clear he
      have hks : k = 0 ∨ k = 1 ∨ k = 2 ∨ k = 3 ∨ k = 4 ∨ k = 5 ∨ k = 6 := by omega
      clear h7 hk
      rcases hks with rfl | rfl | rfl | rfl | rfl | rfl | rfl
      all_goals
        simp only [enAt, List.getD_cons_zero, List.getD_cons_succ] at hs
        subst hs
        go_wp2_with fail
        go_ret2
        exact ⟨by rw [HE.out]; rfl, below_alloc1 _ _⟩
    · have hb := bytes_nb hs
      have hks : k = 0 ∨ k = 1 ∨ k = 2 ∨ k = 3 ∨ k = 4 ∨ k = 5 ∨ k = 6 := by omega
      have hnx : Hid (∀ j, j < k + 1 → enAt j ≠ s) := Lib.hid fun j hj => by
        rcases Nat.lt_succ_iff_lt_or_eq.1 hj with h | rfl
        · exact HNO.out j h
        · exact hs
      clear h7 hk hs HNO
      rcases hks with rfl | rfl | rfl | rfl | rfl | rfl | rfl
      all_goals
        simp only [enAt, List.getD_cons_zero, List.getD_cons_succ] at hb
        go_wp2_with fail
        go_round
        case rel => exact ⟨_, by first | omega | decide, rfl, hnx.out⟩
        case measure => simp [intOf]
theorem light_any (k n : Int) (s : ByteArray) (w : World) (hs : s.size ≤ 9223372036854775807) : Calls Tryd.prog 12 #[.agg #[.int .i64 k, .int .i64 n, .string s]] w fun e w' => e = .returned (.bool (decide ((s.size : Int) ≤ 300))) ∧ Ext w w' := by
  go_enter Tryd.func12, Tryd.ntmps12
  go_wp2_with fail
  go_ret
  exact ⟨rfl, below_alloc1 _ _⟩
theorem fit_v (w : World) (ht : Tab w) : Calls Tryd.prog 9 #[] w fun e w' => e = .returned (.bool true) ∧ Ext w w' := by
  have c1 := fun w => text_v ⟨#[45, 49, 46, 53]⟩ w
  have c2 := fun w => tonum_v (.text ⟨#[45, 49, 46, 53]⟩) w (show ByteArray.size ⟨#[45, 49, 46, 53]⟩ ≤ 64 by decide)
  have c3 := fun w (ht : Tab w) => show_v (.num 0) w ⟨by omega, by omega⟩ ht
  rw [show textOf ⟨#[45, 49, 46, 53]⟩ = .text ⟨#[45, 49, 46, 53]⟩ from rfl] at c1
  have hq : parse (Lib.trimPrefix [45, 49, 46, 53] [45]) = some 1500000 := by decide +kernel
  have hn : toNum (.text ⟨#[45, 49, 46, 53]⟩) = .num (-1500000) := by
    show (match parse (Lib.trimPrefix [45, 49, 46, 53] [45]) with | none => RV.err 2 | some v => .num (if Lib.hasPrefix [45, 49, 46, 53] [45] then -(v : Int) else (v : Int))) = _
    rw [hq]; rfl
  have hz : showB (.num 0) = ⟨#[48]⟩ := by show (⟨(txt 0).toArray⟩ : ByteArray) = _; rw [show txt 0 = [48] by decide]
  rw [hn] at c2
  rw [hz] at c3
  have C1 := Lib.hid c1
  have C2 := Lib.hid c2
  have C3 := Lib.hid c3
  clear c1 c2 c3 hq hn hz
  go_enter Tryd.func9, Tryd.ntmps9
  go_wp2_with fail
  refine (C1.out _).mono ?_
  rintro e w1 ⟨rfl, hE1⟩
  go_wp2_with fail
  refine (C2.out _).mono ?_
  rintro e w2 ⟨rfl, hE2⟩
  go_wp2_with fail
  refine (num_v (-1500000) _).mono ?_
  rintro e w3 ⟨rfl, hE3⟩
  have hE4 := Ext.trans (Ext.trans hE1 hE2) hE3
  have T4 := Lib.hid (ht.ext hE4)
  clear hE1 hE2 hE3 ht
  unfold RV.val RV.k RV.n RV.s
  go_wp2_with fail
  refine (num_v 0 _).mono ?_
  rintro e w5 ⟨rfl, hE5⟩
  go_wp2_with fail
  refine (C3.out _ (T4.out.ext hE5)).mono ?_
  rintro e w6 ⟨rfl, hE6⟩
  go_wp2_with fail
  go_ret
  exact ⟨rfl, Ext.trans hE4 (Ext.trans hE5 hE6)⟩
end Go.Proofs.YtkkfgobdkbcdhaaDoor
