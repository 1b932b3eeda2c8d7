/-
  TreeNames: walk. Conditions: the arguments' own.
-/
import Derived.Test.YtmbjomeiiihofaaDoorTreeI
namespace Go.Proofs.YtmbjomeiiihofaaDoor.treeNames
open Go.RowKit
set_option linter.unusedVariables false
set_option linter.unusedSimpArgs false

theorem noref4 {a b c d : UInt8} (h1 : a ≠ 36) (h2 : b ≠ 36) (h3 : c ≠ 33) (t : Int) : ¬ IsRefP [a, b, c, d] t := by
  rintro ⟨s, e, r, x, y, ⟨hs, hc, hr⟩, h | ⟨-, h⟩⟩
  · simp only [fullL, List.cons.injEq] at h
    exact h3 h.2.2.1
  · have hl := (d2_facts (r + 1) (by omega)).2.2.1
    cases x
    · simp only [bodyL, dol, List.nil_append, Bool.false_eq_true, if_false, List.cons.injEq] at h
      cases y
      · have := congrArg List.length h.2
        simp only [Bool.false_eq_true, if_false, List.nil_append, List.length_cons, List.length_nil] at this
        omega
      · simp only [if_true, List.cons_append, List.nil_append, List.cons.injEq] at h
        exact h2 h.2.1
    · simp only [bodyL, dol, if_true, List.cons_append, List.nil_append, List.cons.injEq] at h
      exact h1 h.1
theorem name_A1 : isNameV [65, 49] = false := by
  unfold isNameV
  rw [isRef_true (t := 0) ⟨0, 0, 0, false, false, ⟨by omega, by omega, by omega⟩, .inr ⟨rfl, by decide⟩⟩]
  simp
theorem name_SUM : isNameV [83, 85, 77] = false := by
  unfold isNameV
  rw [show numOf [83, 85, 77] = 21 by decide +kernel]
  simp
theorem name_RATE : isNameV [82, 65, 84, 69] = true := by
  unfold isNameV
  rw [isRef_false (noref4 (by decide) (by decide) (by decide) 0), show numOf [82, 65, 84, 69] = 0 by decide +kernel]
  decide
theorem name_A100 : isNameV [65, 49, 48, 48] = true := by
  unfold isNameV
  rw [isRef_false (noref4 (by decide) (by decide) (by decide) 0), show numOf [65, 49, 48, 48] = 0 by decide +kernel]
  decide
theorem name_of {l : List UInt8} (h : isNameV l = true) : (∃ b r, l = b :: r ∧ 65 ≤ b.toNat ∧ b.toNat ≤ 90) ∧ l.length ≤ 12 ∧ l ≠ [84, 82, 85, 69] ∧ l ≠ [66, 76, 65, 78, 75] ∧ numOf l = 0 := by
  unfold isNameV at h
  simp only [Bool.and_eq_true, decide_eq_true_eq, bne_iff_ne, Bool.not_eq_true'] at h
  obtain ⟨⟨⟨⟨⟨⟨⟨h1, h2⟩, h3⟩, h4⟩, h5⟩, h6⟩, h7⟩, -⟩ := h
  refine ⟨?_, h2, h3, h5, h6⟩
  cases l with
  | nil => cases h1
  | cons b r =>
    simp only [goodFrom, okB, Bool.and_eq_true] at h7
    have h8 := h7.1
    simp at h8
    exact ⟨b, r, rfl, h8⟩
theorem name_fn (k : Nat) (h : k < 54) : isNameV (fnN k) = false := by
  unfold isNameV
  rw [numOf_names k h]
  simp
theorem fn_ne : ∀ k, k < 54 → fnN k ≠ [] ∧ fnLo k ≤ 9 ∧ fnHi k ≤ 9 ∧ (fnN k).length ≤ 20 := by
  have h : ((List.range 54).all fun k => decide (fnN k ≠ [] ∧ fnLo k ≤ 9 ∧ fnHi k ≤ 9 ∧ (fnN k).length ≤ 20)) = true := by decide +kernel
  intro k hk
  exact of_decide_eq_true (List.all_eq_true.1 h k (List.mem_range.2 hk))
theorem fits_bd {n args : Int} (h : fitsOf n args = true) : 0 ≤ args ∧ args ≤ 9 := by
  unfold fitsOf at h
  simp only [Bool.and_eq_true, decide_eq_true_eq] at h
  have := fn_ne (n.toNat - 1) (by omega)
  omega
set_option maxRecDepth 100000 in
set_option maxHeartbeats 8000000 in
theorem walk0 (n args : Int) (s : ByteArray) (W : World) (hs : s.size ≤ 9223372036854775807) (hE : EnvQ W) :
    Calls Tryd.prog 3 #[.int .i64 n, .int .i64 args, .string s] W fun e w' => e = .returned (.bool true) ∧ Ext W w' := by
  have HQ := Lib.hid hE
  have hr := Ext.refl W
  have e0 : CallE Tryd.prog W 8 #[] (.bool true) := fun w' hE => fit5 w' (HQ.out.ext hE)
  clear hE
  by_cases hz : 50 < s.size
  · have hz' : (50 : Int) < (s.size : Int) := by omega
    go_enter Tryd.func3, Tryd.ntmps3
    go_wp2_with (first | ((with_reducible refine (CallE.at_ (by assumption) (by assumption)).mono ?_); rintro e w' ⟨rfl, hEx⟩))
    go_ret
    exact ⟨rfl, by assumption⟩
  have hz' : (s.size : Int) ≤ 50 := by omega
  obtain ⟨X, hX⟩ : ∃ X : ByteArray, X = ⟨(nameOf n).toArray⟩ := ⟨_, rfl⟩
  have hXl : X.data.toList = nameOf n := by rw [hX]
  have e1 : CallE Tryd.prog W 9 #[.int .i64 n] (.string X) := fun w' hE => by rw [hX]; exact name_any n w' (HQ.out.ext hE).1
  have eX : CallE Tryd.prog W 10 #[.string X] (.int .i64 (numOf X.data.toList : Int)) := fun w' hE => number_any X w' (HQ.out.ext hE).1
  have hXs : X.size ≤ 100 := by
    have h1 : X.size = X.data.toList.length := by simp
    rw [h1, hXl]
    unfold nameOf
    split
    · have := (fn_ne (n.toNat - 1) (by omega)).2.2.2; omega
    · simp
  have eY : CallE Tryd.prog W 12 #[.string X] (.bool false) := fun w' hE => by
    have := isname_any X w' (by omega) (HQ.out.ext hE).1 (HQ.out.ext hE).2
    rwa [show isNameV X.data.toList = false by
      rw [hXl]
      unfold nameOf
      split
      · exact name_fn _ (by omega)
      · rfl] at this
  obtain ⟨ft, hft⟩ : ∃ b, fitsOf n args = b := ⟨_, rfl⟩
  have e2 : CallE Tryd.prog W 11 #[.int .i64 n, .int .i64 args] (.bool ft) := fun w' hE => by rw [← hft]; exact fits_any n args w' (HQ.out.ext hE).1
  have e3 : CallE Tryd.prog W 12 #[.string s] (.bool (isNameV s.data.toList)) := fun w' hE => isname_any s w' hs (HQ.out.ext hE).1 (HQ.out.ext hE).2
  have e4 : CallE Tryd.prog W 12 #[.string ⟨#[65, 49]⟩] (.bool false) := fun w' hE => by
    have := isname_any ⟨#[65, 49]⟩ w' (by decide) (HQ.out.ext hE).1 (HQ.out.ext hE).2
    rwa [show isNameV (⟨#[65, 49]⟩ : ByteArray).data.toList = false from name_A1] at this
  have e5 : CallE Tryd.prog W 12 #[.string ⟨#[83, 85, 77]⟩] (.bool false) := fun w' hE => by
    have := isname_any ⟨#[83, 85, 77]⟩ w' (by decide) (HQ.out.ext hE).1 (HQ.out.ext hE).2
    rwa [show isNameV (⟨#[83, 85, 77]⟩ : ByteArray).data.toList = false from name_SUM] at this
  have e6 : CallE Tryd.prog W 12 #[.string ⟨#[82, 65, 84, 69]⟩] (.bool true) := fun w' hE => by
    have := isname_any ⟨#[82, 65, 84, 69]⟩ w' (by decide) (HQ.out.ext hE).1 (HQ.out.ext hE).2
    rwa [show isNameV (⟨#[82, 65, 84, 69]⟩ : ByteArray).data.toList = true from name_RATE] at this
  have e7 : CallE Tryd.prog W 12 #[.string ⟨#[65, 49, 48, 48]⟩] (.bool true) := fun w' hE => by
    have := isname_any ⟨#[65, 49, 48, 48]⟩ w' (by decide) (HQ.out.ext hE).1 (HQ.out.ext hE).2
    rwa [show isNameV (⟨#[65, 49, 48, 48]⟩ : ByteArray).data.toList = true from name_A100] at this
  have e9 : CallE Tryd.prog W 10 #[.string s] (.int .i64 (numOf s.data.toList : Int)) := fun w' hE => number_any s w' (HQ.out.ext hE).1
  have hbd := Lib.hid (fun h => fits_bd (n := n) (args := args) h)
  have hnm := Lib.hid (fun h => name_of (l := s.data.toList) h)
  obtain ⟨is, his⟩ : ∃ b, isNameV s.data.toList = b := ⟨_, rfl⟩
  rw [his] at e3 hnm
  rw [hft] at hbd
  have hl0 : s.toList = s.data.toList := Lib.toList_data s
  have hlen : s.data.toList.length = s.size := by simp
  clear hXs hX hz
  have T1 : Hid (1 ≤ n ∧ n ≤ 54 → X.data.toList ≠ [] ∧ ((numOf X.data.toList : Nat) : Int) = n) := Lib.hid (fun h => by
    have hk : n.toNat - 1 < 54 := by omega
    have e : nameOf n = fnN (n.toNat - 1) := if_pos h
    rw [hXl, e]
    refine ⟨(fn_ne _ hk).1, ?_⟩
    rw [numOf_names _ hk]; omega)
  have T2 : Hid (¬ (1 ≤ n ∧ n ≤ 54) → X.data.toList = [] ∧ ft = false) := Lib.hid (fun h => ⟨by rw [hXl]; exact if_neg h, by rw [← hft]; unfold fitsOf; rw [decide_eq_false h]; rfl⟩)
  clear hXl hft his
  have hX0 : X.toList = X.data.toList := Lib.toList_data X
  cases is
  · by_cases hin : 1 ≤ n ∧ n ≤ 54
    · obtain ⟨t1, t2⟩ := T1.out hin
      rw [t2] at eX
      have x1 : ¬ X.toList = [] := by rw [hX0]; exact t1
      have x2 : X.toList.isEmpty = false := by rw [List.isEmpty_eq_false_iff]; exact x1
      have x3 : (1 : Int) ≤ n := hin.1
      have x4 : n ≤ 54 := hin.2
      have x5 : (n != n) = false := by simp
      clear T1 T2 t1 t2 hX0 hl0 hlen hin
      cases ft
      · go_enter Tryd.func3, Tryd.ntmps3
        go_wp2_with (first | ((with_reducible refine (CallE.at_ (by assumption) (by assumption)).mono ?_); rintro e w' ⟨rfl, hEx⟩))
        go_ret
        exact ⟨rfl, by assumption⟩
      · obtain ⟨b1, b2⟩ := hbd.out rfl
        have b3 : decide (args < 0) = false := by simp; omega
        have b4 : decide (9 < args) = false := by simp; omega
        clear hbd
        go_enter Tryd.func3, Tryd.ntmps3
        go_wp2_with (first | ((with_reducible refine (CallE.at_ (by assumption) (by assumption)).mono ?_); rintro e w' ⟨rfl, hEx⟩))
        go_ret
        exact ⟨rfl, by assumption⟩
    · obtain ⟨t1, rfl⟩ := T2.out hin
      have hX00 : X = ⟨#[]⟩ := ByteArray.ext (Array.ext' t1)
      subst hX00
      clear T1 T2 t1 hX0 hl0 hlen eX
      by_cases h1 : n < 1
      · clear hin
        go_enter Tryd.func3, Tryd.ntmps3
        go_wp2_with (first | ((with_reducible refine (CallE.at_ (by assumption) (by assumption)).mono ?_); rintro e w' ⟨rfl, hEx⟩))
        go_ret
        exact ⟨rfl, by assumption⟩
      · have h2 : 54 < n := by omega
        have h3 : 1 ≤ n := by omega
        clear hin h1
        go_enter Tryd.func3, Tryd.ntmps3
        go_wp2_with (first | ((with_reducible refine (CallE.at_ (by assumption) (by assumption)).mono ?_); rintro e w' ⟨rfl, hEx⟩))
        go_ret
        exact ⟨rfl, by assumption⟩
  · obtain ⟨⟨b, r, hb, hb1, hb2⟩, h12, hn1, hn2, hn3⟩ := hnm.out rfl
    have hs0 : 0 < s.size := by rw [← hlen, hb]; simp
    have c1 : ¬ s.toList = [] := by rw [hl0, hb]; simp
    have c2 : s.toList.isEmpty = false := by rw [List.isEmpty_eq_false_iff]; exact c1
    have c3 : decide ((12 : Int) < (s.size : Int)) = false := by simp; omega
    obtain ⟨b0, hb0⟩ : ∃ b0, s[0]'hs0 = b0 := ⟨_, rfl⟩
    have hbb : b0 = b := by
      have h := head_tail hs0 hb0
      rw [hb] at h
      exact (List.cons.inj h).1.symm
    rw [← hbb] at hb1 hb2
    have c4 : (65 : Int) ≤ (b0.toNat : Int) := by omega
    have c5 : (b0.toNat : Int) ≤ 90 := by omega
    have c6 : ¬ s.toList = [84, 82, 85, 69] := by rw [hl0]; exact hn1
    have c7 : ¬ s.toList = [66, 76, 65, 78, 75] := by rw [hl0]; exact hn2
    have c8 : (s.toList == [84, 82, 85, 69]) = false := by rw [beq_eq_false_iff_ne]; exact c6
    have c9 : (s.toList == [66, 76, 65, 78, 75]) = false := by rw [beq_eq_false_iff_ne]; exact c7
    rw [hn3] at e9
    clear hnm hb hb1 hb2 hbb h12 hn1 hn2 hn3
    by_cases hin : 1 ≤ n ∧ n ≤ 54
    · obtain ⟨t1, t2⟩ := T1.out hin
      rw [t2] at eX
      have x1 : ¬ X.toList = [] := by rw [hX0]; exact t1
      have x2 : X.toList.isEmpty = false := by rw [List.isEmpty_eq_false_iff]; exact x1
      have x3 : (1 : Int) ≤ n := hin.1
      have x4 : n ≤ 54 := hin.2
      have x5 : (n != n) = false := by simp
      clear T1 T2 t1 t2 hX0 hl0 hlen hin
      cases ft
      · go_enter Tryd.func3, Tryd.ntmps3
        go_wp2_with (first | ((with_reducible refine (CallE.at_ (by assumption) (by assumption)).mono ?_); rintro e w' ⟨rfl, hEx⟩))
        go_ret
        exact ⟨rfl, by assumption⟩
      · obtain ⟨b1, b2⟩ := hbd.out rfl
        have b3 : decide (args < 0) = false := by simp; omega
        have b4 : decide (9 < args) = false := by simp; omega
        clear hbd
        go_enter Tryd.func3, Tryd.ntmps3
        go_wp2_with (first | ((with_reducible refine (CallE.at_ (by assumption) (by assumption)).mono ?_); rintro e w' ⟨rfl, hEx⟩))
        go_ret
        exact ⟨rfl, by assumption⟩
    · obtain ⟨t1, rfl⟩ := T2.out hin
      have hX00 : X = ⟨#[]⟩ := ByteArray.ext (Array.ext' t1)
      subst hX00
      clear T1 T2 t1 hX0 hl0 hlen eX
      by_cases h1 : n < 1
      · clear hin
        go_enter Tryd.func3, Tryd.ntmps3
        go_wp2_with (first | ((with_reducible refine (CallE.at_ (by assumption) (by assumption)).mono ?_); rintro e w' ⟨rfl, hEx⟩))
        go_ret
        exact ⟨rfl, by assumption⟩
      · have h2 : 54 < n := by omega
        have h3 : 1 ≤ n := by omega
        clear hin h1
        go_enter Tryd.func3, Tryd.ntmps3
        go_wp2_with (first | ((with_reducible refine (CallE.at_ (by assumption) (by assumption)).mono ?_); rintro e w' ⟨rfl, hEx⟩))
        go_ret
        exact ⟨rfl, by assumption⟩
theorem walk (n args : Int) (s : ByteArray) (W : World) (wn : (Lit.int .i64 n).wf = true) (wa : (Lit.int .i64 args).wf = true) (ws : s.size ≤ 9223372036854775807) (hm : EnvQ W) :
    Calls Tryd.prog 3 #[.int .i64 n, .int .i64 args, .string s] W fun e w' => e = .returned (.bool true) ∧ Below W.heap.size W w' := walk0 n args s W ws hm
end Go.Proofs.YtmbjomeiiihofaaDoor.treeNames
