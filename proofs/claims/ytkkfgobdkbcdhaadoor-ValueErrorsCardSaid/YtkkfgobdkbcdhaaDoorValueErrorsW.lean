/-
  ValueErrors: walk. Conditions: the arguments' own.
-/
import Derived.Test.YtkkfgobdkbcdhaaDoorErrsB
namespace Go.Proofs.YtkkfgobdkbcdhaaDoor.valueErrors
open Go.RowKit Num
set_option linter.unusedVariables false
set_option linter.unusedSimpArgs false

theorem in_facts (c : Int) (h : 1 ≤ c ∧ c ≤ 7) : (errName c).toList.isEmpty = false ∧ errIx (errName c) = c := by
  have hcs : c = 1 ∨ c = 2 ∨ c = 3 ∨ c = 4 ∨ c = 5 ∨ c = 6 ∨ c = 7 := by omega
  rcases hcs with rfl | rfl | rfl | rfl | rfl | rfl | rfl <;> exact ⟨by rw [Lib.toList_data]; decide +kernel, by decide +kernel⟩
theorem out_facts (c : Int) (h : c < 1 ∨ 7 < c) : errName c = ⟨#[]⟩ := by
  unfold errName; repeat rw [if_neg (by omega)]
theorem ix_facts (s : ByteArray) : errIx s = 0 ∨ (1 ≤ errIx s ∧ errIx s ≤ 7 ∧ errName (errIx s) = s) := by
  by_cases h : ∃ j, j < 7 ∧ enAt j = s
  · obtain ⟨j, hj, rfl⟩ := h
    rw [errIx_at j hj]
    refine .inr ⟨by omega, by omega, ?_⟩
    have hcs : j = 0 ∨ j = 1 ∨ j = 2 ∨ j = 3 ∨ j = 4 ∨ j = 5 ∨ j = 6 := by omega
    rcases hcs with rfl | rfl | rfl | rfl | rfl | rfl | rfl <;> rfl
  · exact .inl (errIx_no fun j hj e => h ⟨j, hj, e⟩)
set_option maxHeartbeats 1000000 in
theorem tail (c : Int) (s t : ByteArray) (w : World) (hs : (s.size : Int) ≤ 100)
    (hj : errIx s = 0 ∨ (1 ≤ errIx s ∧ errIx s ≤ 7 ∧ errName (errIx s) = s))
    (hc : (c < 1 ∧ t = ⟨#[]⟩) ∨ (7 < c ∧ t = ⟨#[]⟩) ∨ (1 ≤ c ∧ c ≤ 7 ∧ t.toList.isEmpty = false ∧ errIx t = c)) (htn : errName c = t) (ht : Tab w) :
    Calls Tryd.prog 3 #[.int .i64 c, .string s] w fun e w' => e = .returned (.bool true) ∧ Ext w w' := by
  have e1 : CallE Tryd.prog w _ _ _ := fun w' hE => fit_v w' (ht.ext hE)
  have e2 : CallE Tryd.prog w _ _ _ := fun w' hE => ename_any c w' (ht.ext hE)
  have e3 : CallE Tryd.prog w _ _ _ := fun w' hE => eof_any t w' (ht.ext hE)
  have e4 : CallE Tryd.prog w _ _ _ := fun w' hE => eof_any s w' (ht.ext hE)
  have e5 : CallE Tryd.prog w _ _ _ := fun w' hE => ename_any (errIx s) w' (ht.ext hE)
  rw [htn] at e2
  have hEx : Ext w w := Ext.refl w
  clear htn ht
  rcases hj with hj | ⟨hj1, hj2, hj3⟩
  · rw [hj] at e4
    clear hj e5
    rcases hc with ⟨hc, rfl⟩ | ⟨hc, rfl⟩ | ⟨h1, h2, h3, h4⟩
    · clear e3
      go_enter Tryd.func3, Tryd.ntmps3
      go_wp2_with (first | ((with_reducible refine (CallE.at_ (by assumption) (by assumption)).mono ?_); rintro e w' ⟨rfl, hEx⟩))
      go_ret
      exact ⟨rfl, by assumption⟩
    · clear e3
      go_enter Tryd.func3, Tryd.ntmps3
      go_wp2_with (first | ((with_reducible refine (CallE.at_ (by assumption) (by assumption)).mono ?_); rintro e w' ⟨rfl, hEx⟩))
      go_ret
      exact ⟨rfl, by assumption⟩
    · rw [h4] at e3
      have hb : (c != 0) = true := by simp; omega
      rw [hb] at e3
      have h5 : ¬ t.toList = [] := by intro e; rw [e] at h3; simp at h3
      clear h4 hb
      go_enter Tryd.func3, Tryd.ntmps3
      go_wp2_with (first | ((with_reducible refine (CallE.at_ (by assumption) (by assumption)).mono ?_); rintro e w' ⟨rfl, hEx⟩))
      go_ret
      exact ⟨rfl, by assumption⟩
  · have hb : (errIx s != 0) = true := by simp; omega
    rw [hb] at e4
    rw [hj3] at e5
    generalize errIx s = j at *
    clear hb hj3
    rcases hc with ⟨hc, rfl⟩ | ⟨hc, rfl⟩ | ⟨h1, h2, h3, h4⟩
    · clear e3
      go_enter Tryd.func3, Tryd.ntmps3
      go_wp2_with (first | ((with_reducible refine (CallE.at_ (by assumption) (by assumption)).mono ?_); rintro e w' ⟨rfl, hEx⟩))
      go_ret
      exact ⟨rfl, by assumption⟩
    · clear e3
      go_enter Tryd.func3, Tryd.ntmps3
      go_wp2_with (first | ((with_reducible refine (CallE.at_ (by assumption) (by assumption)).mono ?_); rintro e w' ⟨rfl, hEx⟩))
      go_ret
      exact ⟨rfl, by assumption⟩
    · rw [h4] at e3
      have hb : (c != 0) = true := by simp; omega
      rw [hb] at e3
      have h5 : ¬ t.toList = [] := by intro e; rw [e] at h3; simp at h3
      clear h4 hb
      go_enter Tryd.func3, Tryd.ntmps3
      go_wp2_with (first | ((with_reducible refine (CallE.at_ (by assumption) (by assumption)).mono ?_); rintro e w' ⟨rfl, hEx⟩))
      go_ret
      exact ⟨rfl, by assumption⟩
theorem walk (c : Int) (s : ByteArray) (w : World) (wc : (Lit.int .i64 c).wf = true) (ws : s.size ≤ 9223372036854775807) (ht : Tab w) :
    Calls Tryd.prog 3 #[.int .i64 c, .string s] w fun e w' => e = .returned (.bool true) ∧ Below w.heap.size w w' := by
  by_cases hs : 100 < (s.size : Int)
  · have e1 : CallE Tryd.prog w _ _ _ := fun w' hE => fit_v w' (ht.ext hE)
    have hEx : Ext w w := Ext.refl w
    clear ht wc ws
    go_enter Tryd.func3, Tryd.ntmps3
    go_wp2_with (first | ((with_reducible refine (CallE.at_ (by assumption) (by assumption)).mono ?_); rintro e w' ⟨rfl, hEx⟩))
    go_ret
    exact ⟨rfl, by assumption⟩
  · refine tail c s (errName c) w (by omega) (ix_facts s) ?_ rfl ht
    by_cases h1 : c < 1
    · exact .inl ⟨h1, out_facts c (.inl h1)⟩
    by_cases h7 : 7 < c
    · exact .inr (.inl ⟨h7, out_facts c (.inr h7)⟩)
    · exact .inr (.inr ⟨by omega, by omega, in_facts c ⟨by omega, by omega⟩⟩)
end Go.Proofs.YtkkfgobdkbcdhaaDoor.valueErrors
