/-
  reckonerlaw09: fit, right: walks. Conditions: each theorem's own.
-/
import Derived.Test.YtiddefbjnhhiiaaMathsD
import Derived.Test.YtiddefbjnhhiiaaPrintW
import Derived.OpenShut
namespace Go.Proofs.Ytiddefbjnhhiiaa
open Go.RowKit Num
set_option linter.unusedVariables false
set_option linter.unusedSimpArgs false

theorem fit_any (w : World) : Calls Try.prog 9 #[] w fun e w' => e = .returned (.bool true) ∧ Ext w w' := by
  have e1 : CallE Try.prog w _ _ _ := fun w' _ => two_mod (-1000000) 3000000 w' (by unfold Mant; omega) (by unfold Mant; omega) (by omega)
  have e2 : CallE Try.prog w _ _ _ := fun w' _ => vnum_any 2000000 w'
  have e3 : CallE Try.prog w 20 #[.int .i64 0] (.string { data := #[48] }) := fun w' _ => by
    refine (print_any 0 w' (by omega)).mono ?_
    rintro e w'' ⟨rfl, hb⟩
    exact ⟨by rw [show txt 0 = [48] by decide], hb⟩
  rw [show modV (-1000000) 3000000 = 2000000 by decide] at e1
  have hE : Ext w w := Ext.refl w
  go_enter Try.func9, Try.ntmps9
  go_wp2_with (first | ((with_reducible refine (CallE.at_ (by assumption) (by assumption)).mono ?_); rintro e w' ⟨rfl, hEx⟩))
  go_ret
  exact ⟨rfl, by assumption⟩
def rightV (a : Int) : Int := if a = -9223372036854775808 then 7 else a
theorem right_any (a : Int) (w : World) : Calls Try.prog 10 #[.int .i64 a] w fun e w' => e = .returned (.int .i64 (rightV a)) ∧ Ext w w' := by
  by_cases h : a = -9223372036854775808
  · subst h
    go_enter Try.func10, Try.ntmps10
    go_wp2_with fail
    go_ret
    exact ⟨rfl, Ext.refl _⟩
  · have t : (a == -9223372036854775808) = false := by simpa using h
    have hv : Hid (rightV a = a) := if_neg h
    clear h
    go_enter Try.func10, Try.ntmps10
    go_wp2_with fail
    go_ret
    exact ⟨by rw [hv.out]; rfl, Ext.refl _⟩
theorem rightV_mant {a : Int} (h : -9223372036854775808 ≤ a ∧ a ≤ 9223372036854775807) : Mant (rightV a) := by
  unfold rightV Mant
  split <;> omega
/-- A value in a block of its own. -/
theorem box_new (w : World) (k n : Int) (s : ByteArray) : ∃ W, w.alloc (.cells #[.int .i64 k, .int .i64 n, .string s] 25) = W ∧ Ext w W ∧ XB W w.heap.size ⟨k, n, s⟩ ∧ W.heap.size = w.heap.size + 1 :=
  ⟨_, rfl, below_alloc _ _, XB.new w ⟨k, n, s⟩, by simp⟩
theorem right_call (k n : Int) (hn : Mant n) (hv : vr k n { data := #[] } = true) (w : World) : Calls Try.prog 19 #[.agg #[.int .i64 k, .int .i64 n, .string { data := #[] }]] w fun e w' => e = .returned (.bool true) ∧ Ext w w' := by
  have h := vright_any k n { data := #[] } w ⟨by have := hn.1; omega, hn.2⟩
  rw [hv] at h
  exact h
theorem ofO_mant (n : Int) : Mant (oN (ofO n)) := by
  unfold ofO
  split
  · show Mant (n * 1000000); unfold Mant; omega
  · show Mant 5; unfold Mant; omega
theorem factO_bd (a : Int) : ∀ s, factO a = some s → Mant s := by
  intro s h
  unfold factO at h
  split at h
  · cases h
  · exact ofO_bd _ s h
end Go.Proofs.Ytiddefbjnhhiiaa
