/-
  value: the errors' texts: walks. Conditions: each theorem's own.
-/
import Derived.Test.YtffogjhjgmohiaaDoorDoor
import Derived.Test.YtffogjhjgmohiaaDoorVal
namespace Go.Proofs.YtffogjhjgmohiaaDoor
open Go.RowKit
set_option linter.unusedVariables false
set_option linter.unusedSimpArgs false

/-- The seven texts. -/
def en1 : ByteArray := ⟨#[35, 68, 73, 86, 47, 48, 33]⟩
def en2 : ByteArray := ⟨#[35, 86, 65, 76, 85, 69, 33]⟩
def en3 : ByteArray := ⟨#[35, 82, 69, 70, 33]⟩
def en4 : ByteArray := ⟨#[35, 78, 65, 77, 69, 63]⟩
def en5 : ByteArray := ⟨#[35, 78, 85, 77, 33]⟩
def en6 : ByteArray := ⟨#[35, 78, 47, 65]⟩
def en7 : ByteArray := ⟨#[35, 67, 89, 67, 76, 69, 33]⟩
def enAll : ByteArray := ⟨#[35, 68, 73, 86, 47, 48, 33, 32, 35, 86, 65, 76, 85, 69, 33, 32, 35, 82, 69, 70, 33, 32, 35, 78, 65, 77, 69, 63, 32, 35, 78, 85, 77, 33, 32, 35, 78, 47, 65, 32, 35, 67, 89, 67, 76, 69, 33]⟩
theorem en_fields : Lib.fields enAll.data.toList = [en1.data.toList, en2.data.toList, en3.data.toList, en4.data.toList, en5.data.toList, en6.data.toList, en7.data.toList] := by decide +kernel
theorem en_ascii : ∀ (j : Nat) b, enAll.data.toList[j]? = some b → b.toNat < 128 := by
  intro j b h
  have hall : (enAll.data.toList.all fun b => decide (b.toNat < 128)) = true := by decide +kernel
  exact of_decide_eq_true (List.all_eq_true.1 hall b (List.mem_of_getElem? h))
theorem en_call (w : World) (ht : Tab w) : Calls Tryd.prog 21 #[.string enAll] w fun e w' => e = .returned (.slice (some ⟨w.heap.size, 0, none⟩) 7 7) ∧ w' = w.alloc (.cells #[.string en1, .string en2, .string en3, .string en4, .string en5, .string en6, .string en7] 9) := by
  have h := Tryd.strings_Fields enAll w (by decide) en_ascii ht
  rw [en_fields] at h
  exact h
def errName (c : Int) : ByteArray := if c = 1 then en1 else if c = 2 then en2 else if c = 3 then en3 else if c = 4 then en4 else if c = 5 then en5 else if c = 6 then en6 else if c = 7 then en7 else ⟨#[]⟩
set_option maxHeartbeats 1000000 in
theorem ename_any (c : Int) (w : World) (ht : Tab w) : Calls Tryd.prog 34 #[.int .i64 c] w fun e w' => e = .returned (.string (errName c)) ∧ Ext w w' := by
  have hc := en_call w ht
  have HC := Lib.hid hc
  clear hc ht
  by_cases h1 : c < 1
  · have he : errName c = ⟨#[]⟩ := by simp only [errName]; repeat rw [if_neg (by omega)]
    rw [he]
    clear he
    go_enter Tryd.func34, Tryd.ntmps34
    go_wp2_with fail
    refine HC.out.mono ?_
    rintro e w1 ⟨rfl, rfl⟩
    go_wp2_with fail
    go_ret
    exact ⟨rfl, (Below.refl _ _).alloc (Nat.le_refl _) _⟩
  by_cases h7 : 7 < c
  · have he : errName c = ⟨#[]⟩ := by simp only [errName]; repeat rw [if_neg (by omega)]
    rw [he]
    clear he
    go_enter Tryd.func34, Tryd.ntmps34
    go_wp2_with fail
    refine HC.out.mono ?_
    rintro e w1 ⟨rfl, rfl⟩
    go_wp2_with fail
    go_ret
    exact ⟨rfl, (Below.refl _ _).alloc (Nat.le_refl _) _⟩
  have hcs : c = 1 ∨ c = 2 ∨ c = 3 ∨ c = 4 ∨ c = 5 ∨ c = 6 ∨ c = 7 := by omega
  clear h1 h7
  rcases hcs with rfl | rfl | rfl | rfl | rfl | rfl | rfl
  all_goals
    go_enter Tryd.func34, Tryd.ntmps34
    go_wp2_with fail
    refine HC.out.mono ?_
    rintro e w1 ⟨rfl, rfl⟩
    go_wp2_with fail
    go_ret
    exact ⟨rfl, (Below.refl _ _).alloc (Nat.le_refl _) _⟩
end Go.Proofs.YtffogjhjgmohiaaDoor
