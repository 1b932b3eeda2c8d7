/-
  addr: texts of references. Plain, and the shelf's contracts in its words. Conditions: each theorem's own.
-/
import Derived.Test.YtffogjhjgmohiaaDoorBlocks
import Derived.Test.YtffogjhjgmohiaaDoorRows
import Derived.Test.YtffogjhjgmohiaaDoorShelf
import Derived.Lib.Hide
namespace Go.Proofs.YtffogjhjgmohiaaDoor
open Go.RowKit
set_option linter.unusedVariables false
set_option linter.unusedSimpArgs false

def D2 (k : Nat) : List UInt8 := if k < 10 then [UInt8.ofNat (48 + k)] else [UInt8.ofNat (48 + k / 10), UInt8.ofNat (48 + k % 10)]
theorem dec2 (k : Nat) (h : k < 100) : Lib.decDigits k = D2 k := by
  unfold D2
  by_cases h1 : k < 10
  · rw [if_pos h1]; unfold Lib.decDigits; rw [dif_pos h1]
  · rw [if_neg h1]; unfold Lib.decDigits; rw [dif_neg h1]
    unfold Lib.decDigits; rw [dif_pos (by omega)]; rfl
def colB (c : Nat) : UInt8 := UInt8.ofNat (65 + c)
def dol (x : Bool) : List UInt8 := if x then [36] else []
def bodyL (x y : Bool) (c r : Nat) : List UInt8 := dol x ++ (colB c :: (dol y ++ D2 (r + 1)))
def fullL (s : Nat) (x y : Bool) (c r : Nat) : List UInt8 := 83 :: UInt8.ofNat (49 + s) :: 33 :: bodyL x y c r
def mk (l : List UInt8) : ByteArray := ⟨l.toArray⟩
theorem mk_list (l : List UInt8) : (mk l).data.toList = l := by simp [mk]
theorem mk_size (l : List UInt8) : (mk l).size = l.length := by show l.toArray.size = _; simp
theorem index_no : ∀ l : List UInt8, 33 ∉ l → Lib.index l [33] = -1
  | [], _ => rfl
  | b :: l, h => by
    have hb : (33 == b) = false := by rw [beq_eq_false_iff_ne]; rintro rfl; exact h List.mem_cons_self
    unfold Lib.index
    rw [index_no l (fun hm => h (List.mem_cons_of_mem _ hm))]
    simp [List.isPrefixOf, hb]
theorem cut_no (l : List UInt8) (h : 33 ∉ l) : Lib.cut l [33] = (l, [], false) := by
  unfold Lib.cut
  rw [index_no l h, if_neg (by decide)]
theorem cut_yes (a b : UInt8) (l : List UInt8) (ha : a ≠ 33) (hb : b ≠ 33) : Lib.cut (a :: b :: 33 :: l) [33] = ([a, b], l, true) := by
  have e1 : (33 == a) = false := by rw [beq_eq_false_iff_ne]; exact fun e => ha e.symm
  have e2 : (33 == b) = false := by rw [beq_eq_false_iff_ne]; exact fun e => hb e.symm
  have hi : Lib.index (a :: b :: 33 :: l) [33] = 2 := by
    unfold Lib.index; unfold Lib.index; unfold Lib.index
    simp [List.isPrefixOf, e1, e2]
  unfold Lib.cut
  rw [hi, if_pos (by decide)]
  rfl
theorem trim_dol (x : Bool) (b : UInt8) (l : List UInt8) (hb : b ≠ 36) : Lib.trimPrefix (dol x ++ (b :: l)) [36] = b :: l ∧ Lib.hasPrefix (dol x ++ (b :: l)) [36] = x := by
  have e1 : (36 == b) = false := by rw [beq_eq_false_iff_ne]; exact fun e => hb e.symm
  cases x
  · have : Lib.hasPrefix (b :: l) [36] = false := by simp [Lib.hasPrefix, List.isPrefixOf, e1]
    exact ⟨by show Lib.trimPrefix (b :: l) [36] = _; unfold Lib.trimPrefix; rw [this]; rfl, this⟩
  · exact ⟨rfl, rfl⟩
theorem d2_facts (k : Nat) (h : k < 100) : (∀ b ∈ D2 k, 48 ≤ b.toNat ∧ b.toNat ≤ 57) ∧ D2 k ≠ [] ∧ (D2 k).length ≤ 2 ∧ Lib.atoi (D2 k) = some (k : Int) := by
  have hall : ((List.range 100).all fun k => (D2 k).all (fun b => decide (48 ≤ b.toNat ∧ b.toNat ≤ 57)) && !(D2 k).isEmpty && decide ((D2 k).length ≤ 2) && decide (Lib.atoi (D2 k) = some (k : Int))) = true := by decide +kernel
  have hk := List.all_eq_true.1 hall k (List.mem_range.2 h)
  simp only [Bool.and_eq_true, List.all_eq_true, decide_eq_true_eq, Bool.not_eq_true'] at hk
  obtain ⟨⟨⟨h1, h2⟩, h3⟩, h4⟩ := hk
  exact ⟨h1, (fun e => by rw [e] at h2; cases h2), h3, h4⟩
theorem colB_nat {c : Nat} (h : c < 26) : (colB c).toNat = 65 + c := by simp [colB, UInt8.toNat_ofNat']; omega
theorem d2_head {k : Nat} (h : k < 100) : ∃ b l, D2 k = b :: l ∧ 48 ≤ b.toNat ∧ b.toNat ≤ 57 := by
  obtain ⟨h1, h2, -, -⟩ := d2_facts k h
  cases hd : D2 k with
  | nil => exact absurd hd h2
  | cons b l => exact ⟨b, l, rfl, h1 b (by rw [hd]; exact List.mem_cons_self)⟩
theorem trim_digits (y : Bool) {k : Nat} (h : k < 100) : Lib.trimPrefix (dol y ++ D2 k) [36] = D2 k ∧ Lib.hasPrefix (dol y ++ D2 k) [36] = y := by
  obtain ⟨b, l, e, h1, h2⟩ := d2_head h
  rw [e]
  exact trim_dol y b l (by rintro rfl; exact absurd h1 (by decide))
theorem body_no (x y : Bool) {c r : Nat} (hc : c < 26) (hr : r < 99) : 33 ∉ bodyL x y c r := by
  have h1 := (d2_facts (r + 1) (by omega)).1
  have h2 := colB_nat hc
  have hd : ∀ z, (33 : UInt8) ∉ dol z := by intro z; cases z <;> simp [dol]
  intro h
  simp only [bodyL, List.mem_append, List.mem_cons] at h
  rcases h with h | h | h | h
  · exact hd _ h
  · rw [← h] at h2
    have : (33 : UInt8).toNat = 33 := rfl
    omega
  · exact hd _ h
  · exact absurd (h1 _ h).1 (by decide)
theorem body_len (x y : Bool) {c r : Nat} (hr : r < 99) : (bodyL x y c r).length ≤ 5 := by
  have h3 := (d2_facts (r + 1) (by omega)).2.2.1
  have hd : ∀ z, (dol z).length ≤ 1 := by intro z; cases z <;> simp [dol]
  have := hd x; have := hd y
  simp only [bodyL, List.length_append, List.length_cons]
  omega
/-- bytealg.MaxLen holds some number. -/
def MaxI (w : World) : Prop := ∃ m, w.cell? ⟨3, 0, none⟩ = some (.int .i64 m)
theorem MaxI.ext {w w' : World} (h : MaxI w) (hE : Ext w w') : MaxI w' := by
  obtain ⟨m, hm⟩ := h
  exact ⟨m, ext_cell (World.block_lt_of_cell? _ _ hm) hm w' hE⟩
theorem cutC (s : ByteArray) (w : World) (hm : MaxI w) (hs : s.size ≤ 1000) :
    Calls Tryd.prog 65 #[.string s, .string ⟨#[33]⟩] w fun e w' => e = .returned (.tuple #[.string (mk (Lib.cut s.data.toList [33]).1), .string (mk (Lib.cut s.data.toList [33]).2.1), .bool (Lib.cut s.data.toList [33]).2.2]) ∧ Ext w w' := by
  obtain ⟨m, hm⟩ := hm
  exact (Tryd.strings_Cut s ⟨#[33]⟩ m w (by omega) hm).mono fun e w' ⟨he, n, hw⟩ => ⟨he, hw ▸ below_drewN (Below.refl _ _) n⟩
theorem preC (s : ByteArray) (w : World) :
    Calls Tryd.prog 66 #[.string s, .string ⟨#[36]⟩] w fun e w' => e = .returned (.tuple #[.string (mk (Lib.trimPrefix s.data.toList [36])), .bool (Lib.hasPrefix s.data.toList [36])]) ∧ w' = w := Tryd.strings_CutPrefix s ⟨#[36]⟩ w
theorem atoiC (k : Nat) (h : k < 100) (w : World) :
    Calls Tryd.prog 67 #[.string (mk (D2 k))] w fun e w' => e = .returned (.tuple #[.int .i64 (k : Int), .nilIface]) ∧ Ext w w' := by
  obtain ⟨-, -, h3, h4⟩ := d2_facts k h
  exact (Tryd.strconv_Atoi (mk (D2 k)) k (by rw [mk_size]; omega) (by rw [mk_list]; exact h4) w).mono fun e w' ⟨he, t, hw⟩ => ⟨he, hw ▸ Lib.bytesWorld_below w 5 t⟩
theorem itoaC (k : Nat) (h : k < 100) (w : World) :
    Calls Tryd.prog 68 #[.int .i64 (k : Int)] w fun e w' => e = .returned (.string (mk (D2 k))) ∧ w' = w := by
  have := Tryd.strconv_Itoa_small k h w
  rw [dec2 k h] at this
  exact this
/-! ### Cells -/
abbrev ceV (s c r : Int) : Value := .agg #[.int .i64 s, .int .i64 c, .int .i64 r]
abbrev refV (s c r : Int) (x y : Bool) : Value := .agg #[.int .i64 s, .int .i64 c, .int .i64 r, .bool x, .bool y]
def insV (s c r : Int) : Bool := decide (0 ≤ s) && decide (s < 3) && decide (0 ≤ c) && decide (c < 26) && decide (0 ≤ r) && decide (r < 99)
theorem ins_bd {s c r : Int} (h : insV s c r = true) : (0 ≤ s ∧ s < 3) ∧ (0 ≤ c ∧ c < 26) ∧ 0 ≤ r ∧ r < 99 := by
  simp only [insV, Bool.and_eq_true, decide_eq_true_eq] at h; omega
theorem aright_any (s c r : Int) (w : World) :
    Calls Tryd.prog 43 #[ceV s c r] w fun e w' => e = .returned (.bool (insV s c r)) ∧ Ext w w' := by
  go_enter Tryd.func43, Tryd.ntmps43
  go_wp2_with fail
  all_goals go_ret
  all_goals refine ⟨?_, below_alloc1 _ _⟩
  all_goals unfold insV
  all_goals simp_all
  all_goals try (intros; omega)
def lessV (s c r s' c' r' : Int) : Bool := if s = s' then (if r = r' then decide (c < c') else decide (r < r')) else decide (s < s')
end Go.Proofs.YtffogjhjgmohiaaDoor
