/-
  texts: turned, trimmed, runes: what they are, and their walks. Conditions: each theorem's own.
-/
import Derived.Test.YtmdlahkmnjmanaaDoorTextsB
import Derived.Lib.RuneCount
import Derived.Laws.RangeString
import Derived.Laws.RangeAny
import Derived.Deep.DeepCutAuto
namespace Go.Proofs.YtmdlahkmnjmanaaDoor
open Go.RowKit Num
set_option linter.unusedVariables false
set_option linter.unusedSimpArgs false

/-! ### Letters -/
def upc (c : UInt8) : UInt8 := if 97 ≤ c.toNat ∧ c.toNat ≤ 122 then c - 32 else c
def loc (c : UInt8) : UInt8 := if 65 ≤ c.toNat ∧ c.toNat ≤ 90 then c + 32 else c
def all8 (f : UInt8 → Bool) : Bool := (List.range 256).all fun n => f (UInt8.ofNat n)
theorem all8_of {f : UInt8 → Bool} (h : all8 f = true) (c : UInt8) : f c = true := by
  have := List.all_eq_true.1 h c.toNat (List.mem_range.2 c.toNat_lt)
  rwa [UInt8.ofNat_toNat] at this
theorem upc_nat (c : UInt8) : (upc c).toNat = if 97 ≤ c.toNat ∧ c.toNat ≤ 122 then c.toNat - 32 else c.toNat := by
  have h : all8 (fun c => decide ((upc c).toNat = if 97 ≤ c.toNat ∧ c.toNat ≤ 122 then c.toNat - 32 else c.toNat)) = true := by decide +kernel
  exact of_decide_eq_true (all8_of h c)
theorem loc_nat (c : UInt8) : (loc c).toNat = if 65 ≤ c.toNat ∧ c.toNat ≤ 90 then c.toNat + 32 else c.toNat := by
  have h : all8 (fun c => decide ((loc c).toNat = if 65 ≤ c.toNat ∧ c.toNat ≤ 90 then c.toNat + 32 else c.toNat)) = true := by decide +kernel
  exact of_decide_eq_true (all8_of h c)
theorem up_up (c : UInt8) : upc (upc c) = upc c := by
  have h : all8 (fun c => decide (upc (upc c) = upc c)) = true := by decide +kernel
  exact of_decide_eq_true (all8_of h c)
theorem lo_lo (c : UInt8) : loc (loc c) = loc c := by
  have h : all8 (fun c => decide (loc (loc c) = loc c)) = true := by decide +kernel
  exact of_decide_eq_true (all8_of h c)
theorem up_lo (c : UInt8) : upc (loc c) = upc c := by
  have h : all8 (fun c => decide (upc (loc c) = upc c)) = true := by decide +kernel
  exact of_decide_eq_true (all8_of h c)
def mapB (f : UInt8 → UInt8) (s : ByteArray) : ByteArray := ⟨(s.data.toList.map f).toArray⟩
theorem mapB_list (f : UInt8 → UInt8) (s : ByteArray) : (mapB f s).data.toList = s.data.toList.map f := rfl
theorem mapB_size (f : UInt8 → UInt8) (s : ByteArray) : (mapB f s).size = s.size := by
  show (s.data.toList.map f).toArray.size = _
  simp
theorem mapB_mapB (f g k : UInt8 → UInt8) (h : ∀ c, f (g c) = k c) (s : ByteArray) : mapB f (mapB g s) = mapB k s := by
  show (⟨((s.data.toList.map g).map f).toArray⟩ : ByteArray) = _
  rw [List.map_map]
  congr 2
  exact List.map_congr_left fun c _ => h c

/-! ### Blanks -/
theorem snoc_ind {P : List UInt8 → Prop} (h0 : P []) (h1 : ∀ l c, P l → P (l ++ [c])) : ∀ l, P l := fun l => by
  have key : ∀ l : List UInt8, P l.reverse := fun l => by
    induction l with
    | nil => exact h0
    | cons c l ih => rw [List.reverse_cons]; exact h1 _ _ ih
  have := key l.reverse
  rwa [List.reverse_reverse] at this
def trimStep (st : List UInt8 × Bool) (c : UInt8) : List UInt8 × Bool := if c = 32 then (st.1, !st.1.isEmpty) else ((if st.2 then st.1 ++ [32] else st.1) ++ [c], false)
def trimF (l : List UInt8) : List UInt8 × Bool := l.foldl trimStep ([], false)
inductive Nm : List UInt8 → Prop where
  | one (c : UInt8) (h : c ≠ 32) : Nm [c]
  | snoc (l : List UInt8) (c : UInt8) (hl : Nm l) (h : c ≠ 32) : Nm (l ++ [c])
  | gap (l : List UInt8) (c : UInt8) (hl : Nm l) (h : c ≠ 32) : Nm (l ++ [32] ++ [c])
theorem Nm.ne {l : List UInt8} (h : Nm l) : l.isEmpty = false := by cases h <;> simp
theorem trimF_snoc (l : List UInt8) (c : UInt8) : trimF (l ++ [c]) = trimStep (trimF l) c := by unfold trimF; rw [List.foldl_append]; rfl
theorem trim_nm : ∀ l : List UInt8, ((trimF l).1 = [] ∧ (trimF l).2 = false) ∨ Nm (trimF l).1 := by
  refine snoc_ind (.inl ⟨rfl, rfl⟩) fun l c ih => ?_
  · rw [trimF_snoc]
    unfold trimStep
    by_cases hc : c = 32
    · rw [if_pos hc]
      rcases ih with ⟨h1, h2⟩ | h
      · exact .inl ⟨h1, by rw [h1]; rfl⟩
      · exact .inr h
    · rw [if_neg hc]
      refine .inr ?_
      rcases ih with ⟨h1, h2⟩ | h
      · rw [h1, h2]; exact .one c hc
      · cases (trimF l).2
        · exact .snoc _ c h hc
        · exact .gap _ c h hc
theorem nm_trim {l : List UInt8} (h : Nm l) : trimF l = (l, false) := by
  induction h with
  | one c h => show trimStep ([], false) c = _; unfold trimStep; rw [if_neg h]; rfl
  | snoc l c hl h ih => rw [trimF_snoc, ih]; unfold trimStep; rw [if_neg h]; rfl
  | gap l c hl h ih =>
    rw [trimF_snoc, trimF_snoc, ih]
    show trimStep (trimStep (l, false) 32) c = _
    unfold trimStep
    rw [if_pos rfl, if_neg h]
    simp [hl.ne]
theorem trim_again (l : List UInt8) : (trimF (trimF l).1).1 = (trimF l).1 := by
  rcases trim_nm l with ⟨h, -⟩ | h
  · rw [h]; rfl
  · rw [nm_trim h]
theorem trimF_len : ∀ l : List UInt8, (trimF l).1.length + (if (trimF l).2 then 1 else 0) ≤ l.length := by
  refine snoc_ind (by simp [trimF]) fun l c ih => ?_
  · rw [trimF_snoc]
    unfold trimStep
    by_cases hc : c = 32
    · rw [if_pos hc]
      simp only [List.length_append, List.length_singleton]
      have : (trimF l).1.length ≤ l.length := by split at ih <;> omega
      split <;> omega
    · rw [if_neg hc]
      cases h2 : (trimF l).2
      · rw [h2] at ih; simp at ih ⊢; omega
      · rw [h2] at ih; simp at ih ⊢; omega
theorem trim_filter : ∀ l : List UInt8, (trimF l).1.filter (· ≠ 32) = l.filter (· ≠ 32) := by
  refine snoc_ind rfl fun l c ih => ?_
  · rw [trimF_snoc, List.filter_append]
    unfold trimStep
    by_cases hc : c = 32
    · rw [if_pos hc]; subst hc; simpa using ih
    · rw [if_neg hc]
      cases (trimF l).2 <;> simpa [hc] using ih
def trimB (s : ByteArray) : ByteArray := ⟨(trimF s.data.toList).1.toArray⟩
theorem trimB_size (s : ByteArray) : (trimB s).size ≤ s.size := by
  have h := trimF_len s.data.toList
  have h1 : (trimB s).size = (trimF s.data.toList).1.length := by show (trimF s.data.toList).1.toArray.size = _; simp
  have h2 : s.data.toList.length = s.size := by simp
  split at h <;> omega
theorem trimB_again (s : ByteArray) : trimB (trimB s) = trimB s := by
  show (⟨(trimF (trimF s.data.toList).1).1.toArray⟩ : ByteArray) = _
  rw [trim_again]; rfl

/-! ### Runes -/
theorem decode_width (s u : ByteArray) (hsz : s.size = u.size) (h : ∀ k, s.get! k = u.get! k ∨ ((s.get! k).toNat < 128 ∧ (u.get! k).toNat < 128)) (i : Nat) : (Utf8.decode s i).2 = (Utf8.decode u i).2 := by
  have key : ∀ k, (i + k < s.size && (s.get! (i + k)).toNat / 64 == 2) = (i + k < u.size && (u.get! (i + k)).toNat / 64 == 2) ∧ ((i + k < u.size && (u.get! (i + k)).toNat / 64 == 2) = true → s.get! (i + k) = u.get! (i + k)) := by
    intro k
    rw [hsz]
    rcases h (i + k) with e | ⟨a, b⟩
    · rw [e]; exact ⟨rfl, fun _ => rfl⟩
    · have ha : ((s.get! (i + k)).toNat / 64 == 2) = false := by rw [beq_eq_false_iff_ne]; omega
      have hb : ((u.get! (i + k)).toNat / 64 == 2) = false := by rw [beq_eq_false_iff_ne]; omega
      rw [ha, hb]
      exact ⟨rfl, fun hh => by simp at hh⟩
  rcases h (i + 0) with e | ⟨a, b⟩
  · unfold Utf8.decode
    simp only [(key 1).1, (key 2).1, (key 3).1, e]
    split
    · rfl
    · split
      · rename_i h1
        rw [Bool.and_eq_true] at h1
        rw [(key 1).2 h1.2]
      · split
        · rename_i h1
          rw [Bool.and_eq_true, Bool.and_eq_true] at h1
          rw [(key 1).2 h1.1.2, (key 2).2 h1.2]
        · split
          · rename_i h1
            rw [Bool.and_eq_true, Bool.and_eq_true, Bool.and_eq_true] at h1
            rw [(key 1).2 h1.1.1.2, (key 2).2 h1.1.2, (key 3).2 h1.2]
          · rfl
  · unfold Utf8.decode
    simp only [a, b, if_true]
theorem runes_same (s u : ByteArray) (hsz : s.size = u.size) (h : ∀ k, s.get! k = u.get! k ∨ ((s.get! k).toNat < 128 ∧ (u.get! k).toNat < 128)) : Lib.runeCount s = Lib.runeCount u := by
  have key : ∀ fuel pos, Lib.runeCountFrom s fuel pos = Lib.runeCountFrom u fuel pos := by
    intro fuel
    induction fuel with
    | zero => intro pos; rfl
    | succ f ih => intro pos; unfold Lib.runeCountFrom; rw [hsz, decode_width s u hsz h, ih]
  unfold Lib.runeCount
  rw [key, hsz]
theorem get_map (f : UInt8 → UInt8) (s : ByteArray) (k : Nat) : (mapB f s).get! k = if k < s.size then f (s.get! k) else 0 := by
  have h1 : ∀ t : ByteArray, t.get! k = (t.data.toList[k]?).getD 0 := fun t => by
    show t.data[k]! = _
    rw [Array.getElem!_eq_getD, Array.getD_eq_getD_getElem?]
    simp; rfl
  rw [h1, h1, mapB_list, List.getElem?_map]
  by_cases hk : k < s.size
  · rw [if_pos hk]
    have : k < s.data.toList.length := by simpa using hk
    rw [List.getElem?_eq_getElem this]
    rfl
  · rw [if_neg hk]
    have : s.data.toList[k]? = none := List.getElem?_eq_none (by simp; simpa using Nat.le_of_not_lt hk)
    rw [this]; rfl
theorem runes_up (s : ByteArray) : Lib.runeCount (mapB upc s) = Lib.runeCount s := by
  refine runes_same _ _ (mapB_size _ _) fun k => ?_
  rw [get_map]
  by_cases hk : k < s.size
  · rw [if_pos hk]
    have := upc_nat (s.get! k)
    by_cases hc : 97 ≤ (s.get! k).toNat ∧ (s.get! k).toNat ≤ 122
    · rw [if_pos hc] at this; exact .inr ⟨by omega, by omega⟩
    · exact .inl (by unfold upc; rw [if_neg hc])
  · rw [if_neg hk]
    refine .inl ?_
    show (0 : UInt8) = s.data[k]!
    rw [Array.getElem!_eq_getD, Array.getD_eq_getD_getElem?, Array.getElem?_eq_none (by simpa using Nat.le_of_not_lt hk)]
    rfl
end Go.Proofs.YtmdlahkmnjmanaaDoor
