/-
  value: what turned values are. No program in sight. Conditions: each theorem's own.
-/
import Derived.Test.YtmdlahkmnjmanaaDoorValueW
import Derived.Laws.StructEq
namespace Go.Proofs.YtmdlahkmnjmanaaDoor
open Go.RowKit Num
set_option linter.unusedVariables false
set_option linter.unusedSimpArgs false

theorem textOf_ok (s : ByteArray) : (textOf s).ok := by
  unfold textOf
  by_cases h : s.size ≤ 64
  · rw [if_pos h]; exact h
  · rw [if_neg h]; exact ⟨by omega, by omega⟩
theorem textOf_two (s : ByteArray) : (s.size ≤ 64 ∧ textOf s = .text s) ∨ (¬ s.size ≤ 64 ∧ textOf s = .err 2) := by
  unfold textOf
  by_cases h : s.size ≤ 64
  · exact .inl ⟨h, if_pos h⟩
  · exact .inr ⟨h, if_neg h⟩
theorem totext_again (s : ByteArray) : toText (textOf s) = textOf s := by
  rcases textOf_two s with ⟨h, e⟩ | ⟨h, e⟩
  · rw [e]; exact e
  · rw [e]; rfl
theorem numOfText_two (s : ByteArray) : (numOfText s = .err 2) ∨ ∃ n : Int, numOfText s = .num n ∧ -9223372036854775807 ≤ n ∧ n ≤ 9223372036854775807 := by
  unfold numOfText
  cases h : parse (Lib.trimPrefix s.data.toList [45]) with
  | none => exact .inl rfl
  | some v =>
    have := parse_le h
    refine .inr ⟨_, rfl, ?_⟩
    split <;> omega
theorem made_fact (x : RV) (h : x.ok) : ((toNum x).ok ∧ (toText x).ok ∧ (toBool x).ok) ∧ (toNum (toNum x) = toNum x ∧ toText (toText x) = toText x ∧ toBool (toBool x) = toBool x) ∧ ((toNum x).k = 1 ∨ (toNum x).k = 4) ∧ ((toBool x).k = 3 ∨ (toBool x).k = 4) := by
  cases x with
  | blank => exact ⟨⟨⟨by omega, by omega⟩, textOf_ok _, trivial⟩, ⟨rfl, totext_again _, rfl⟩, .inl rfl, .inl rfl⟩
  | num n => exact ⟨⟨h, textOf_ok _, trivial⟩, ⟨rfl, totext_again _, rfl⟩, .inl rfl, .inl rfl⟩
  | err c => exact ⟨⟨h, h, h⟩, ⟨rfl, rfl, rfl⟩, .inr rfl, .inr rfl⟩
  | bool b => exact ⟨⟨by cases b <;> exact ⟨by decide, by decide⟩, textOf_ok _, trivial⟩, ⟨rfl, totext_again _, rfl⟩, .inl rfl, .inl rfl⟩
  | text s =>
    have hN : (toNum (.text s)).ok ∧ toNum (toNum (.text s)) = toNum (.text s) ∧ ((toNum (.text s)).k = 1 ∨ (toNum (.text s)).k = 4) := by
      show (numOfText s).ok ∧ toNum (numOfText s) = numOfText s ∧ ((numOfText s).k = 1 ∨ (numOfText s).k = 4)
      rcases numOfText_two s with e | ⟨n, e, h1, h2⟩
      · rw [e]; exact ⟨⟨by omega, by omega⟩, rfl, .inr rfl⟩
      · rw [e]; exact ⟨⟨h1, h2⟩, rfl, .inl rfl⟩
    have hB : (toBool (.text s)).ok ∧ toBool (toBool (.text s)) = toBool (.text s) ∧ ((toBool (.text s)).k = 3 ∨ (toBool (.text s)).k = 4) := by
      have key : toBool (.text s) = .bool true ∨ toBool (.text s) = .bool false ∨ toBool (.text s) = .err 2 := by
        unfold toBool
        by_cases h1 : s = tTRUE
        · exact .inl (if_pos h1)
        · by_cases h2 : s = tFALSE
          · exact .inr (.inl ((if_neg h1).trans (if_pos h2)))
          · exact .inr (.inr ((if_neg h1).trans (if_neg h2)))
      rcases key with e | e | e
      · rw [e]; exact ⟨trivial, rfl, .inl rfl⟩
      · rw [e]; exact ⟨trivial, rfl, .inl rfl⟩
      · rw [e]; exact ⟨⟨by omega, by omega⟩, rfl, .inr rfl⟩
    exact ⟨⟨hN.1, textOf_ok _, hB.1⟩, ⟨hN.2.1, totext_again _, hB.2.1⟩, hN.2.2, hB.2.2⟩
theorem eql_value (k n k' n' : Int) (s s' : ByteArray) (w : World) : Sem.run Tryd.prog (binOp .eql 24 (.agg #[.int .i64 k, .int .i64 n, .string s]) (.agg #[.int .i64 k', .int .i64 n', .string s'])) w = .ok (.bool (k == k' && (n == n' && s.toList == s'.toList))) w := by
  by_cases h1 : k = k' <;> by_cases h2 : n = n' <;> by_cases h3 : s.toList = s'.toList <;> simp [go_sem, *]
theorem eql_value_self (k n : Int) (s : ByteArray) (w : World) : Sem.run Tryd.prog (binOp .eql 24 (.agg #[.int .i64 k, .int .i64 n, .string s]) (.agg #[.int .i64 k, .int .i64 n, .string s])) w = .ok (.bool true) w := by
  rw [eql_value]; simp
/-- A number's text is read again. -/
theorem num_back (n : Int) (h : -9223372036854775807 ≤ n ∧ n ≤ 9223372036854775807) : numOfText ⟨(txt n).toArray⟩ = .num n ∧ (textOf ⟨(txt n).toArray⟩) = .text ⟨(txt n).toArray⟩ := by
  have hl := len_txtAbs n.natAbs (by omega)
  constructor
  · unfold numOfText txt
    by_cases hn : n < 0
    · rw [if_pos hn]
      have e1 : Lib.hasPrefix (45 :: txtAbs n.natAbs) [45] = true := by simp [Lib.hasPrefix, List.isPrefixOf]
      have e2 : Lib.trimPrefix (45 :: txtAbs n.natAbs) [45] = txtAbs n.natAbs := by unfold Lib.trimPrefix; rw [e1]; rfl
      simp only [e1, e2, parse_txtAbs n.natAbs (by omega), if_true]
      congr 1
      omega
    · rw [if_neg hn]
      obtain ⟨c, l, hc, h1, h2⟩ := txtAbs_head n.natAbs
      have hne : (45 == c) = false := by
        rw [beq_eq_false_iff_ne]
        rintro rfl
        exact absurd h1 (by decide)
      have e1 : Lib.hasPrefix (txtAbs n.natAbs) [45] = false := by rw [hc]; simp [Lib.hasPrefix, List.isPrefixOf, hne]
      have e2 : Lib.trimPrefix (txtAbs n.natAbs) [45] = txtAbs n.natAbs := by unfold Lib.trimPrefix; rw [e1]; rfl
      simp only [e1, e2, parse_txtAbs n.natAbs (by omega), Bool.false_eq_true, if_false]
      congr 1
      omega
  · unfold textOf
    rw [if_pos]
    show (txt n).toArray.size ≤ 64
    rw [List.size_toArray]
    unfold txt
    split
    · simp only [List.length_cons]; omega
    · omega
end Go.Proofs.YtmdlahkmnjmanaaDoor
